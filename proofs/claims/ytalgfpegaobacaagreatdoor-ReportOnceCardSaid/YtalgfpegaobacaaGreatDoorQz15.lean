/- Joined. -/
import Derived.Test.YtalgfpegaobacaaGreatDoorQz7
import Derived.Test.YtalgfpegaobacaaGreatDoorQz9
import Derived.Test.YtalgfpegaobacaaGreatDoorQz10
namespace Go.Proofs.YtalgfpegaobacaaGreatDoor
set_option linter.all false
set_option maxHeartbeats 8000000
set_option maxRecDepth 100000
open Go.RowKit
open Lib (hid)
/- Books, plain: where a unit stands; what a book is when a unit has more, and behind a transfer; what stays. No program in sight. -/
theorem addL64B (ls : List (List Leg)) : Legs64 (addL ls) := by
 intro x hx
 unfold addL vecL at hx
 split at hx
 ·split at hx
  ·rename_i h8
   have : ∀ n : Nat, n ≤ 8 → ∀ x ∈ sumsL (sumG ls) n, In64 x.qty := by
    intro n
    induction n with
    | zero => intro _ x hx; simp [sumsL] at hx
    | succ n ih =>
     intro hn x hx
     simp only [sumsL, List.mem_append] at hx
     rcases hx with hx | hx
     ·exact ih (by omega) x hx
     ·split at hx
      ·simp at hx
      ·simp at hx; subst hx
       exact (fit_iff.1 h8) _ (by omega) (by omega)
   exact this 8 (Nat.le_refl _) x hx
  ·cases hx
 ·cases hx
/- Books: the type; contracts of book.Is, book.Of, the reference's book.Is, book.Of, Same. -/
structure PosV where
 unit : Un
 legs : SlOf Leg
 deriving DecidableEq
def encPosV (x : PosV) : List Value := [.int .i64 x.unit.acc, .int .i64 x.unit.cli, .slice x.legs.A x.legs.val.length x.legs.c]
theorem elPosV : Elem Tryz.prog 29 82 3 40 := elem_of Tryz.underlying29 (z := .agg #[.int .i64 0, .int .i64 0, .slice none 0 0]) (by kernel_rfl) rfl (by omega)
def lgPosV (x : PosV) : Row Leg := ⟨x.unit, x.legs.val⟩
def GoodPosV (w : World) (x : PosV) : Prop := x.legs.val.length ≤ 1000000 ∧ Rs w 2 (x.legs.val.map encLeg) x.legs.A x.legs.c
theorem GoodPosV.keep {w w' : World} {x : PosV} (h : GoodPosV w x) (hb : Below w.heap.size w w') : GoodPosV w' x := ⟨h.1, h.2.keep hb⟩
def isPosV (l : List PosV) : Bool := isK isV (l.map lgPosV)
theorem un_tPosV {x u : Un} : x = u ∨ ((x.acc == u.acc) = false) ∨ ((x.cli == u.cli) = false) := by
 by_cases h : x = u
 ·exact .inl h
 ·exact .inr (neqUn h)
theorem un_dPosV {x u : Un} (h : ((x.acc == u.acc) = false) ∨ ((x.cli == u.cli) = false)) : x ≠ u := by
 rintro rfl
 rcases h with h | h <;> simp at h
theorem lg_atPosV {l : List PosV} {k : Nat} (h : k < l.length) : (l.drop k).map lgPosV = lgPosV l[k] :: (l.drop (k + 1)).map lgPosV := by rw [drop_cons' h, List.map_cons]
theorem pred_PosV {k : Nat} (h : 1 ≤ k) (hk : k ≤ 1000000) : (0 : Int) ≤ (k : Int) - 1 ∧ ((k : Int) - 1).toNat = k - 1 ∧ IntKind.i64.wrap ((k : Int) - 1) = (k : Int) - 1 :=
 ⟨by omega, by omega, IntWalk.i64_in _ (by omega)⟩
theorem bookIs (l : List PosV) (A : Option Addr) (c : Nat) (w : World) (hl : l.length ≤ 1000000) (hr : Rd w A 3 (l.map encPosV)) (hg : ∀ x ∈ l, GoodPosV w x) :
  Calls Tryz.prog 133 #[.slice A l.length c] w fun e w' => e = .returned (.bool (isPosV l)) ∧ Below w.heap.size w w' := by
 have HR := hid hr
 have HG := hid hg
 have HIL := hid (show isPosV l = isKR isV none (l.map lgPosV) from rfl)
 clear hr hg
 go_enter Tryz.func133, Tryz.ntmps133
 go_wp2_with fail
 go_loopw [7] (fun i wr => ∃ (k : Nat) (p : Option Un), k ≤ l.length ∧ i = .int .i64 k ∧ isKR isV none (l.map lgPosV) = isKR isV p ((l.drop k).map lgPosV) ∧ Below w.heap.size w wr ∧ (k = 0 ∧ p = none ∨ 0 < k ∧ p = l[k - 1]?.map (·.unit))) (fun i _ => l.length - (intOf i).toNat)
 case atStart => exact ⟨0, none, Nat.zero_le _, rfl, rfl, Below.refl _ _, .inl ⟨rfl, rfl⟩⟩
 case round =>
  obtain ⟨k, p, hk, rfl, hv, hbl, hx⟩ := hrel
  have HV := hid hv
  have Hbl := hid hbl
  have hz := hbl.size
  clear hv hbl
  by_cases hlt : k < l.length
  ·have kl : (k : Int) < (l.length : Int) := by omega
   have dl := @dT k l.length hlt
   have hd := lg_atPosV hlt
   have hgk := HG.out l[k] (List.getElem_mem hlt)
   have hli := hgk.1
   have HGK := hid (hgk.2.keep Hbl.out)
   obtain ⟨b, o, rfl, hb, hc⟩ := HR.out k (encPosV l[k]) (by simp [hlt])
   have e0 := tC Hbl hb (hc 0 _ rfl)
   have e1 := tC Hbl hb (hc 1 _ rfl)
   have e2 := tC Hbl hb (hc 2 _ rfl)
   simp only [Nat.add_zero] at e0
   clear hc
   have hbw : b < wr.heap.size := by omega
   cases hq : ((l[k].legs.val.length : Int) == 0)
   ·have hne : (lgPosV l[k]).rows ≠ [] := by
     intro h
     have : l[k].legs.val = [] := h
     rw [this] at hq
     simp at hq
    cases hiv : isV l[k].legs.val
    ·have CI := hid (fun W (h : Rd W l[k].legs.A 2 (l[k].legs.val.map encLeg)) => hiv ▸ vecIs l[k].legs.val l[k].legs.A l[k].legs.c W (by omega) h)
     have HN := hid (show isKR isV none (l.map lgPosV) = false from by rw [HV.out, hd]; exact isKR_no (.inr (.inl hiv)))
     clear hx hgk hd hne hiv
     go_wp2_with fail
     refine wp_region_held_drew (S := (fun w' => (w'.cell? ⟨wr.heap.size, 0, none⟩ = some (.int .i64 l[k].unit.acc) ∧ w'.cell? ⟨wr.heap.size, 1, none⟩ = some (.int .i64 l[k].unit.cli) ∧ w'.cell? ⟨wr.heap.size, 2, none⟩ = some (.slice l[k].legs.A l[k].legs.val.length l[k].legs.c)))) (by kernel_rfl) ?_ (fun hHeld => ?_)
     ·(exact tK)
     refine tQ 0 ?_
     refine tS ?_
     refine tQ 1 ?_
     refine tS ?_
     refine tQ 2 ?_
     refine tS ?_
     refine tQ 3 ?_
     refine tS ?_
     refine tQ 4 ?_
     refine tS ?_
     refine tQ 5 ?_
     refine tS ?_
     refine tQ 6 ?_
     refine tS ?_
     refine tR (.cons (i := 7) rfl (fun K hK => ?_) .nil)
     (try simp only [List.getElem_toArray])
     go_simp
     (go_at_call 160; (with_reducible refine cM (CI.out _ (HGK.out.keep tB).rd) fun w1 hb1 fc1 fg1 hc1 hf1 hz1 => ?_); (try simp at hz1))
     refine hK.out _ _ ?_ (fun hHeld => ?_)
     focus ((exact tK); done)
     refine tS ?_
     refine tQ 8 ?_
     refine tS ?_
     refine tQ 9 ?_
     refine tS ?_
     refine tQ 10 ?_
     refine tS ?_
     refine tN 11 ?_
     refine tS ?_
     refine tN 12 ?_
     refine tS ?_
     refine tN 13 ?_
     refine tS ?_
     refine tN 14 ?_
     refine tS ?_
     refine tN 15 ?_
     refine tS ?_
     refine tN 16 ?_
     refine tS ?_
     refine tN 17 ?_
     refine tS ?_
     refine tN 18 ?_
     refine tS ?_
     refine tN 19 ?_
     refine tS ?_
     refine tN 20 ?_
     refine tS ?_
     refine tN 21 ?_
     refine tS ?_
     refine tN 22 ?_
     refine tS ?_
     refine tN 23 ?_
     refine tS ?_
     refine tN 24 ?_
     refine tS ?_
     refine tQ 25 ?_
     refine tS ?_
     refine wpAnyH_done (by kernel_rfl) ?_ _
     go_wp2_with fail
     go_ret
     exact ⟨by rw [HIL.out, HN.out]; rfl, by have hbl := Hbl.out; exact tB⟩
    ·have CI := hid (fun W (h : Rd W l[k].legs.A 2 (l[k].legs.val.map encLeg)) => hiv ▸ vecIs l[k].legs.val l[k].legs.A l[k].legs.c W (by omega) h)
     rcases hx with ⟨k0, hx⟩ | ⟨k0, hx⟩
     ·have g0 : decide (0 < k) = false := by simp; omega
      have HN := hid (show isKR isV p ((l.drop k).map lgPosV) = isKR isV (some l[k].unit) ((l.drop (k + 1)).map lgPosV) from by rw [hd]; exact isKR_step hne hiv (fun q hq => by rw [hx] at hq; cases hq))
      clear hx k0 hgk hd hne hiv
      go_wp2_with fail
      refine wp_region_held_drew (S := (fun w' => (w'.cell? ⟨wr.heap.size, 0, none⟩ = some (.int .i64 l[k].unit.acc) ∧ w'.cell? ⟨wr.heap.size, 1, none⟩ = some (.int .i64 l[k].unit.cli) ∧ w'.cell? ⟨wr.heap.size, 2, none⟩ = some (.slice l[k].legs.A l[k].legs.val.length l[k].legs.c)))) (by kernel_rfl) ?_ (fun hHeld => ?_)
      ·(exact tK)
      refine tQ 0 ?_
      refine tS ?_
      refine tQ 1 ?_
      refine tS ?_
      refine tQ 2 ?_
      refine tS ?_
      refine tQ 3 ?_
      refine tS ?_
      refine tQ 4 ?_
      refine tS ?_
      refine tQ 5 ?_
      refine tS ?_
      refine tQ 6 ?_
      refine tS ?_
      refine tR (.cons (i := 7) rfl (fun K hK => ?_) .nil)
      (try simp only [List.getElem_toArray])
      go_simp
      (go_at_call 160; (with_reducible refine cM (CI.out _ (HGK.out.keep tB).rd) fun w1 hb1 fc1 fg1 hc1 hf1 hz1 => ?_); (try simp at hz1))
      refine hK.out _ _ ?_ (fun hHeld => ?_)
      focus ((exact tK); done)
      refine tS ?_
      refine tQ 8 ?_
      refine tS ?_
      refine tQ 9 ?_
      refine tS ?_
      refine tQ 10 ?_
      refine tS ?_
      refine tQ 11 ?_
      refine tS ?_
      refine tQ 12 ?_
      refine tS ?_
      refine tQ 13 ?_
      refine tS ?_
      refine tN 14 ?_
      refine tS ?_
      refine tN 15 ?_
      refine tS ?_
      refine tN 16 ?_
      refine tS ?_
      refine tN 17 ?_
      refine tS ?_
      refine tN 18 ?_
      refine tS ?_
      refine tN 19 ?_
      refine tS ?_
      refine tN 20 ?_
      refine tS ?_
      refine tN 21 ?_
      refine tS ?_
      refine tN 22 ?_
      refine tS ?_
      refine tN 23 ?_
      refine tS ?_
      refine tQ 24 ?_
      refine tS ?_
      refine tQ 25 ?_
      refine tS ?_
      refine wpAnyH_done (by kernel_rfl) ?_ _
      go_wp2_with fail
      go_roundw
      case rel => exact ⟨k + 1, some l[k].unit, by omega, by go_num, by rw [HV.out, HN.out], by have hbl := Hbl.out; exact tB, .inr ⟨by omega, by rw [Nat.add_sub_cancel, List.getElem?_eq_getElem hlt]; rfl⟩⟩
      case measure => simp [intOf]; omega
     ·have g0 : decide (0 < k) = true := by simpa using k0
      have hk0 : k - 1 < l.length := by omega
      have hp : p = some l[k - 1].unit := by rw [hx, List.getElem?_eq_getElem hk0]; rfl
      obtain ⟨b1, o1, q1, hb1, hc1⟩ := HR.out (k - 1) (encPosV l[k - 1]) (by simp [hk0])
      injection q1 with q1
      injection q1 with q1 q2 _
      subst q1 q2
      have f0 := tC Hbl hb (hc1 0 _ rfl)
      have f1 := tC Hbl hb (hc1 1 _ rfl)
      simp only [Nat.add_zero] at f0
      clear hc1 hb1
      cases hlo : lessU l[k - 1].unit l[k].unit
      ·have CO := hid (fun W => hlo ▸ acctLess l[k - 1].unit l[k].unit W)
       have HN := hid (show isKR isV none (l.map lgPosV) = false from by rw [HV.out, hd]; exact isKR_no (.inr (.inr ⟨_, hp, hlo⟩)))
       clear hx hlo hp hgk hd hne hiv
       have lk : (k : Int) - 1 < (l.length : Int) := by omega
       have k1 : (1 : Int) ≤ (k : Int) := by omega
       have k2 : 1 ≤ k := by omega
       have lk2 : (k : Int) ≤ (l.length : Int) := by omega
       have lk3 : (k : Int) < (l.length : Int) + 1 := by omega
       have lk4 : k < l.length + 1 := by omega
       obtain ⟨nk, tk, wk⟩ := pred_PosV k0 (by omega)
       go_wp2_with fail
       go_region_held3 (fun w' => (w'.cell? ⟨wr.heap.size, 0, none⟩ = some (.int .i64 l[k].unit.acc) ∧ w'.cell? ⟨wr.heap.size, 1, none⟩ = some (.int .i64 l[k].unit.cli) ∧ w'.cell? ⟨wr.heap.size, 2, none⟩ = some (.slice l[k].legs.A l[k].legs.val.length l[k].legs.c)) ∧ (w'.cell? ⟨b, o + (k - 1) * 3, none⟩ = some (.int .i64 l[k - 1].unit.acc) ∧ w'.cell? ⟨b, o + (k - 1) * 3 + 1, none⟩ = some (.int .i64 l[k - 1].unit.cli))) (exact tK) (first | (go_at_call 160; (with_reducible refine cM (CI.out _ (HGK.out.keep tB).rd) fun w1 hb1 fc1 fg1 hc1 hf1 hz1 => ?_); (try simp at hz1)) | (go_at_call 161; (with_reducible refine cM (CO.out _) fun w2 hb2 fc2 fg2 hc2 hf2 hz2 => ?_); (try simp at hz2)) | fail)
       clear nk tk wk
       go_wp2_with fail
       go_ret
       exact ⟨by rw [HIL.out, HN.out]; rfl, by have hbl := Hbl.out; exact tB⟩
      ·have CO := hid (fun W => hlo ▸ acctLess l[k - 1].unit l[k].unit W)
       have HN := hid (show isKR isV p ((l.drop k).map lgPosV) = isKR isV (some l[k].unit) ((l.drop (k + 1)).map lgPosV) from by rw [hd]; exact isKR_step hne hiv (fun q hq => by rw [hp] at hq; injection hq with hq; rw [← hq]; exact hlo))
       clear hx hlo hp hgk hd hne hiv
       have lk : (k : Int) - 1 < (l.length : Int) := by omega
       have k1 : (1 : Int) ≤ (k : Int) := by omega
       have k2 : 1 ≤ k := by omega
       have lk2 : (k : Int) ≤ (l.length : Int) := by omega
       have lk3 : (k : Int) < (l.length : Int) + 1 := by omega
       have lk4 : k < l.length + 1 := by omega
       obtain ⟨nk, tk, wk⟩ := pred_PosV k0 (by omega)
       go_wp2_with fail
       go_region_held3 (fun w' => (w'.cell? ⟨wr.heap.size, 0, none⟩ = some (.int .i64 l[k].unit.acc) ∧ w'.cell? ⟨wr.heap.size, 1, none⟩ = some (.int .i64 l[k].unit.cli) ∧ w'.cell? ⟨wr.heap.size, 2, none⟩ = some (.slice l[k].legs.A l[k].legs.val.length l[k].legs.c)) ∧ (w'.cell? ⟨b, o + (k - 1) * 3, none⟩ = some (.int .i64 l[k - 1].unit.acc) ∧ w'.cell? ⟨b, o + (k - 1) * 3 + 1, none⟩ = some (.int .i64 l[k - 1].unit.cli))) (exact tK) (first | (go_at_call 160; (with_reducible refine cM (CI.out _ (HGK.out.keep tB).rd) fun w1 hb1 fc1 fg1 hc1 hf1 hz1 => ?_); (try simp at hz1)) | (go_at_call 161; (with_reducible refine cM (CO.out _) fun w2 hb2 fc2 fg2 hc2 hf2 hz2 => ?_); (try simp at hz2)) | fail)
       clear nk tk wk
       go_wp2_with fail
       go_roundw
       case rel => exact ⟨k + 1, some l[k].unit, by omega, by go_num, by rw [HV.out, HN.out], by have hbl := Hbl.out; exact tB, .inr ⟨by omega, by rw [Nat.add_sub_cancel, List.getElem?_eq_getElem hlt]; rfl⟩⟩
       case measure => simp [intOf]; omega
   ·have HN := hid (show isKR isV none (l.map lgPosV) = false from by
     rw [HV.out, hd]
     refine isKR_no (.inl ?_)
     have h1 : (l[k].legs.val.length : Int) = 0 := by simpa using hq
     show l[k].legs.val = []
     exact List.eq_nil_of_length_eq_zero (by omega))
    clear hx hgk hd
    go_wp2_with fail
    refine wp_region_held_drew (S := (fun w' => (w'.cell? ⟨wr.heap.size, 0, none⟩ = some (.int .i64 l[k].unit.acc) ∧ w'.cell? ⟨wr.heap.size, 1, none⟩ = some (.int .i64 l[k].unit.cli) ∧ w'.cell? ⟨wr.heap.size, 2, none⟩ = some (.slice l[k].legs.A l[k].legs.val.length l[k].legs.c)))) (by kernel_rfl) ?_ (fun hHeld => ?_)
    ·(exact tK)
    refine tQ 0 ?_
    refine tS ?_
    refine tQ 1 ?_
    refine tS ?_
    refine tQ 2 ?_
    refine tS ?_
    refine tQ 3 ?_
    refine tS ?_
    refine tQ 4 ?_
    refine tS ?_
    refine tN 5 ?_
    refine tS ?_
    refine tN 6 ?_
    refine tS ?_
    refine tN 7 ?_
    refine tS ?_
    refine tN 8 ?_
    refine tS ?_
    refine tQ 9 ?_
    refine tS ?_
    refine tQ 10 ?_
    refine tS ?_
    refine tN 11 ?_
    refine tS ?_
    refine tN 12 ?_
    refine tS ?_
    refine tN 13 ?_
    refine tS ?_
    refine tN 14 ?_
    refine tS ?_
    refine tN 15 ?_
    refine tS ?_
    refine tN 16 ?_
    refine tS ?_
    refine tN 17 ?_
    refine tS ?_
    refine tN 18 ?_
    refine tS ?_
    refine tN 19 ?_
    refine tS ?_
    refine tN 20 ?_
    refine tS ?_
    refine tN 21 ?_
    refine tS ?_
    refine tN 22 ?_
    refine tS ?_
    refine tN 23 ?_
    refine tS ?_
    refine tN 24 ?_
    refine tS ?_
    refine tQ 25 ?_
    refine tS ?_
    refine wpAnyH_done (by kernel_rfl) ?_ _
    go_wp2_with fail
    go_ret
    exact ⟨by rw [HIL.out, HN.out]; rfl, by have hbl := Hbl.out; exact tB⟩
  ·have dl := @dF k l.length hlt
   have HD := hid (drop_all (l := l) (k := k) (by omega))
   have HN := hid (show isKR isV none (l.map lgPosV) = true from by rw [HV.out, HD.out]; cases p <;> rfl)
   go_wp2_with fail
   go_ret
   exact ⟨by rw [HIL.out, HN.out]; rfl, Hbl.out⟩
theorem refPosVIs (l : List PosV) (A : Option Addr) (c : Nat) (w : World) (hl : l.length ≤ 1000000) (hr : Rd w A 3 (l.map encPosV)) (hg : ∀ x ∈ l, GoodPosV w x) :
  Calls Tryz.prog 56 #[.slice A l.length c] w fun e w' => e = .returned (.bool (isPosV l)) ∧ Below w.heap.size w w' := by
 have HR := hid hr
 have HG := hid hg
 have HIL := hid (show isPosV l = isKR isV none (l.map lgPosV) from rfl)
 clear hr hg
 go_enter Tryz.func56, Tryz.ntmps56
 go_wp2_with fail
 go_loopw [3] (fun i wr => ∃ (k : Nat) (p : Option Un), k ≤ l.length ∧ i = .int .i64 k ∧ isKR isV none (l.map lgPosV) = isKR isV p ((l.drop k).map lgPosV) ∧ Below w.heap.size w wr ∧ (k = 0 ∧ p = none ∨ 0 < k ∧ p = l[k - 1]?.map (·.unit))) (fun i _ => l.length - (intOf i).toNat)
 case atStart => exact ⟨0, none, Nat.zero_le _, rfl, rfl, Below.refl _ _, .inl ⟨rfl, rfl⟩⟩
 case round =>
  obtain ⟨k, p, hk, rfl, hv, hbl, hx⟩ := hrel
  have HV := hid hv
  have Hbl := hid hbl
  have hz := hbl.size
  clear hv hbl
  by_cases hlt : k < l.length
  ·have kl : (k : Int) < (l.length : Int) := by omega
   have dl := @dT k l.length hlt
   have hd := lg_atPosV hlt
   have hgk := HG.out l[k] (List.getElem_mem hlt)
   have hli := hgk.1
   have HGK := hid (hgk.2.keep Hbl.out)
   obtain ⟨b, o, rfl, hb, hc⟩ := HR.out k (encPosV l[k]) (by simp [hlt])
   have e0 := tC Hbl hb (hc 0 _ rfl)
   have e1 := tC Hbl hb (hc 1 _ rfl)
   have e2 := tC Hbl hb (hc 2 _ rfl)
   simp only [Nat.add_zero] at e0
   clear hc
   have hbw : b < wr.heap.size := by omega
   cases hq : ((l[k].legs.val.length : Int) == 0)
   ·have hne : (lgPosV l[k]).rows ≠ [] := by
     intro h
     have : l[k].legs.val = [] := h
     rw [this] at hq
     simp at hq
    cases hiv : isV l[k].legs.val
    ·have CI := hid (fun W (h : Rd W l[k].legs.A 2 (l[k].legs.val.map encLeg)) => hiv ▸ refIs11 l[k].legs.val l[k].legs.A l[k].legs.c W (by omega) h)
     have HN := hid (show isKR isV none (l.map lgPosV) = false from by rw [HV.out, hd]; exact isKR_no (.inr (.inl hiv)))
     clear hx hgk hd hne hiv
     go_wp2_with fail
     refine wp_region_held_drew (S := (fun w' => (w'.cell? ⟨b, o + k * 3, none⟩ = some (.int .i64 l[k].unit.acc) ∧ w'.cell? ⟨b, o + k * 3 + 1, none⟩ = some (.int .i64 l[k].unit.cli) ∧ w'.cell? ⟨b, o + k * 3 + 2, none⟩ = some (.slice l[k].legs.A l[k].legs.val.length l[k].legs.c)))) (by kernel_rfl) ?_ (fun hHeld => ?_)
     ·(exact tK)
     refine tQ 0 ?_
     refine tS ?_
     refine tQ 1 ?_
     refine tS ?_
     refine tQ 2 ?_
     refine tS ?_
     refine tQ 3 ?_
     refine tS ?_
     refine tQ 4 ?_
     refine tS ?_
     refine tQ 5 ?_
     refine tS ?_
     refine tQ 6 ?_
     refine tS ?_
     refine tQ 7 ?_
     refine tS ?_
     refine tQ 8 ?_
     refine tS ?_
     refine tQ 9 ?_
     refine tS ?_
     refine tQ 10 ?_
     refine tS ?_
     refine tQ 11 ?_
     refine tS ?_
     refine tQ 12 ?_
     refine tS ?_
     refine tR (.cons (i := 13) rfl (fun K hK => ?_) .nil)
     (try simp only [List.getElem_toArray])
     go_simp
     (go_at_call 92; (with_reducible refine cM (CI.out _ (HGK.out.keep tB).rd) fun w1 hb1 fc1 fg1 hc1 hf1 hz1 => ?_); (try simp at hz1))
     refine hK.out _ _ ?_ (fun hHeld => ?_)
     focus ((exact tK); done)
     refine tS ?_
     refine tQ 14 ?_
     refine tS ?_
     refine tQ 15 ?_
     refine tS ?_
     refine tQ 16 ?_
     refine tS ?_
     refine tN 17 ?_
     refine tS ?_
     refine tN 18 ?_
     refine tS ?_
     refine tN 19 ?_
     refine tS ?_
     refine tN 20 ?_
     refine tS ?_
     refine tN 21 ?_
     refine tS ?_
     refine tN 22 ?_
     refine tS ?_
     refine tN 23 ?_
     refine tS ?_
     refine tN 24 ?_
     refine tS ?_
     refine tN 25 ?_
     refine tS ?_
     refine tN 26 ?_
     refine tS ?_
     refine tN 27 ?_
     refine tS ?_
     refine tN 28 ?_
     refine tS ?_
     refine tN 29 ?_
     refine tS ?_
     refine tN 30 ?_
     refine tS ?_
     refine tN 31 ?_
     refine tS ?_
     refine tN 32 ?_
     refine tS ?_
     refine tN 33 ?_
     refine tS ?_
     refine tQ 34 ?_
     refine tS ?_
     refine wpAnyH_done (by kernel_rfl) ?_ _
     go_wp2_with fail
     go_ret
     exact ⟨by rw [HIL.out, HN.out]; rfl, by have hbl := Hbl.out; exact tB⟩
    ·have CI := hid (fun W (h : Rd W l[k].legs.A 2 (l[k].legs.val.map encLeg)) => hiv ▸ refIs11 l[k].legs.val l[k].legs.A l[k].legs.c W (by omega) h)
     rcases hx with ⟨k0, hx⟩ | ⟨k0, hx⟩
     ·have g0 : decide (0 < k) = false := by simp; omega
      have HN := hid (show isKR isV p ((l.drop k).map lgPosV) = isKR isV (some l[k].unit) ((l.drop (k + 1)).map lgPosV) from by rw [hd]; exact isKR_step hne hiv (fun q hq => by rw [hx] at hq; cases hq))
      clear hx k0 hgk hd hne hiv
      go_wp2_with fail
      refine wp_region_held_drew (S := (fun w' => (w'.cell? ⟨b, o + k * 3, none⟩ = some (.int .i64 l[k].unit.acc) ∧ w'.cell? ⟨b, o + k * 3 + 1, none⟩ = some (.int .i64 l[k].unit.cli) ∧ w'.cell? ⟨b, o + k * 3 + 2, none⟩ = some (.slice l[k].legs.A l[k].legs.val.length l[k].legs.c)))) (by kernel_rfl) ?_ (fun hHeld => ?_)
      ·(exact tK)
      refine tQ 0 ?_
      refine tS ?_
      refine tQ 1 ?_
      refine tS ?_
      refine tQ 2 ?_
      refine tS ?_
      refine tQ 3 ?_
      refine tS ?_
      refine tQ 4 ?_
      refine tS ?_
      refine tQ 5 ?_
      refine tS ?_
      refine tQ 6 ?_
      refine tS ?_
      refine tQ 7 ?_
      refine tS ?_
      refine tQ 8 ?_
      refine tS ?_
      refine tQ 9 ?_
      refine tS ?_
      refine tQ 10 ?_
      refine tS ?_
      refine tQ 11 ?_
      refine tS ?_
      refine tQ 12 ?_
      refine tS ?_
      refine tR (.cons (i := 13) rfl (fun K hK => ?_) .nil)
      (try simp only [List.getElem_toArray])
      go_simp
      (go_at_call 92; (with_reducible refine cM (CI.out _ (HGK.out.keep tB).rd) fun w1 hb1 fc1 fg1 hc1 hf1 hz1 => ?_); (try simp at hz1))
      refine hK.out _ _ ?_ (fun hHeld => ?_)
      focus ((exact tK); done)
      refine tS ?_
      refine tQ 14 ?_
      refine tS ?_
      refine tQ 15 ?_
      refine tS ?_
      refine tQ 16 ?_
      refine tS ?_
      refine tQ 17 ?_
      refine tS ?_
      refine tQ 18 ?_
      refine tS ?_
      refine tQ 19 ?_
      refine tS ?_
      refine tN 20 ?_
      refine tS ?_
      refine tN 21 ?_
      refine tS ?_
      refine tN 22 ?_
      refine tS ?_
      refine tN 23 ?_
      refine tS ?_
      refine tN 24 ?_
      refine tS ?_
      refine tN 25 ?_
      refine tS ?_
      refine tN 26 ?_
      refine tS ?_
      refine tN 27 ?_
      refine tS ?_
      refine tN 28 ?_
      refine tS ?_
      refine tN 29 ?_
      refine tS ?_
      refine tN 30 ?_
      refine tS ?_
      refine tN 31 ?_
      refine tS ?_
      refine tN 32 ?_
      refine tS ?_
      refine tQ 33 ?_
      refine tS ?_
      refine tQ 34 ?_
      refine tS ?_
      refine wpAnyH_done (by kernel_rfl) ?_ _
      go_wp2_with fail
      go_roundw
      case rel => exact ⟨k + 1, some l[k].unit, by omega, by go_num, by rw [HV.out, HN.out], by have hbl := Hbl.out; exact tB, .inr ⟨by omega, by rw [Nat.add_sub_cancel, List.getElem?_eq_getElem hlt]; rfl⟩⟩
      case measure => simp [intOf]; omega
     ·have g0 : decide (0 < k) = true := by simpa using k0
      have hk0 : k - 1 < l.length := by omega
      have hp : p = some l[k - 1].unit := by rw [hx, List.getElem?_eq_getElem hk0]; rfl
      obtain ⟨b1, o1, q1, hb1, hc1⟩ := HR.out (k - 1) (encPosV l[k - 1]) (by simp [hk0])
      injection q1 with q1
      injection q1 with q1 q2 _
      subst q1 q2
      have f0 := tC Hbl hb (hc1 0 _ rfl)
      have f1 := tC Hbl hb (hc1 1 _ rfl)
      simp only [Nat.add_zero] at f0
      clear hc1 hb1
      cases hlo : lessU l[k - 1].unit l[k].unit
      ·have CO := hid (fun W => hlo ▸ ref15Less l[k - 1].unit l[k].unit W)
       have HN := hid (show isKR isV none (l.map lgPosV) = false from by rw [HV.out, hd]; exact isKR_no (.inr (.inr ⟨_, hp, hlo⟩)))
       clear hx hlo hp hgk hd hne hiv
       have lk : (k : Int) - 1 < (l.length : Int) := by omega
       have k1 : (1 : Int) ≤ (k : Int) := by omega
       have k2 : 1 ≤ k := by omega
       have lk2 : (k : Int) ≤ (l.length : Int) := by omega
       have lk3 : (k : Int) < (l.length : Int) + 1 := by omega
       have lk4 : k < l.length + 1 := by omega
       obtain ⟨nk, tk, wk⟩ := pred_PosV k0 (by omega)
       go_wp2_with fail
       go_region_held3 (fun w' => (w'.cell? ⟨b, o + k * 3, none⟩ = some (.int .i64 l[k].unit.acc) ∧ w'.cell? ⟨b, o + k * 3 + 1, none⟩ = some (.int .i64 l[k].unit.cli) ∧ w'.cell? ⟨b, o + k * 3 + 2, none⟩ = some (.slice l[k].legs.A l[k].legs.val.length l[k].legs.c)) ∧ (w'.cell? ⟨b, o + (k - 1) * 3, none⟩ = some (.int .i64 l[k - 1].unit.acc) ∧ w'.cell? ⟨b, o + (k - 1) * 3 + 1, none⟩ = some (.int .i64 l[k - 1].unit.cli))) (exact tK) (first | (go_at_call 92; (with_reducible refine cM (CI.out _ (HGK.out.keep tB).rd) fun w1 hb1 fc1 fg1 hc1 hf1 hz1 => ?_); (try simp at hz1)) | (go_at_call 57; (with_reducible refine cM (CO.out _) fun w2 hb2 fc2 fg2 hc2 hf2 hz2 => ?_); (try simp at hz2)) | fail)
       clear nk tk wk
       go_wp2_with fail
       go_ret
       exact ⟨by rw [HIL.out, HN.out]; rfl, by have hbl := Hbl.out; exact tB⟩
      ·have CO := hid (fun W => hlo ▸ ref15Less l[k - 1].unit l[k].unit W)
       have HN := hid (show isKR isV p ((l.drop k).map lgPosV) = isKR isV (some l[k].unit) ((l.drop (k + 1)).map lgPosV) from by rw [hd]; exact isKR_step hne hiv (fun q hq => by rw [hp] at hq; injection hq with hq; rw [← hq]; exact hlo))
       clear hx hlo hp hgk hd hne hiv
       have lk : (k : Int) - 1 < (l.length : Int) := by omega
       have k1 : (1 : Int) ≤ (k : Int) := by omega
       have k2 : 1 ≤ k := by omega
       have lk2 : (k : Int) ≤ (l.length : Int) := by omega
       have lk3 : (k : Int) < (l.length : Int) + 1 := by omega
       have lk4 : k < l.length + 1 := by omega
       obtain ⟨nk, tk, wk⟩ := pred_PosV k0 (by omega)
       go_wp2_with fail
       go_region_held3 (fun w' => (w'.cell? ⟨b, o + k * 3, none⟩ = some (.int .i64 l[k].unit.acc) ∧ w'.cell? ⟨b, o + k * 3 + 1, none⟩ = some (.int .i64 l[k].unit.cli) ∧ w'.cell? ⟨b, o + k * 3 + 2, none⟩ = some (.slice l[k].legs.A l[k].legs.val.length l[k].legs.c)) ∧ (w'.cell? ⟨b, o + (k - 1) * 3, none⟩ = some (.int .i64 l[k - 1].unit.acc) ∧ w'.cell? ⟨b, o + (k - 1) * 3 + 1, none⟩ = some (.int .i64 l[k - 1].unit.cli))) (exact tK) (first | (go_at_call 92; (with_reducible refine cM (CI.out _ (HGK.out.keep tB).rd) fun w1 hb1 fc1 fg1 hc1 hf1 hz1 => ?_); (try simp at hz1)) | (go_at_call 57; (with_reducible refine cM (CO.out _) fun w2 hb2 fc2 fg2 hc2 hf2 hz2 => ?_); (try simp at hz2)) | fail)
       clear nk tk wk
       go_wp2_with fail
       go_roundw
       case rel => exact ⟨k + 1, some l[k].unit, by omega, by go_num, by rw [HV.out, HN.out], by have hbl := Hbl.out; exact tB, .inr ⟨by omega, by rw [Nat.add_sub_cancel, List.getElem?_eq_getElem hlt]; rfl⟩⟩
       case measure => simp [intOf]; omega
   ·have HN := hid (show isKR isV none (l.map lgPosV) = false from by
     rw [HV.out, hd]
     refine isKR_no (.inl ?_)
     have h1 : (l[k].legs.val.length : Int) = 0 := by simpa using hq
     show l[k].legs.val = []
     exact List.eq_nil_of_length_eq_zero (by omega))
    clear hx hgk hd
    go_wp2_with fail
    refine wp_region_held_drew (S := (fun w' => (w'.cell? ⟨b, o + k * 3, none⟩ = some (.int .i64 l[k].unit.acc) ∧ w'.cell? ⟨b, o + k * 3 + 1, none⟩ = some (.int .i64 l[k].unit.cli) ∧ w'.cell? ⟨b, o + k * 3 + 2, none⟩ = some (.slice l[k].legs.A l[k].legs.val.length l[k].legs.c)))) (by kernel_rfl) ?_ (fun hHeld => ?_)
    ·(exact tK)
    refine tQ 0 ?_
    refine tS ?_
    refine tQ 1 ?_
    refine tS ?_
    refine tQ 2 ?_
    refine tS ?_
    refine tQ 3 ?_
    refine tS ?_
    refine tQ 4 ?_
    refine tS ?_
    refine tQ 5 ?_
    refine tS ?_
    refine tQ 6 ?_
    refine tS ?_
    refine tQ 7 ?_
    refine tS ?_
    refine tN 8 ?_
    refine tS ?_
    refine tN 9 ?_
    refine tS ?_
    refine tN 10 ?_
    refine tS ?_
    refine tN 11 ?_
    refine tS ?_
    refine tN 12 ?_
    refine tS ?_
    refine tN 13 ?_
    refine tS ?_
    refine tN 14 ?_
    refine tS ?_
    refine tQ 15 ?_
    refine tS ?_
    refine tQ 16 ?_
    refine tS ?_
    refine tN 17 ?_
    refine tS ?_
    refine tN 18 ?_
    refine tS ?_
    refine tN 19 ?_
    refine tS ?_
    refine tN 20 ?_
    refine tS ?_
    refine tN 21 ?_
    refine tS ?_
    refine tN 22 ?_
    refine tS ?_
    refine tN 23 ?_
    refine tS ?_
    refine tN 24 ?_
    refine tS ?_
    refine tN 25 ?_
    refine tS ?_
    refine tN 26 ?_
    refine tS ?_
    refine tN 27 ?_
    refine tS ?_
    refine tN 28 ?_
    refine tS ?_
    refine tN 29 ?_
    refine tS ?_
    refine tN 30 ?_
    refine tS ?_
    refine tN 31 ?_
    refine tS ?_
    refine tN 32 ?_
    refine tS ?_
    refine tN 33 ?_
    refine tS ?_
    refine tQ 34 ?_
    refine tS ?_
    refine wpAnyH_done (by kernel_rfl) ?_ _
    go_wp2_with fail
    go_ret
    exact ⟨by rw [HIL.out, HN.out]; rfl, by have hbl := Hbl.out; exact tB⟩
  ·have dl := @dF k l.length hlt
   have HD := hid (drop_all (l := l) (k := k) (by omega))
   have HN := hid (show isKR isV none (l.map lgPosV) = true from by rw [HV.out, HD.out]; cases p <;> rfl)
   go_wp2_with fail
   go_ret
   exact ⟨by rw [HIL.out, HN.out]; rfl, Hbl.out⟩
/- Books: contracts of book.Of, the reference's book.Of, Same; the law's Few. -/
theorem legClone (l : List Leg) (A : Option Addr) (c : Nat) (w : World) (hl : l.length ≤ 1099511627776) (hr : Rs w 2 (l.map encLeg) A c) :
  Calls Tryz.prog 100 #[.slice A l.length c] w fun e w' => ∃ v, e = .returned v ∧ Own w' w.heap.size 64 2 v (l.map encLeg) ∧ Below w.heap.size w w' := by
 have Hr := hid hr
 have hnil := fun W : World => Lib.run_eql_slice_nil (P := Tryz.prog) W 80 64 A l.length c 0 0 Tryz.underlying80
 rcases A with _ | ad
 ·have hl0 : l = [] := List.map_eq_nil_iff.1 hr.nilrows
  have hc0 : c = 0 := hr.nil rfl
  subst hl0 hc0
  simp only [List.length_nil] at hnil ⊢
  clear hr
  go_enter Tryz.func100, Tryz.ntmps100
  go_wp2_with fail
  go_ret
  exact ⟨_, rfl, Own.nil _ _ _ _, tB⟩
 ·clear hr
  go_enter Tryz.func100, Tryz.ntmps100
  go_wp2_with (at_builtin; refine wpList_app rfl _ _ _ rfl elLeg w.heap.size _ [] rfl (Own.made w (Nat.le_refl _)) (some ad) l.length c rfl (l.map encLeg) (by simp) (fun h => by cases h) (Hr.out.keep ((Below.refl _ _).alloc (Nat.le_refl _) _)).rd (rowsLeg l) (by unfold maxLen; simp; omega) (by simp; omega) (by simp) ?_; intro v' w3 hown3 hb3)
  go_ret
  exact ⟨v', rfl, by simpa using hown3, ((Below.refl _ _).alloc (Nat.le_refl _) _).trans hb3⟩
theorem few_inPosV (l : List Leg) (m : Nat) (hm : (l.take 12).length = m) (A : Option Addr) (c : Nat) (w : World) (hr : Rs w 2 (l.map encLeg) A c) :
  Calls Tryz.prog 47 #[.slice A l.length c] w fun e w' => e = .returned (.slice A m c) ∧ Below w.heap.size w w' :=
 (law11FewN l m (hid hm) A c w (by have h1 := hr.cap; have h2 := hr.room; rw [List.length_map] at h1; omega) hr).mono fun e w' h => ⟨h.1, by rw [← h.2]; exact Below.refl _ _⟩
theorem bookOf (l : List PosV) (u : Un) (A : Option Addr) (c : Nat) (w : World) (hl : l.length ≤ 1000000) (hr : Rd w A 3 (l.map encPosV)) (hg : ∀ x ∈ l, GoodPosV w x) :
  Calls Tryz.prog 65 #[.slice A l.length c, .agg #[.int .i64 u.acc, .int .i64 u.cli]] w fun e w' => ∃ v, e = .returned v ∧ Own w' w.heap.size 64 2 v ((ofK (l.map lgPosV) u).map encLeg) ∧ Below w.heap.size w w' := by
 have HR := hid hr
 have HG := hid hg
 clear hr hg
 go_enter Tryz.func65, Tryz.ntmps65
 go_wp2_with fail
 go_loopw [9] (fun i wr => ∃ k : Nat, k ≤ l.length ∧ i = .int .i64 k ∧ ofK (l.map lgPosV) u = ofK ((l.drop k).map lgPosV) u ∧ Below w.heap.size w wr ∧ w.heap.size < wr.heap.size ∧ wr.cell? ⟨w.heap.size, 0, none⟩ = some (.int .i64 u.acc) ∧ wr.cell? ⟨w.heap.size, 1, none⟩ = some (.int .i64 u.cli)) (fun i _ => l.length - (intOf i).toNat)
 case atStart => exact ⟨0, Nat.zero_le _, rfl, rfl, tB, by simp, by simp [go_sem], by simp [go_sem]⟩
 case round =>
  obtain ⟨k, hk, rfl, hv, hbl, hsz, g0, g1⟩ := hrel
  have HV := hid hv
  have Hbl := hid hbl
  have hz := hbl.size
  clear hv hbl
  by_cases hlt : k < l.length
  ·have kl : (k : Int) < (l.length : Int) := by omega
   have dl := @dT k l.length hlt
   have hgk := HG.out l[k] (List.getElem_mem hlt)
   have hli := hgk.1
   have HGK := hid (hgk.2.keep Hbl.out)
   have hd := lg_atPosV hlt
   clear hgk
   obtain ⟨b, o, rfl, hb, hc⟩ := HR.out k (encPosV l[k]) (by simp [hlt])
   have e0 := tC Hbl hb (hc 0 _ rfl)
   have e1 := tC Hbl hb (hc 1 _ rfl)
   have e2 := tC Hbl hb (hc 2 _ rfl)
   simp only [Nat.add_zero] at e0
   clear hc
   have hbw : b < wr.heap.size := by omega
   rcases un_tPosV (x := l[k].unit) (u := u) with h | h
   ·have HN := hid (show ofK (l.map lgPosV) u = l[k].legs.val from by rw [HV.out, hd]; unfold ofK; rw [if_pos (show (lgPosV l[k]).unit = u from h)]; rfl)
    rw [h] at e0 e1
    clear hd h
    go_wp2_with (first | (go_at_call 100; (with_reducible refine (legClone l[k].legs.val l[k].legs.A l[k].legs.c _ (by omega) (HGK.out.keep tB)).mono ?_); rintro e w3 ⟨v3, rfl, hown3, hb3⟩; obtain ⟨fc3, fg3, hc3, hf3, hz3⟩ := bget hb3; (try simp at hz3)) | fail)
    go_ret
    exact ⟨_, rfl, by rw [HN.out]; exact hown3.mono tZ, by have hbl := Hbl.out; exact tB⟩
   ·have HN := hid (show ofK (l.map lgPosV) u = ofK ((l.drop (k + 1)).map lgPosV) u from by rw [HV.out, hd, ofK, if_neg (show ¬ (lgPosV l[k]).unit = u from un_dPosV h)])
    clear hd
    rcases h with h | h
    all_goals
     go_wp2_with fail
     go_roundw
     case rel => exact ⟨k + 1, by omega, by go_num, HN.out, by have hbl := Hbl.out; exact tB, by simp; omega, by simp [go_sem, g0, hsz, ↓IntWalk.iteOmega], by simp [go_sem, g1, hsz, ↓IntWalk.iteOmega]⟩
     case measure => simp [intOf]; omega
  ·have dl := @dF k l.length hlt
   have HD := hid (drop_all (l := l) (k := k) (by omega))
   go_wp2_with fail
   go_ret
   exact ⟨_, rfl, by rw [HV.out, HD.out]; exact Own.nil _ _ _ _, by have hbl := Hbl.out; exact tB⟩
theorem row3PosV (a b : Int) (A : Option Addr) (n m : Nat) : ∀ r ∈ [[Value.int .i64 a, .int .i64 b, .slice A n m]], r.length = 3 ∧ ∀ u ∈ r, u.oneCell' = true := by
 intro r hr
 simp only [List.mem_singleton] at hr
 subst hr
 refine ⟨rfl, ?_⟩
 simp only [List.mem_cons, List.not_mem_nil, or_false, forall_eq_or_imp, forall_eq]
 exact ⟨rfl, rfl, rfl⟩
def fewPosV (x : PosV) : PosV := { x with legs := ⟨x.legs.A, x.legs.c, x.legs.val.take 12⟩ }
theorem fewPosV_good {w : World} {x : PosV} (h : Rs w 2 (x.legs.val.map encLeg) x.legs.A x.legs.c) : GoodPosV w (fewPosV x) ∧ (fewPosV x).legs.val.length ≤ 12 := by
 have h1 : (fewPosV x).legs.val.length ≤ 12 := by simp [fewPosV]; omega
 refine ⟨⟨by omega, ?_⟩, h1⟩
 have := h.take 12
 rw [← List.map_take] at this
 exact this
theorem law19Few (l : List PosV) (A : Option Addr) (c : Nat) (w : World) (hl : l.length ≤ maxLen) (hr : Rd w A 3 (l.map encPosV)) (hg : ∀ x ∈ l, Rs w 2 (x.legs.val.map encLeg) x.legs.A x.legs.c) :
  Calls Tryz.prog 16 #[.slice A l.length c] w fun e w' => ∃ v, e = .returned v ∧ Own w' w.heap.size 82 3 v (((l.take 12).map fewPosV).map encPosV) ∧ Below w.heap.size w w' := by
 have HR := hid hr
 have HG := hid hg
 have hml : (l.length : Int) ≤ 9223372036854775807 := by unfold maxLen at hl; omega
 clear hr hg hl
 go_enter Tryz.func16, Tryz.ntmps16
 go_wp2_with fail
 go_loopw [3, 4] (fun v i wr => ∃ q : Nat, q ≤ l.length ∧ q ≤ 12 ∧ i = .int .i64 q ∧ Own wr w.heap.size 82 3 v (((l.take q).map fewPosV).map encPosV) ∧ Below w.heap.size w wr) (fun _ i _ => l.length - (intOf i).toNat)
 case atStart => exact ⟨0, Nat.zero_le _, Nat.zero_le _, rfl, Own.nil _ _ _ _, tB⟩
 case round =>
  obtain ⟨k, hq, hq10, rfl, hown, hbl⟩ := hrel
  have Hown := hid hown
  have Hbl := hid hbl
  have hz := hbl.size
  clear hown hbl
  by_cases hgo : k < l.length ∧ k < 12
  ·obtain ⟨hlt, h10⟩ := hgo
   have hqi : (k : Int) < (l.length : Int) := by omega
   have dl := @dT k l.length hlt
   have d10 : decide ((k : Int) < 12) = true := by simp; omega
   have hlen : ((l.take k).map fewPosV).length ≤ 12 := by simp; omega
   have hx := HG.out l[k] (List.getElem_mem hlt)
   obtain ⟨b, o, rfl, hb, hc⟩ := HR.out k (encPosV l[k]) (by simp [hlt])
   have e0 := tC Hbl hb (hc 0 _ rfl)
   have e1 := tC Hbl hb (hc 1 _ rfl)
   have e2 := tC Hbl hb (hc 2 _ rfl)
   simp only [Nat.add_zero] at e0
   clear hc
   have hbw : b < wr.heap.size := by omega
   obtain ⟨m, hm⟩ : ∃ m, (l[k].legs.val.take 12).length = m := ⟨_, rfl⟩
   have CF := hid (fun W (h : Below w.heap.size w W) => few_inPosV l[k].legs.val m hm l[k].legs.A l[k].legs.c W (hx.keep h))
   have HS : Hid (((l.take (k + 1)).map fewPosV).map encPosV = ((l.take k).map fewPosV).map encPosV ++ [[.int .i64 l[k].unit.acc, .int .i64 l[k].unit.cli, .slice l[k].legs.A m l[k].legs.c]]) := by
    unfold Hid
    rw [map_snoc hlt fewPosV, List.map_append]
    congr 1
    simp only [List.map_cons, List.map_nil, encPosV, fewPosV, hm]
   clear hx hm
   go_wp2_with fail
   go_region_held3 (fun w' => (w'.cell? ⟨b, o + k * 3, none⟩ = some (.int .i64 l[k].unit.acc) ∧ w'.cell? ⟨b, o + k * 3 + 1, none⟩ = some (.int .i64 l[k].unit.cli) ∧ w'.cell? ⟨b, o + k * 3 + 2, none⟩ = some (.slice l[k].legs.A l[k].legs.val.length l[k].legs.c))) (exact tK) (first | (go_at_call 47; (with_reducible refine cM (CF.out _ (by have hbl := Hbl.out; exact tB)) fun w1 hb1 fc1 fg1 hc1 hf1 hz1 => ?_); (try simp at hz1)) | (refine step_app rfl _ _ _ rfl elPosV w.heap.size _ _ rfl (Hown.out.keep tB) (some ⟨_, 0, none⟩) 1 1 rfl [[.int .i64 l[k].unit.acc, .int .i64 l[k].unit.cli, .slice l[k].legs.A m l[k].legs.c]] rfl (fun h => by cases h) (rd_oneN (by simp)) (row3PosV _ _ _ _ _) (by unfold maxLen; simp; omega) (by simp; omega) tZ ?_; intro v4 w4 hown4 hb4; have HO4 := hid hown4; clear hown4; obtain ⟨fc4, fg4, hc4, hf4, hz4⟩ := bget hb4; (try simp at hz4)) | fail)
   all_goals
    go_wp2_with fail
    go_roundw
    case rel => exact ⟨k + 1, by omega, by omega, by go_num, by rw [HS.out]; exact HO4.out, by have hbl := Hbl.out; exact tB⟩
    case measure => simp [intOf]; omega
  ·have HT := hid (show l.take k = l.take 12 from by
    rcases Nat.lt_or_ge k 12 with h | h
    ·rw [List.take_of_length_le (by omega), List.take_of_length_le (by omega)]
    ·rw [show k = 12 by omega])
   by_cases hlt : k < l.length
   ·have dl := @dT k l.length hlt
    have d10 : decide ((k : Int) < 12) = false := by simp; omega
    go_wp2_with fail
    go_ret
    exact ⟨_, rfl, by rw [← HT.out]; exact Hown.out, Hbl.out⟩
   ·have dl := @dF k l.length hlt
    go_wp2_with fail
    go_ret
    exact ⟨_, rfl, by rw [← HT.out]; exact Hown.out, Hbl.out⟩
/- Books: rows of 64 bits, how long a unit's is. -/
def L64 (L : List (Row Leg)) : Prop := ∀ r ∈ L, Legs64 r.rows
theorem of64 {L : List (Row Leg)} (h : L64 L) (u : Un) : Legs64 (ofK L u) := by
 rcases ofK_mem (l := L) (u := u) with ⟨x, hx, _, e⟩ | ⟨_, e⟩
 ·rw [e]; exact h x hx
 ·rw [e]; intro y hy; cases hy
theorem of_len {l : List PosV} {w : World} (hg : ∀ x ∈ l, GoodPosV w x) (u : Un) : (ofK (l.map lgPosV) u).length ≤ 1000000 := by
 rcases ofK_mem (l := l.map lgPosV) (u := u) with ⟨x, hx, _, e⟩ | ⟨_, e⟩
 ·obtain ⟨y, hy, rfl⟩ := List.mem_map.1 hx
  rw [e]; exact (hg y hy).1
 ·rw [e]; simp
section
open Go.ChangeShapes Go.WideShapes Go.ChangeAt Go.RowKit Go.Joins
/- Positions handed in. -/
theorem PosV_cells {H : Type} {enc : TypeId × Value → H} {W : World} {spare : Nat → Bool} {held : Bool} (cs : List Value) (n : Nat) (y : DataW H × List MemPlace) (hlen : cs.length = 3) (h : DataW.trod enc Tryz.prog W 0 spare held n 82 cs = some y) :
  ∃ x : PosV, cs = encPosV x ∧ (∀ z ∈ x.legs.val, okLeg z) ∧ Rs W 2 (x.legs.val.map encLeg) x.legs.A x.legs.c := by
 obtain ⟨xs, n, _, rfl, _, hxs, hf⟩ := DataW.trod_struct Tryz.underlying82 h
 match cs, hlen, xs, hxs with
 | [c0, c1, c2], _, [y0, y1], _ =>
  have h0 : DataW.trod enc Tryz.prog W 0 spare held n 60 (([c0, c1, c2].drop 0).take (Tryz.prog.cellsOf 60)) = some y0 := hf 0 _ rfl
  have h1 : DataW.trod enc Tryz.prog W 0 spare held n 80 (([c0, c1, c2].drop 2).take (Tryz.prog.cellsOf 80)) = some y1 := hf 1 _ rfl
  rw [show Tryz.prog.cellsOf _ = 2 from by kernel_rfl] at h0
  obtain ⟨x0, _, e0⟩ := Un_cells [c0, c1] n _ rfl h0
  simp only [encUn, List.cons.injEq, and_true] at e0
  obtain ⟨rfl, rfl⟩ := e0
  rw [show Tryz.prog.cellsOf _ = 1 from by kernel_rfl] at h1
  obtain ⟨l, A, c, e1, hok, hrs⟩ := legs_cells h1
  simp at e1
  subst e1
  exact ⟨⟨x0, ⟨A, c, l⟩⟩, rfl, hok, hrs⟩
end
end Go.Proofs.YtalgfpegaobacaaGreatDoor
