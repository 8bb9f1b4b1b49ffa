/- Joined. -/
import Derived.Test.YtalgfpegaobacaaGreatDoorQz7
import Derived.Test.YtalgfpegaobacaaGreatDoorQz9
import Derived.Test.YtalgfpegaobacaaGreatDoorQz13
namespace Go.Proofs.YtalgfpegaobacaaGreatDoor
set_option linter.all false
set_option maxHeartbeats 8000000
set_option maxRecDepth 100000
open Go.RowKit
open Lib (hid)
/- Holds: the type; contracts of hold.Is, hold.Lots, the reference's hold.Is, hold.Lots, Same. -/
structure HoldV where
 unit : Un
 lots : SlOf Lot
 deriving DecidableEq
def encHoldV (x : HoldV) : List Value := [.int .i64 x.unit.acc, .int .i64 x.unit.cli, .slice x.lots.A x.lots.val.length x.lots.c]
theorem elHoldV : Elem Tryz.prog 31 75 3 40 := elem_of Tryz.underlying31 (z := .agg #[.int .i64 0, .int .i64 0, .slice none 0 0]) (by kernel_rfl) rfl (by omega)
def lgHoldV (x : HoldV) : Row Lot := ⟨x.unit, x.lots.val⟩
def GoodHoldV (w : World) (x : HoldV) : Prop := x.lots.val.length ≤ 1000000 ∧ Rs w 3 (x.lots.val.map encLot) x.lots.A x.lots.c
theorem GoodHoldV.keep {w w' : World} {x : HoldV} (h : GoodHoldV w x) (hb : Below w.heap.size w w') : GoodHoldV w' x := ⟨h.1, h.2.keep hb⟩
def isHoldV (l : List HoldV) : Bool := isK isL (l.map lgHoldV)
theorem un_tHoldV {x u : Un} : x = u ∨ ((x.acc == u.acc) = false) ∨ ((x.cli == u.cli) = false) := by
 by_cases h : x = u
 ·exact .inl h
 ·exact .inr (neqUn h)
theorem un_dHoldV {x u : Un} (h : ((x.acc == u.acc) = false) ∨ ((x.cli == u.cli) = false)) : x ≠ u := by
 rintro rfl
 rcases h with h | h <;> simp at h
theorem lg_atHoldV {l : List HoldV} {k : Nat} (h : k < l.length) : (l.drop k).map lgHoldV = lgHoldV l[k] :: (l.drop (k + 1)).map lgHoldV := by rw [drop_cons' h, List.map_cons]
theorem pred_HoldV {k : Nat} (h : 1 ≤ k) (hk : k ≤ 1000000) : (0 : Int) ≤ (k : Int) - 1 ∧ ((k : Int) - 1).toNat = k - 1 ∧ IntKind.i64.wrap ((k : Int) - 1) = (k : Int) - 1 :=
 ⟨by omega, by omega, IntWalk.i64_in _ (by omega)⟩
theorem holdIs (l : List HoldV) (A : Option Addr) (c : Nat) (w : World) (hl : l.length ≤ 1000000) (hr : Rd w A 3 (l.map encHoldV)) (hg : ∀ x ∈ l, GoodHoldV w x) :
  Calls Tryz.prog 174 #[.slice A l.length c] w fun e w' => e = .returned (.bool (isHoldV l)) ∧ Below w.heap.size w w' := by
 have HR := hid hr
 have HG := hid hg
 have HIL := hid (show isHoldV l = isKR isL none (l.map lgHoldV) from rfl)
 clear hr hg
 go_enter Tryz.func174, Tryz.ntmps174
 go_wp2_with fail
 go_loopw [7] (fun i wr => ∃ (k : Nat) (p : Option Un), k ≤ l.length ∧ i = .int .i64 k ∧ isKR isL none (l.map lgHoldV) = isKR isL p ((l.drop k).map lgHoldV) ∧ Below w.heap.size w wr ∧ (k = 0 ∧ p = none ∨ 0 < k ∧ p = l[k - 1]?.map (·.unit))) (fun i _ => l.length - (intOf i).toNat)
 case atStart => exact ⟨0, none, Nat.zero_le _, rfl, rfl, Below.refl _ _, .inl ⟨rfl, rfl⟩⟩
 case round =>
  obtain ⟨k, p, hk, rfl, hv, hbl, hx⟩ := hrel
  have HV := hid hv
  have Hbl := hid hbl
  have hz := hbl.size
  clear hv hbl
  by_cases hlt : k < l.length
  ·have kl : (k : Int) < (l.length : Int) := by omega
   have dl := @dT k l.length hlt
   have hd := lg_atHoldV hlt
   have hgk := HG.out l[k] (List.getElem_mem hlt)
   have hli := hgk.1
   have HGK := hid (hgk.2.keep Hbl.out)
   obtain ⟨b, o, rfl, hb, hc⟩ := HR.out k (encHoldV l[k]) (by simp [hlt])
   have e0 := tC Hbl hb (hc 0 _ rfl)
   have e1 := tC Hbl hb (hc 1 _ rfl)
   have e2 := tC Hbl hb (hc 2 _ rfl)
   simp only [Nat.add_zero] at e0
   clear hc
   have hbw : b < wr.heap.size := by omega
   cases hq : ((l[k].lots.val.length : Int) == 0)
   ·have hne : (lgHoldV l[k]).rows ≠ [] := by
     intro h
     have : l[k].lots.val = [] := h
     rw [this] at hq
     simp at hq
    cases hiv : isL l[k].lots.val
    ·have CI := hid (fun W (h : Rd W l[k].lots.A 3 (l[k].lots.val.map encLot)) => hiv ▸ lotIs l[k].lots.val l[k].lots.A l[k].lots.c W (by omega) h)
     have HN := hid (show isKR isL none (l.map lgHoldV) = false from by rw [HV.out, hd]; exact isKR_no (.inr (.inl hiv)))
     clear hx hgk hd hne hiv
     go_wp2_with fail
     refine wp_region_held_drew (S := (fun w' => (w'.cell? ⟨wr.heap.size, 0, none⟩ = some (.int .i64 l[k].unit.acc) ∧ w'.cell? ⟨wr.heap.size, 1, none⟩ = some (.int .i64 l[k].unit.cli) ∧ w'.cell? ⟨wr.heap.size, 2, none⟩ = some (.slice l[k].lots.A l[k].lots.val.length l[k].lots.c)))) (by kernel_rfl) ?_ (fun hHeld => ?_)
     ·(exact tK)
     refine tQ 0 ?_
     refine tS ?_
     refine tQ 1 ?_
     refine tS ?_
     refine tQ 2 ?_
     refine tS ?_
     refine tQ 3 ?_
     refine tS ?_
     refine tQ 4 ?_
     refine tS ?_
     refine tQ 5 ?_
     refine tS ?_
     refine tQ 6 ?_
     refine tS ?_
     refine tR (.cons (i := 7) rfl (fun K hK => ?_) .nil)
     (try simp only [List.getElem_toArray])
     go_simp
     (go_at_call 194; (with_reducible refine cM (CI.out _ (HGK.out.keep tB).rd) fun w1 hb1 fc1 fg1 hc1 hf1 hz1 => ?_); (try simp at hz1))
     refine hK.out _ _ ?_ (fun hHeld => ?_)
     focus ((exact tK); done)
     refine tS ?_
     refine tQ 8 ?_
     refine tS ?_
     refine tQ 9 ?_
     refine tS ?_
     refine tQ 10 ?_
     refine tS ?_
     refine tN 11 ?_
     refine tS ?_
     refine tN 12 ?_
     refine tS ?_
     refine tN 13 ?_
     refine tS ?_
     refine tN 14 ?_
     refine tS ?_
     refine tN 15 ?_
     refine tS ?_
     refine tN 16 ?_
     refine tS ?_
     refine tN 17 ?_
     refine tS ?_
     refine tN 18 ?_
     refine tS ?_
     refine tN 19 ?_
     refine tS ?_
     refine tN 20 ?_
     refine tS ?_
     refine tN 21 ?_
     refine tS ?_
     refine tN 22 ?_
     refine tS ?_
     refine tN 23 ?_
     refine tS ?_
     refine tN 24 ?_
     refine tS ?_
     refine tQ 25 ?_
     refine tS ?_
     refine wpAnyH_done (by kernel_rfl) ?_ _
     go_wp2_with fail
     go_ret
     exact ⟨by rw [HIL.out, HN.out]; rfl, by have hbl := Hbl.out; exact tB⟩
    ·have CI := hid (fun W (h : Rd W l[k].lots.A 3 (l[k].lots.val.map encLot)) => hiv ▸ lotIs l[k].lots.val l[k].lots.A l[k].lots.c W (by omega) h)
     rcases hx with ⟨k0, hx⟩ | ⟨k0, hx⟩
     ·have g0 : decide (0 < k) = false := by simp; omega
      have HN := hid (show isKR isL p ((l.drop k).map lgHoldV) = isKR isL (some l[k].unit) ((l.drop (k + 1)).map lgHoldV) from by rw [hd]; exact isKR_step hne hiv (fun q hq => by rw [hx] at hq; cases hq))
      clear hx k0 hgk hd hne hiv
      go_wp2_with fail
      refine wp_region_held_drew (S := (fun w' => (w'.cell? ⟨wr.heap.size, 0, none⟩ = some (.int .i64 l[k].unit.acc) ∧ w'.cell? ⟨wr.heap.size, 1, none⟩ = some (.int .i64 l[k].unit.cli) ∧ w'.cell? ⟨wr.heap.size, 2, none⟩ = some (.slice l[k].lots.A l[k].lots.val.length l[k].lots.c)))) (by kernel_rfl) ?_ (fun hHeld => ?_)
      ·(exact tK)
      refine tQ 0 ?_
      refine tS ?_
      refine tQ 1 ?_
      refine tS ?_
      refine tQ 2 ?_
      refine tS ?_
      refine tQ 3 ?_
      refine tS ?_
      refine tQ 4 ?_
      refine tS ?_
      refine tQ 5 ?_
      refine tS ?_
      refine tQ 6 ?_
      refine tS ?_
      refine tR (.cons (i := 7) rfl (fun K hK => ?_) .nil)
      (try simp only [List.getElem_toArray])
      go_simp
      (go_at_call 194; (with_reducible refine cM (CI.out _ (HGK.out.keep tB).rd) fun w1 hb1 fc1 fg1 hc1 hf1 hz1 => ?_); (try simp at hz1))
      refine hK.out _ _ ?_ (fun hHeld => ?_)
      focus ((exact tK); done)
      refine tS ?_
      refine tQ 8 ?_
      refine tS ?_
      refine tQ 9 ?_
      refine tS ?_
      refine tQ 10 ?_
      refine tS ?_
      refine tQ 11 ?_
      refine tS ?_
      refine tQ 12 ?_
      refine tS ?_
      refine tQ 13 ?_
      refine tS ?_
      refine tN 14 ?_
      refine tS ?_
      refine tN 15 ?_
      refine tS ?_
      refine tN 16 ?_
      refine tS ?_
      refine tN 17 ?_
      refine tS ?_
      refine tN 18 ?_
      refine tS ?_
      refine tN 19 ?_
      refine tS ?_
      refine tN 20 ?_
      refine tS ?_
      refine tN 21 ?_
      refine tS ?_
      refine tN 22 ?_
      refine tS ?_
      refine tN 23 ?_
      refine tS ?_
      refine tQ 24 ?_
      refine tS ?_
      refine tQ 25 ?_
      refine tS ?_
      refine wpAnyH_done (by kernel_rfl) ?_ _
      go_wp2_with fail
      go_roundw
      case rel => exact ⟨k + 1, some l[k].unit, by omega, by go_num, by rw [HV.out, HN.out], by have hbl := Hbl.out; exact tB, .inr ⟨by omega, by rw [Nat.add_sub_cancel, List.getElem?_eq_getElem hlt]; rfl⟩⟩
      case measure => simp [intOf]; omega
     ·have g0 : decide (0 < k) = true := by simpa using k0
      have hk0 : k - 1 < l.length := by omega
      have hp : p = some l[k - 1].unit := by rw [hx, List.getElem?_eq_getElem hk0]; rfl
      obtain ⟨b1, o1, q1, hb1, hc1⟩ := HR.out (k - 1) (encHoldV l[k - 1]) (by simp [hk0])
      injection q1 with q1
      injection q1 with q1 q2 _
      subst q1 q2
      have f0 := tC Hbl hb (hc1 0 _ rfl)
      have f1 := tC Hbl hb (hc1 1 _ rfl)
      simp only [Nat.add_zero] at f0
      clear hc1 hb1
      cases hlo : lessU l[k - 1].unit l[k].unit
      ·have CO := hid (fun W => hlo ▸ acctLess l[k - 1].unit l[k].unit W)
       have HN := hid (show isKR isL none (l.map lgHoldV) = false from by rw [HV.out, hd]; exact isKR_no (.inr (.inr ⟨_, hp, hlo⟩)))
       clear hx hlo hp hgk hd hne hiv
       have lk : (k : Int) - 1 < (l.length : Int) := by omega
       have k1 : (1 : Int) ≤ (k : Int) := by omega
       have k2 : 1 ≤ k := by omega
       have lk2 : (k : Int) ≤ (l.length : Int) := by omega
       have lk3 : (k : Int) < (l.length : Int) + 1 := by omega
       have lk4 : k < l.length + 1 := by omega
       obtain ⟨nk, tk, wk⟩ := pred_HoldV k0 (by omega)
       go_wp2_with fail
       go_region_held3 (fun w' => (w'.cell? ⟨wr.heap.size, 0, none⟩ = some (.int .i64 l[k].unit.acc) ∧ w'.cell? ⟨wr.heap.size, 1, none⟩ = some (.int .i64 l[k].unit.cli) ∧ w'.cell? ⟨wr.heap.size, 2, none⟩ = some (.slice l[k].lots.A l[k].lots.val.length l[k].lots.c)) ∧ (w'.cell? ⟨b, o + (k - 1) * 3, none⟩ = some (.int .i64 l[k - 1].unit.acc) ∧ w'.cell? ⟨b, o + (k - 1) * 3 + 1, none⟩ = some (.int .i64 l[k - 1].unit.cli))) (exact tK) (first | (go_at_call 194; (with_reducible refine cM (CI.out _ (HGK.out.keep tB).rd) fun w1 hb1 fc1 fg1 hc1 hf1 hz1 => ?_); (try simp at hz1)) | (go_at_call 161; (with_reducible refine cM (CO.out _) fun w2 hb2 fc2 fg2 hc2 hf2 hz2 => ?_); (try simp at hz2)) | fail)
       clear nk tk wk
       go_wp2_with fail
       go_ret
       exact ⟨by rw [HIL.out, HN.out]; rfl, by have hbl := Hbl.out; exact tB⟩
      ·have CO := hid (fun W => hlo ▸ acctLess l[k - 1].unit l[k].unit W)
       have HN := hid (show isKR isL p ((l.drop k).map lgHoldV) = isKR isL (some l[k].unit) ((l.drop (k + 1)).map lgHoldV) from by rw [hd]; exact isKR_step hne hiv (fun q hq => by rw [hp] at hq; injection hq with hq; rw [← hq]; exact hlo))
       clear hx hlo hp hgk hd hne hiv
       have lk : (k : Int) - 1 < (l.length : Int) := by omega
       have k1 : (1 : Int) ≤ (k : Int) := by omega
       have k2 : 1 ≤ k := by omega
       have lk2 : (k : Int) ≤ (l.length : Int) := by omega
       have lk3 : (k : Int) < (l.length : Int) + 1 := by omega
       have lk4 : k < l.length + 1 := by omega
       obtain ⟨nk, tk, wk⟩ := pred_HoldV k0 (by omega)
       go_wp2_with fail
       go_region_held3 (fun w' => (w'.cell? ⟨wr.heap.size, 0, none⟩ = some (.int .i64 l[k].unit.acc) ∧ w'.cell? ⟨wr.heap.size, 1, none⟩ = some (.int .i64 l[k].unit.cli) ∧ w'.cell? ⟨wr.heap.size, 2, none⟩ = some (.slice l[k].lots.A l[k].lots.val.length l[k].lots.c)) ∧ (w'.cell? ⟨b, o + (k - 1) * 3, none⟩ = some (.int .i64 l[k - 1].unit.acc) ∧ w'.cell? ⟨b, o + (k - 1) * 3 + 1, none⟩ = some (.int .i64 l[k - 1].unit.cli))) (exact tK) (first | (go_at_call 194; (with_reducible refine cM (CI.out _ (HGK.out.keep tB).rd) fun w1 hb1 fc1 fg1 hc1 hf1 hz1 => ?_); (try simp at hz1)) | (go_at_call 161; (with_reducible refine cM (CO.out _) fun w2 hb2 fc2 fg2 hc2 hf2 hz2 => ?_); (try simp at hz2)) | fail)
       clear nk tk wk
       go_wp2_with fail
       go_roundw
       case rel => exact ⟨k + 1, some l[k].unit, by omega, by go_num, by rw [HV.out, HN.out], by have hbl := Hbl.out; exact tB, .inr ⟨by omega, by rw [Nat.add_sub_cancel, List.getElem?_eq_getElem hlt]; rfl⟩⟩
       case measure => simp [intOf]; omega
   ·have HN := hid (show isKR isL none (l.map lgHoldV) = false from by
     rw [HV.out, hd]
     refine isKR_no (.inl ?_)
     have h1 : (l[k].lots.val.length : Int) = 0 := by simpa using hq
     show l[k].lots.val = []
     exact List.eq_nil_of_length_eq_zero (by omega))
    clear hx hgk hd
    go_wp2_with fail
    refine wp_region_held_drew (S := (fun w' => (w'.cell? ⟨wr.heap.size, 0, none⟩ = some (.int .i64 l[k].unit.acc) ∧ w'.cell? ⟨wr.heap.size, 1, none⟩ = some (.int .i64 l[k].unit.cli) ∧ w'.cell? ⟨wr.heap.size, 2, none⟩ = some (.slice l[k].lots.A l[k].lots.val.length l[k].lots.c)))) (by kernel_rfl) ?_ (fun hHeld => ?_)
    ·(exact tK)
    refine tQ 0 ?_
    refine tS ?_
    refine tQ 1 ?_
    refine tS ?_
    refine tQ 2 ?_
    refine tS ?_
    refine tQ 3 ?_
    refine tS ?_
    refine tQ 4 ?_
    refine tS ?_
    refine tN 5 ?_
    refine tS ?_
    refine tN 6 ?_
    refine tS ?_
    refine tN 7 ?_
    refine tS ?_
    refine tN 8 ?_
    refine tS ?_
    refine tQ 9 ?_
    refine tS ?_
    refine tQ 10 ?_
    refine tS ?_
    refine tN 11 ?_
    refine tS ?_
    refine tN 12 ?_
    refine tS ?_
    refine tN 13 ?_
    refine tS ?_
    refine tN 14 ?_
    refine tS ?_
    refine tN 15 ?_
    refine tS ?_
    refine tN 16 ?_
    refine tS ?_
    refine tN 17 ?_
    refine tS ?_
    refine tN 18 ?_
    refine tS ?_
    refine tN 19 ?_
    refine tS ?_
    refine tN 20 ?_
    refine tS ?_
    refine tN 21 ?_
    refine tS ?_
    refine tN 22 ?_
    refine tS ?_
    refine tN 23 ?_
    refine tS ?_
    refine tN 24 ?_
    refine tS ?_
    refine tQ 25 ?_
    refine tS ?_
    refine wpAnyH_done (by kernel_rfl) ?_ _
    go_wp2_with fail
    go_ret
    exact ⟨by rw [HIL.out, HN.out]; rfl, by have hbl := Hbl.out; exact tB⟩
  ·have dl := @dF k l.length hlt
   have HD := hid (drop_all (l := l) (k := k) (by omega))
   have HN := hid (show isKR isL none (l.map lgHoldV) = true from by rw [HV.out, HD.out]; cases p <;> rfl)
   go_wp2_with fail
   go_ret
   exact ⟨by rw [HIL.out, HN.out]; rfl, Hbl.out⟩
theorem refHoldVIs (l : List HoldV) (A : Option Addr) (c : Nat) (w : World) (hl : l.length ≤ 1000000) (hr : Rd w A 3 (l.map encHoldV)) (hg : ∀ x ∈ l, GoodHoldV w x) :
  Calls Tryz.prog 24 #[.slice A l.length c] w fun e w' => e = .returned (.bool (isHoldV l)) ∧ Below w.heap.size w w' := by
 have HR := hid hr
 have HG := hid hg
 have HIL := hid (show isHoldV l = isKR isL none (l.map lgHoldV) from rfl)
 clear hr hg
 go_enter Tryz.func24, Tryz.ntmps24
 go_wp2_with fail
 go_loopw [3] (fun i wr => ∃ (k : Nat) (p : Option Un), k ≤ l.length ∧ i = .int .i64 k ∧ isKR isL none (l.map lgHoldV) = isKR isL p ((l.drop k).map lgHoldV) ∧ Below w.heap.size w wr ∧ (k = 0 ∧ p = none ∨ 0 < k ∧ p = l[k - 1]?.map (·.unit))) (fun i _ => l.length - (intOf i).toNat)
 case atStart => exact ⟨0, none, Nat.zero_le _, rfl, rfl, Below.refl _ _, .inl ⟨rfl, rfl⟩⟩
 case round =>
  obtain ⟨k, p, hk, rfl, hv, hbl, hx⟩ := hrel
  have HV := hid hv
  have Hbl := hid hbl
  have hz := hbl.size
  clear hv hbl
  by_cases hlt : k < l.length
  ·have kl : (k : Int) < (l.length : Int) := by omega
   have dl := @dT k l.length hlt
   have hd := lg_atHoldV hlt
   have hgk := HG.out l[k] (List.getElem_mem hlt)
   have hli := hgk.1
   have HGK := hid (hgk.2.keep Hbl.out)
   obtain ⟨b, o, rfl, hb, hc⟩ := HR.out k (encHoldV l[k]) (by simp [hlt])
   have e0 := tC Hbl hb (hc 0 _ rfl)
   have e1 := tC Hbl hb (hc 1 _ rfl)
   have e2 := tC Hbl hb (hc 2 _ rfl)
   simp only [Nat.add_zero] at e0
   clear hc
   have hbw : b < wr.heap.size := by omega
   cases hq : ((l[k].lots.val.length : Int) == 0)
   ·have hne : (lgHoldV l[k]).rows ≠ [] := by
     intro h
     have : l[k].lots.val = [] := h
     rw [this] at hq
     simp at hq
    cases hiv : isL l[k].lots.val
    ·have CI := hid (fun W (h : Rd W l[k].lots.A 3 (l[k].lots.val.map encLot)) => hiv ▸ ref18Is l[k].lots.val l[k].lots.A l[k].lots.c W (by omega) h)
     have HN := hid (show isKR isL none (l.map lgHoldV) = false from by rw [HV.out, hd]; exact isKR_no (.inr (.inl hiv)))
     clear hx hgk hd hne hiv
     go_wp2_with fail
     refine wp_region_held_drew (S := (fun w' => (w'.cell? ⟨b, o + k * 3, none⟩ = some (.int .i64 l[k].unit.acc) ∧ w'.cell? ⟨b, o + k * 3 + 1, none⟩ = some (.int .i64 l[k].unit.cli) ∧ w'.cell? ⟨b, o + k * 3 + 2, none⟩ = some (.slice l[k].lots.A l[k].lots.val.length l[k].lots.c)))) (by kernel_rfl) ?_ (fun hHeld => ?_)
     ·(exact tK)
     refine tQ 0 ?_
     refine tS ?_
     refine tQ 1 ?_
     refine tS ?_
     refine tQ 2 ?_
     refine tS ?_
     refine tQ 3 ?_
     refine tS ?_
     refine tQ 4 ?_
     refine tS ?_
     refine tQ 5 ?_
     refine tS ?_
     refine tQ 6 ?_
     refine tS ?_
     refine tQ 7 ?_
     refine tS ?_
     refine tQ 8 ?_
     refine tS ?_
     refine tQ 9 ?_
     refine tS ?_
     refine tQ 10 ?_
     refine tS ?_
     refine tQ 11 ?_
     refine tS ?_
     refine tQ 12 ?_
     refine tS ?_
     refine tR (.cons (i := 13) rfl (fun K hK => ?_) .nil)
     (try simp only [List.getElem_toArray])
     go_simp
     (go_at_call 58; (with_reducible refine cM (CI.out _ (HGK.out.keep tB).rd) fun w1 hb1 fc1 fg1 hc1 hf1 hz1 => ?_); (try simp at hz1))
     refine hK.out _ _ ?_ (fun hHeld => ?_)
     focus ((exact tK); done)
     refine tS ?_
     refine tQ 14 ?_
     refine tS ?_
     refine tQ 15 ?_
     refine tS ?_
     refine tQ 16 ?_
     refine tS ?_
     refine tN 17 ?_
     refine tS ?_
     refine tN 18 ?_
     refine tS ?_
     refine tN 19 ?_
     refine tS ?_
     refine tN 20 ?_
     refine tS ?_
     refine tN 21 ?_
     refine tS ?_
     refine tN 22 ?_
     refine tS ?_
     refine tN 23 ?_
     refine tS ?_
     refine tN 24 ?_
     refine tS ?_
     refine tN 25 ?_
     refine tS ?_
     refine tN 26 ?_
     refine tS ?_
     refine tN 27 ?_
     refine tS ?_
     refine tN 28 ?_
     refine tS ?_
     refine tN 29 ?_
     refine tS ?_
     refine tN 30 ?_
     refine tS ?_
     refine tN 31 ?_
     refine tS ?_
     refine tN 32 ?_
     refine tS ?_
     refine tN 33 ?_
     refine tS ?_
     refine tQ 34 ?_
     refine tS ?_
     refine wpAnyH_done (by kernel_rfl) ?_ _
     go_wp2_with fail
     go_ret
     exact ⟨by rw [HIL.out, HN.out]; rfl, by have hbl := Hbl.out; exact tB⟩
    ·have CI := hid (fun W (h : Rd W l[k].lots.A 3 (l[k].lots.val.map encLot)) => hiv ▸ ref18Is l[k].lots.val l[k].lots.A l[k].lots.c W (by omega) h)
     rcases hx with ⟨k0, hx⟩ | ⟨k0, hx⟩
     ·have g0 : decide (0 < k) = false := by simp; omega
      have HN := hid (show isKR isL p ((l.drop k).map lgHoldV) = isKR isL (some l[k].unit) ((l.drop (k + 1)).map lgHoldV) from by rw [hd]; exact isKR_step hne hiv (fun q hq => by rw [hx] at hq; cases hq))
      clear hx k0 hgk hd hne hiv
      go_wp2_with fail
      refine wp_region_held_drew (S := (fun w' => (w'.cell? ⟨b, o + k * 3, none⟩ = some (.int .i64 l[k].unit.acc) ∧ w'.cell? ⟨b, o + k * 3 + 1, none⟩ = some (.int .i64 l[k].unit.cli) ∧ w'.cell? ⟨b, o + k * 3 + 2, none⟩ = some (.slice l[k].lots.A l[k].lots.val.length l[k].lots.c)))) (by kernel_rfl) ?_ (fun hHeld => ?_)
      ·(exact tK)
      refine tQ 0 ?_
      refine tS ?_
      refine tQ 1 ?_
      refine tS ?_
      refine tQ 2 ?_
      refine tS ?_
      refine tQ 3 ?_
      refine tS ?_
      refine tQ 4 ?_
      refine tS ?_
      refine tQ 5 ?_
      refine tS ?_
      refine tQ 6 ?_
      refine tS ?_
      refine tQ 7 ?_
      refine tS ?_
      refine tQ 8 ?_
      refine tS ?_
      refine tQ 9 ?_
      refine tS ?_
      refine tQ 10 ?_
      refine tS ?_
      refine tQ 11 ?_
      refine tS ?_
      refine tQ 12 ?_
      refine tS ?_
      refine tR (.cons (i := 13) rfl (fun K hK => ?_) .nil)
      (try simp only [List.getElem_toArray])
      go_simp
      (go_at_call 58; (with_reducible refine cM (CI.out _ (HGK.out.keep tB).rd) fun w1 hb1 fc1 fg1 hc1 hf1 hz1 => ?_); (try simp at hz1))
      refine hK.out _ _ ?_ (fun hHeld => ?_)
      focus ((exact tK); done)
      refine tS ?_
      refine tQ 14 ?_
      refine tS ?_
      refine tQ 15 ?_
      refine tS ?_
      refine tQ 16 ?_
      refine tS ?_
      refine tQ 17 ?_
      refine tS ?_
      refine tQ 18 ?_
      refine tS ?_
      refine tQ 19 ?_
      refine tS ?_
      refine tN 20 ?_
      refine tS ?_
      refine tN 21 ?_
      refine tS ?_
      refine tN 22 ?_
      refine tS ?_
      refine tN 23 ?_
      refine tS ?_
      refine tN 24 ?_
      refine tS ?_
      refine tN 25 ?_
      refine tS ?_
      refine tN 26 ?_
      refine tS ?_
      refine tN 27 ?_
      refine tS ?_
      refine tN 28 ?_
      refine tS ?_
      refine tN 29 ?_
      refine tS ?_
      refine tN 30 ?_
      refine tS ?_
      refine tN 31 ?_
      refine tS ?_
      refine tN 32 ?_
      refine tS ?_
      refine tQ 33 ?_
      refine tS ?_
      refine tQ 34 ?_
      refine tS ?_
      refine wpAnyH_done (by kernel_rfl) ?_ _
      go_wp2_with fail
      go_roundw
      case rel => exact ⟨k + 1, some l[k].unit, by omega, by go_num, by rw [HV.out, HN.out], by have hbl := Hbl.out; exact tB, .inr ⟨by omega, by rw [Nat.add_sub_cancel, List.getElem?_eq_getElem hlt]; rfl⟩⟩
      case measure => simp [intOf]; omega
     ·have g0 : decide (0 < k) = true := by simpa using k0
      have hk0 : k - 1 < l.length := by omega
      have hp : p = some l[k - 1].unit := by rw [hx, List.getElem?_eq_getElem hk0]; rfl
      obtain ⟨b1, o1, q1, hb1, hc1⟩ := HR.out (k - 1) (encHoldV l[k - 1]) (by simp [hk0])
      injection q1 with q1
      injection q1 with q1 q2 _
      subst q1 q2
      have f0 := tC Hbl hb (hc1 0 _ rfl)
      have f1 := tC Hbl hb (hc1 1 _ rfl)
      simp only [Nat.add_zero] at f0
      clear hc1 hb1
      cases hlo : lessU l[k - 1].unit l[k].unit
      ·have CO := hid (fun W => hlo ▸ ref15Less l[k - 1].unit l[k].unit W)
       have HN := hid (show isKR isL none (l.map lgHoldV) = false from by rw [HV.out, hd]; exact isKR_no (.inr (.inr ⟨_, hp, hlo⟩)))
       clear hx hlo hp hgk hd hne hiv
       have lk : (k : Int) - 1 < (l.length : Int) := by omega
       have k1 : (1 : Int) ≤ (k : Int) := by omega
       have k2 : 1 ≤ k := by omega
       have lk2 : (k : Int) ≤ (l.length : Int) := by omega
       have lk3 : (k : Int) < (l.length : Int) + 1 := by omega
       have lk4 : k < l.length + 1 := by omega
       obtain ⟨nk, tk, wk⟩ := pred_HoldV k0 (by omega)
       go_wp2_with fail
       go_region_held3 (fun w' => (w'.cell? ⟨b, o + k * 3, none⟩ = some (.int .i64 l[k].unit.acc) ∧ w'.cell? ⟨b, o + k * 3 + 1, none⟩ = some (.int .i64 l[k].unit.cli) ∧ w'.cell? ⟨b, o + k * 3 + 2, none⟩ = some (.slice l[k].lots.A l[k].lots.val.length l[k].lots.c)) ∧ (w'.cell? ⟨b, o + (k - 1) * 3, none⟩ = some (.int .i64 l[k - 1].unit.acc) ∧ w'.cell? ⟨b, o + (k - 1) * 3 + 1, none⟩ = some (.int .i64 l[k - 1].unit.cli))) (exact tK) (first | (go_at_call 58; (with_reducible refine cM (CI.out _ (HGK.out.keep tB).rd) fun w1 hb1 fc1 fg1 hc1 hf1 hz1 => ?_); (try simp at hz1)) | (go_at_call 57; (with_reducible refine cM (CO.out _) fun w2 hb2 fc2 fg2 hc2 hf2 hz2 => ?_); (try simp at hz2)) | fail)
       clear nk tk wk
       go_wp2_with fail
       go_ret
       exact ⟨by rw [HIL.out, HN.out]; rfl, by have hbl := Hbl.out; exact tB⟩
      ·have CO := hid (fun W => hlo ▸ ref15Less l[k - 1].unit l[k].unit W)
       have HN := hid (show isKR isL p ((l.drop k).map lgHoldV) = isKR isL (some l[k].unit) ((l.drop (k + 1)).map lgHoldV) from by rw [hd]; exact isKR_step hne hiv (fun q hq => by rw [hp] at hq; injection hq with hq; rw [← hq]; exact hlo))
       clear hx hlo hp hgk hd hne hiv
       have lk : (k : Int) - 1 < (l.length : Int) := by omega
       have k1 : (1 : Int) ≤ (k : Int) := by omega
       have k2 : 1 ≤ k := by omega
       have lk2 : (k : Int) ≤ (l.length : Int) := by omega
       have lk3 : (k : Int) < (l.length : Int) + 1 := by omega
       have lk4 : k < l.length + 1 := by omega
       obtain ⟨nk, tk, wk⟩ := pred_HoldV k0 (by omega)
       go_wp2_with fail
       go_region_held3 (fun w' => (w'.cell? ⟨b, o + k * 3, none⟩ = some (.int .i64 l[k].unit.acc) ∧ w'.cell? ⟨b, o + k * 3 + 1, none⟩ = some (.int .i64 l[k].unit.cli) ∧ w'.cell? ⟨b, o + k * 3 + 2, none⟩ = some (.slice l[k].lots.A l[k].lots.val.length l[k].lots.c)) ∧ (w'.cell? ⟨b, o + (k - 1) * 3, none⟩ = some (.int .i64 l[k - 1].unit.acc) ∧ w'.cell? ⟨b, o + (k - 1) * 3 + 1, none⟩ = some (.int .i64 l[k - 1].unit.cli))) (exact tK) (first | (go_at_call 58; (with_reducible refine cM (CI.out _ (HGK.out.keep tB).rd) fun w1 hb1 fc1 fg1 hc1 hf1 hz1 => ?_); (try simp at hz1)) | (go_at_call 57; (with_reducible refine cM (CO.out _) fun w2 hb2 fc2 fg2 hc2 hf2 hz2 => ?_); (try simp at hz2)) | fail)
       clear nk tk wk
       go_wp2_with fail
       go_roundw
       case rel => exact ⟨k + 1, some l[k].unit, by omega, by go_num, by rw [HV.out, HN.out], by have hbl := Hbl.out; exact tB, .inr ⟨by omega, by rw [Nat.add_sub_cancel, List.getElem?_eq_getElem hlt]; rfl⟩⟩
       case measure => simp [intOf]; omega
   ·have HN := hid (show isKR isL none (l.map lgHoldV) = false from by
     rw [HV.out, hd]
     refine isKR_no (.inl ?_)
     have h1 : (l[k].lots.val.length : Int) = 0 := by simpa using hq
     show l[k].lots.val = []
     exact List.eq_nil_of_length_eq_zero (by omega))
    clear hx hgk hd
    go_wp2_with fail
    refine wp_region_held_drew (S := (fun w' => (w'.cell? ⟨b, o + k * 3, none⟩ = some (.int .i64 l[k].unit.acc) ∧ w'.cell? ⟨b, o + k * 3 + 1, none⟩ = some (.int .i64 l[k].unit.cli) ∧ w'.cell? ⟨b, o + k * 3 + 2, none⟩ = some (.slice l[k].lots.A l[k].lots.val.length l[k].lots.c)))) (by kernel_rfl) ?_ (fun hHeld => ?_)
    ·(exact tK)
    refine tQ 0 ?_
    refine tS ?_
    refine tQ 1 ?_
    refine tS ?_
    refine tQ 2 ?_
    refine tS ?_
    refine tQ 3 ?_
    refine tS ?_
    refine tQ 4 ?_
    refine tS ?_
    refine tQ 5 ?_
    refine tS ?_
    refine tQ 6 ?_
    refine tS ?_
    refine tQ 7 ?_
    refine tS ?_
    refine tN 8 ?_
    refine tS ?_
    refine tN 9 ?_
    refine tS ?_
    refine tN 10 ?_
    refine tS ?_
    refine tN 11 ?_
    refine tS ?_
    refine tN 12 ?_
    refine tS ?_
    refine tN 13 ?_
    refine tS ?_
    refine tN 14 ?_
    refine tS ?_
    refine tQ 15 ?_
    refine tS ?_
    refine tQ 16 ?_
    refine tS ?_
    refine tN 17 ?_
    refine tS ?_
    refine tN 18 ?_
    refine tS ?_
    refine tN 19 ?_
    refine tS ?_
    refine tN 20 ?_
    refine tS ?_
    refine tN 21 ?_
    refine tS ?_
    refine tN 22 ?_
    refine tS ?_
    refine tN 23 ?_
    refine tS ?_
    refine tN 24 ?_
    refine tS ?_
    refine tN 25 ?_
    refine tS ?_
    refine tN 26 ?_
    refine tS ?_
    refine tN 27 ?_
    refine tS ?_
    refine tN 28 ?_
    refine tS ?_
    refine tN 29 ?_
    refine tS ?_
    refine tN 30 ?_
    refine tS ?_
    refine tN 31 ?_
    refine tS ?_
    refine tN 32 ?_
    refine tS ?_
    refine tN 33 ?_
    refine tS ?_
    refine tQ 34 ?_
    refine tS ?_
    refine wpAnyH_done (by kernel_rfl) ?_ _
    go_wp2_with fail
    go_ret
    exact ⟨by rw [HIL.out, HN.out]; rfl, by have hbl := Hbl.out; exact tB⟩
  ·have dl := @dF k l.length hlt
   have HD := hid (drop_all (l := l) (k := k) (by omega))
   have HN := hid (show isKR isL none (l.map lgHoldV) = true from by rw [HV.out, HD.out]; cases p <;> rfl)
   go_wp2_with fail
   go_ret
   exact ⟨by rw [HIL.out, HN.out]; rfl, Hbl.out⟩
/- Holds: contracts of hold.Lots, the reference's hold.Lots, Same; the law's Few. -/
theorem few_inHoldV (l : List Lot) (m : Nat) (hm : (l.take 20).length = m) (A : Option Addr) (c : Nat) (w : World) (hr : Rs w 3 (l.map encLot) A c) :
  Calls Tryz.prog 48 #[.slice A l.length c] w fun e w' => e = .returned (.slice A m c) ∧ Below w.heap.size w w' := hm ▸ law18Few l A c w hr
theorem holdOf (l : List HoldV) (u : Un) (A : Option Addr) (c : Nat) (w : World) (hl : l.length ≤ 1000000) (hr : Rd w A 3 (l.map encHoldV)) (hg : ∀ x ∈ l, GoodHoldV w x) :
  Calls Tryz.prog 66 #[.slice A l.length c, .agg #[.int .i64 u.acc, .int .i64 u.cli]] w fun e w' => ∃ v, e = .returned v ∧ Own w' w.heap.size 79 3 v ((ofK (l.map lgHoldV) u).map encLot) ∧ Below w.heap.size w w' := by
 have HR := hid hr
 have HG := hid hg
 clear hr hg
 go_enter Tryz.func66, Tryz.ntmps66
 go_wp2_with fail
 go_loopw [9] (fun i wr => ∃ k : Nat, k ≤ l.length ∧ i = .int .i64 k ∧ ofK (l.map lgHoldV) u = ofK ((l.drop k).map lgHoldV) u ∧ Below w.heap.size w wr ∧ w.heap.size < wr.heap.size ∧ wr.cell? ⟨w.heap.size, 0, none⟩ = some (.int .i64 u.acc) ∧ wr.cell? ⟨w.heap.size, 1, none⟩ = some (.int .i64 u.cli)) (fun i _ => l.length - (intOf i).toNat)
 case atStart => exact ⟨0, Nat.zero_le _, rfl, rfl, tB, by simp, by simp [go_sem], by simp [go_sem]⟩
 case round =>
  obtain ⟨k, hk, rfl, hv, hbl, hsz, g0, g1⟩ := hrel
  have HV := hid hv
  have Hbl := hid hbl
  have hz := hbl.size
  clear hv hbl
  by_cases hlt : k < l.length
  ·have kl : (k : Int) < (l.length : Int) := by omega
   have dl := @dT k l.length hlt
   have hgk := HG.out l[k] (List.getElem_mem hlt)
   have hli := hgk.1
   have HGK := hid (hgk.2.keep Hbl.out)
   have hd := lg_atHoldV hlt
   clear hgk
   obtain ⟨b, o, rfl, hb, hc⟩ := HR.out k (encHoldV l[k]) (by simp [hlt])
   have e0 := tC Hbl hb (hc 0 _ rfl)
   have e1 := tC Hbl hb (hc 1 _ rfl)
   have e2 := tC Hbl hb (hc 2 _ rfl)
   simp only [Nat.add_zero] at e0
   clear hc
   have hbw : b < wr.heap.size := by omega
   rcases un_tHoldV (x := l[k].unit) (u := u) with h | h
   ·have HN := hid (show ofK (l.map lgHoldV) u = l[k].lots.val from by rw [HV.out, hd]; unfold ofK; rw [if_pos (show (lgHoldV l[k]).unit = u from h)]; rfl)
    rw [h] at e0 e1
    clear hd h
    go_wp2_with (first | (go_at_call 101; (with_reducible refine (lotClone l[k].lots.val l[k].lots.A l[k].lots.c _ (by omega) (HGK.out.keep tB)).mono ?_); rintro e w3 ⟨v3, rfl, hown3, hb3⟩; obtain ⟨fc3, fg3, hc3, hf3, hz3⟩ := bget hb3; (try simp at hz3)) | fail)
    go_ret
    exact ⟨_, rfl, by rw [HN.out]; exact hown3.mono tZ, by have hbl := Hbl.out; exact tB⟩
   ·have HN := hid (show ofK (l.map lgHoldV) u = ofK ((l.drop (k + 1)).map lgHoldV) u from by rw [HV.out, hd, ofK, if_neg (show ¬ (lgHoldV l[k]).unit = u from un_dHoldV h)])
    clear hd
    rcases h with h | h
    all_goals
     go_wp2_with fail
     go_roundw
     case rel => exact ⟨k + 1, by omega, by go_num, HN.out, by have hbl := Hbl.out; exact tB, by simp; omega, by simp [go_sem, g0, hsz], by simp [go_sem, g1, hsz]⟩
     case measure => simp [intOf]; omega
  ·have dl := @dF k l.length hlt
   have HD := hid (drop_all (l := l) (k := k) (by omega))
   go_wp2_with fail
   go_ret
   exact ⟨_, rfl, by rw [HV.out, HD.out]; exact Own.nil _ _ _ _, by have hbl := Hbl.out; exact tB⟩
theorem row3HoldV (a b : Int) (A : Option Addr) (n m : Nat) : ∀ r ∈ [[Value.int .i64 a, .int .i64 b, .slice A n m]], r.length = 3 ∧ ∀ u ∈ r, u.oneCell' = true := by
 intro r hr
 simp only [List.mem_singleton] at hr
 subst hr
 refine ⟨rfl, ?_⟩
 simp only [List.mem_cons, List.not_mem_nil, or_false, forall_eq_or_imp, forall_eq]
 exact ⟨rfl, rfl, rfl⟩
def fewHoldV (x : HoldV) : HoldV := { x with lots := ⟨x.lots.A, x.lots.c, x.lots.val.take 20⟩ }
theorem fewHoldV_good {w : World} {x : HoldV} (h : Rs w 3 (x.lots.val.map encLot) x.lots.A x.lots.c) : GoodHoldV w (fewHoldV x) ∧ (fewHoldV x).lots.val.length ≤ 20 := by
 have h1 : (fewHoldV x).lots.val.length ≤ 20 := by simp [fewHoldV]; omega
 refine ⟨⟨by omega, ?_⟩, h1⟩
 have := h.take 20
 rw [← List.map_take] at this
 exact this
theorem law26Few (l : List HoldV) (A : Option Addr) (c : Nat) (w : World) (hl : l.length ≤ maxLen) (hr : Rd w A 3 (l.map encHoldV)) (hg : ∀ x ∈ l, Rs w 3 (x.lots.val.map encLot) x.lots.A x.lots.c) :
  Calls Tryz.prog 18 #[.slice A l.length c] w fun e w' => ∃ v, e = .returned v ∧ Own w' w.heap.size 75 3 v (((l.take 10).map fewHoldV).map encHoldV) ∧ Below w.heap.size w w' := by
 have HR := hid hr
 have HG := hid hg
 have hml : (l.length : Int) ≤ 9223372036854775807 := by unfold maxLen at hl; omega
 clear hr hg hl
 go_enter Tryz.func18, Tryz.ntmps18
 go_wp2_with fail
 go_loopw [3, 4] (fun v i wr => ∃ q : Nat, q ≤ l.length ∧ q ≤ 10 ∧ i = .int .i64 q ∧ Own wr w.heap.size 75 3 v (((l.take q).map fewHoldV).map encHoldV) ∧ Below w.heap.size w wr) (fun _ i _ => l.length - (intOf i).toNat)
 case atStart => exact ⟨0, Nat.zero_le _, Nat.zero_le _, rfl, Own.nil _ _ _ _, tB⟩
 case round =>
  obtain ⟨k, hq, hq10, rfl, hown, hbl⟩ := hrel
  have Hown := hid hown
  have Hbl := hid hbl
  have hz := hbl.size
  clear hown hbl
  by_cases hgo : k < l.length ∧ k < 10
  ·obtain ⟨hlt, h10⟩ := hgo
   have hqi : (k : Int) < (l.length : Int) := by omega
   have dl := @dT k l.length hlt
   have d10 : decide ((k : Int) < 10) = true := by simp; omega
   have hlen : ((l.take k).map fewHoldV).length ≤ 10 := by simp; omega
   have hx := HG.out l[k] (List.getElem_mem hlt)
   obtain ⟨b, o, rfl, hb, hc⟩ := HR.out k (encHoldV l[k]) (by simp [hlt])
   have e0 := tC Hbl hb (hc 0 _ rfl)
   have e1 := tC Hbl hb (hc 1 _ rfl)
   have e2 := tC Hbl hb (hc 2 _ rfl)
   simp only [Nat.add_zero] at e0
   clear hc
   have hbw : b < wr.heap.size := by omega
   obtain ⟨m, hm⟩ : ∃ m, (l[k].lots.val.take 20).length = m := ⟨_, rfl⟩
   have CF := hid (fun W (h : Below w.heap.size w W) => few_inHoldV l[k].lots.val m hm l[k].lots.A l[k].lots.c W (hx.keep h))
   have HS : Hid (((l.take (k + 1)).map fewHoldV).map encHoldV = ((l.take k).map fewHoldV).map encHoldV ++ [[.int .i64 l[k].unit.acc, .int .i64 l[k].unit.cli, .slice l[k].lots.A m l[k].lots.c]]) := by
    unfold Hid
    rw [map_snoc hlt fewHoldV, List.map_append]
    congr 1
    simp only [List.map_cons, List.map_nil, encHoldV, fewHoldV, hm]
   clear hx hm
   go_wp2_with fail
   go_region_held3 (fun w' => (w'.cell? ⟨b, o + k * 3, none⟩ = some (.int .i64 l[k].unit.acc) ∧ w'.cell? ⟨b, o + k * 3 + 1, none⟩ = some (.int .i64 l[k].unit.cli) ∧ w'.cell? ⟨b, o + k * 3 + 2, none⟩ = some (.slice l[k].lots.A l[k].lots.val.length l[k].lots.c))) (exact tK) (first | (go_at_call 48; (with_reducible refine cM (CF.out _ (by have hbl := Hbl.out; exact tB)) fun w1 hb1 fc1 fg1 hc1 hf1 hz1 => ?_); (try simp at hz1)) | (refine step_app rfl _ _ _ rfl elHoldV w.heap.size _ _ rfl (Hown.out.keep tB) (some ⟨_, 0, none⟩) 1 1 rfl [[.int .i64 l[k].unit.acc, .int .i64 l[k].unit.cli, .slice l[k].lots.A m l[k].lots.c]] rfl (fun h => by cases h) (rd_oneN (by simp)) (row3HoldV _ _ _ _ _) (by unfold maxLen; simp; omega) (by simp; omega) tZ ?_; intro v4 w4 hown4 hb4; have HO4 := hid hown4; clear hown4; obtain ⟨fc4, fg4, hc4, hf4, hz4⟩ := bget hb4; (try simp at hz4)) | fail)
   all_goals
    go_wp2_with fail
    go_roundw
    case rel => exact ⟨k + 1, by omega, by omega, by go_num, by rw [HS.out]; exact HO4.out, by have hbl := Hbl.out; exact tB⟩
    case measure => simp [intOf]; omega
  ·have HT := hid (show l.take k = l.take 10 from by
    rcases Nat.lt_or_ge k 10 with h | h
    ·rw [List.take_of_length_le (by omega), List.take_of_length_le (by omega)]
    ·rw [show k = 10 by omega])
   by_cases hlt : k < l.length
   ·have dl := @dT k l.length hlt
    have d10 : decide ((k : Int) < 10) = false := by simp; omega
    go_wp2_with fail
    go_ret
    exact ⟨_, rfl, by rw [← HT.out]; exact Hown.out, Hbl.out⟩
   ·have dl := @dF k l.length hlt
    go_wp2_with fail
    go_ret
    exact ⟨_, rfl, by rw [← HT.out]; exact Hown.out, Hbl.out⟩
/- Holds: contract of hold.set. -/
def HoldPost1 (w : World) (L : List (Row Lot)) (e : Ending) (w' : World) : Prop :=
 ∃ (v : Value) (ys : List HoldV), e = .returned v ∧ ys.map lgHoldV = L ∧ Own w' w.heap.size 75 3 v (ys.map encHoldV) ∧ (∀ y ∈ ys, GoodHoldV w' y) ∧ Below w.heap.size w w'
def OffB (g : Nat) (y : HoldV) : Prop := ∀ a, y.lots.A = some a → a.block ≠ g
def HoldPostS1 (w : World) (S : Nat → Prop) (L : List (Row Lot)) (e : Ending) (w' : World) : Prop :=
 ∃ (v : Value) (ys : List HoldV), e = .returned v ∧ ys.map lgHoldV = L ∧ Own w' w.heap.size 75 3 v (ys.map encHoldV) ∧ (∀ y ∈ ys, GoodHoldV w' y) ∧ (∀ g, S g → ∀ y ∈ ys, OffB g y) ∧ Below w.heap.size w w'
theorem HoldPostS1.less {w : World} {S : Nat → Prop} {L : List (Row Lot)} {e : Ending} {w' : World} (h : HoldPostS1 w S L e w') : HoldPost1 w L e w' := by
 obtain ⟨v, ys, h1, h2, h3, h4, _, h5⟩ := h
 exact ⟨v, ys, h1, h2, h3, h4, h5⟩
theorem own_off {w : World} {base E k n c : Nat} {A : Option Addr} {rows : List (List Value)} (h : Own w base E k (.slice A n c) rows) {m : Nat} (hm : m ≤ base) : ∀ a, A = some a → m ≤ a.block := by
 intro a ha
 obtain ⟨A2, c2, hv, _, hf⟩ := h.rs
 injection hv with e1 _ _
 rcases hf with ⟨h1, _, _⟩ | ⟨g, h1, h2, _⟩
 ·rw [e1, h1] at ha; cases ha
 ·rw [e1, h1] at ha
  injection ha with ha
  subst ha
  exact Nat.le_trans hm h2
def OwnH (w : World) (base : Nat) (y : HoldV) : Prop := y.lots.val.length ≤ 1000000 ∧ Own w base 79 3 (.slice y.lots.A y.lots.val.length y.lots.c) (y.lots.val.map encLot)
theorem OwnH.good {w : World} {base : Nat} {y : HoldV} (h : OwnH w base y) : GoodHoldV w y := ⟨h.1, h.2.good⟩
theorem OwnH.away {w w' : World} {base : Nat} {y : HoldV} (h : OwnH w base y) (ha : Away 75 w w') : OwnH w' base y := ⟨h.1, h.2.away ha (by decide)⟩
def MixH (n : Nat) (wo w : World) (y : HoldV) : Prop := OwnH w wo.heap.size y ∨ (GoodHoldV wo y ∧ ∀ a, y.lots.A = some a → n ≤ a.block)
theorem MixH.off {n : Nat} {wo w : World} {y : HoldV} (h : MixH n wo w y) (hn : n ≤ wo.heap.size) : ∀ a, y.lots.A = some a → n ≤ a.block := by
 rcases h with h | h
 ·exact own_off h.2 hn
 ·exact h.2
theorem MixH.away {n : Nat} {wo w w' : World} {y : HoldV} (h : MixH n wo w y) (ha : Away 75 w w') : MixH n wo w' y := by
 rcases h with h | h
 ·exact .inl (h.away ha)
 ·exact .inr h
theorem MixH.good {n : Nat} {wo w : World} {y : HoldV} (h : MixH n wo w y) (hb : Below wo.heap.size wo w) : GoodHoldV w y := by
 rcases h with h | h
 ·exact h.good
 ·exact h.1.keep hb
/- Holds: contracts of hold.turned, Put, Take, Set, the reference's Put, Take, Set. -/
def HoldPost (w : World) (L : List (Row Lot)) (code : Int) (e : Ending) (w' : World) : Prop :=
 ∃ (v : Value) (ys : List HoldV), e = .returned (.tuple #[v, .int .i64 code]) ∧ ys.map lgHoldV = L ∧ Own w' w.heap.size 75 3 v (ys.map encHoldV) ∧ (∀ y ∈ ys, GoodHoldV w' y) ∧ Below w.heap.size w w'
def HoldPostS (w : World) (S : Nat → Prop) (L : List (Row Lot)) (code : Int) (e : Ending) (w' : World) : Prop :=
 ∃ (v : Value) (ys : List HoldV), e = .returned (.tuple #[v, .int .i64 code]) ∧ ys.map lgHoldV = L ∧ Own w' w.heap.size 75 3 v (ys.map encHoldV) ∧ (∀ y ∈ ys, GoodHoldV w' y) ∧ (∀ g, S g → ∀ y ∈ ys, OffB g y) ∧ Below w.heap.size w w'
theorem HoldPostS.less {w : World} {S : Nat → Prop} {L : List (Row Lot)} {code : Int} {e : Ending} {w' : World} (h : HoldPostS w S L code e w') : HoldPost w L code e w' := by
 obtain ⟨v, ys, h1, h2, h3, h4, _, h5⟩ := h
 exact ⟨v, ys, h1, h2, h3, h4, h5⟩
def LQ (L : List (Row Lot)) : Prop := ∀ r ∈ L, r.rows.length ≤ 1000 ∧ ∀ y ∈ r.rows, In64 y.qty
theorem LQ.of {L : List (Row Lot)} (h : LQ L) (u : Un) : (ofK L u).length ≤ 1000 ∧ ∀ y ∈ ofK L u, In64 y.qty := by
 rcases ofK_mem (l := L) (u := u) with ⟨x, hx, _, e⟩ | ⟨_, e⟩
 ·rw [e]; exact h x hx
 ·rw [e]; exact ⟨by simp, fun y hy => by simp at hy⟩
section
open Go.ChangeShapes Go.WideShapes Go.ChangeAt Go.RowKit Go.Joins
/- Holds handed in. -/
theorem HoldV_cells {H : Type} {enc : TypeId × Value → H} {W : World} {spare : Nat → Bool} {held : Bool} (cs : List Value) (n : Nat) (y : DataW H × List MemPlace) (hlen : cs.length = 3) (h : DataW.trod enc Tryz.prog W 0 spare held n 75 cs = some y) :
  ∃ x : HoldV, cs = encHoldV x ∧ (∀ z ∈ x.lots.val, okLot z) ∧ Rs W 3 (x.lots.val.map encLot) x.lots.A x.lots.c := by
 obtain ⟨xs, n, _, rfl, _, hxs, hf⟩ := DataW.trod_struct Tryz.underlying75 h
 match cs, hlen, xs, hxs with
 | [c0, c1, c2], _, [y0, y1], _ =>
  have h0 : DataW.trod enc Tryz.prog W 0 spare held n 60 (([c0, c1, c2].drop 0).take (Tryz.prog.cellsOf 60)) = some y0 := hf 0 _ rfl
  have h1 : DataW.trod enc Tryz.prog W 0 spare held n 73 (([c0, c1, c2].drop 2).take (Tryz.prog.cellsOf 73)) = some y1 := hf 1 _ rfl
  rw [show Tryz.prog.cellsOf _ = 2 from by kernel_rfl] at h0
  obtain ⟨x0, _, e0⟩ := Un_cells [c0, c1] n _ rfl h0
  simp only [encUn, List.cons.injEq, and_true] at e0
  obtain ⟨rfl, rfl⟩ := e0
  rw [show Tryz.prog.cellsOf _ = 1 from by kernel_rfl] at h1
  obtain ⟨l, A, c, e1, hok, hrs⟩ := lots_cells h1
  simp at e1
  subst e1
  exact ⟨⟨x0, ⟨A, c, l⟩⟩, rfl, hok, hrs⟩
end
end Go.Proofs.YtalgfpegaobacaaGreatDoor
