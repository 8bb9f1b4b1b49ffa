/- Joined. -/
import Derived.Test.YtalgfpegaobacaaGreatDoorQz3
import Derived.Test.YtalgfpegaobacaaGreatDoorQz4
import Derived.Test.YtalgfpegaobacaaGreatDoorQz5
import Derived.Deep.RegionWith
namespace Go.Proofs.YtalgfpegaobacaaGreatDoor
set_option linter.all false
set_option maxHeartbeats 8000000
set_option maxRecDepth 100000
open Go.RowKit
open Lib (hid)
/- Lots: the type; which may be, how they stand; what any are with one more, or without some of one. No program in sight. -/
structure Lot where
 asset : Int
 tag : Int
 qty : Int
 deriving DecidableEq
def encLot (x : Lot) : List Value := [.int .i64 x.asset, .int .i64 x.tag, .int .i64 x.qty]
def okLot (x : Lot) : Prop := In64 x.asset ∧ In64 x.tag ∧ In64 x.qty
theorem rowsLot (l : List Lot) : ∀ r ∈ l.map encLot, r.length = 3 ∧ ∀ u ∈ r, u.oneCell' = true := by
 intro r hr
 obtain ⟨m, _, rfl⟩ := List.mem_map.1 hr
 refine ⟨rfl, ?_⟩
 simp only [encLot, List.mem_cons, List.not_mem_nil, or_false, forall_eq_or_imp, forall_eq]
 exact ⟨rfl, rfl, rfl⟩
def rightL (x : Lot) : Bool := decide (1 ≤ x.asset) && decide (x.asset ≤ 4) && decide (0 ≤ x.tag) && decide (x.tag ≤ 255) && decide (0 < x.qty)
theorem rightL_iff {x : Lot} : rightL x = true ↔ 1 ≤ x.asset ∧ x.asset ≤ 4 ∧ 0 ≤ x.tag ∧ x.tag ≤ 255 ∧ 0 < x.qty := by simp [rightL, and_assoc]
theorem rightL_no {x : Lot} (h : ¬ (1 ≤ x.asset ∧ x.asset ≤ 4 ∧ 0 ≤ x.tag ∧ x.tag ≤ 255 ∧ 0 < x.qty)) : rightL x = false := by
 cases hr : rightL x
 ·rfl
 ·exact absurd (rightL_iff.1 hr) h
def ordL (a b : Lot) : Int := orOf (ord a.asset b.asset) (ord a.tag b.tag)
def ltL (a b : Lot) : Bool := decide (ordL a b < 0)
theorem ltL_iff {a b : Lot} : ltL a b = true ↔ a.asset < b.asset ∨ (a.asset = b.asset ∧ a.tag < b.tag) := by
 unfold ltL ordL orOf ord
 rw [decide_eq_true_eq]
 repeat' split
 all_goals omega
theorem ltL_no {a b : Lot} (h : ¬ (a.asset < b.asset ∨ (a.asset = b.asset ∧ a.tag < b.tag))) : ltL a b = false := by
 cases hr : ltL a b
 ·rfl
 ·exact absurd (ltL_iff.1 hr) h
def isR : Option Lot → List Lot → Bool
 | _, [] => true
 | none, x :: t => rightL x && isR (some x) t
 | some p, x :: t => rightL x && ltL p x && isR (some x) t
def isL (l : List Lot) : Bool := isR none l && decide (l.length ≤ 16)
def SortL (l : List Lot) : Prop := l.Pairwise (fun a b => ltL a b = true)
theorem ltL_trans {a b c : Lot} (h : ltL a b = true) (k : ltL b c = true) : ltL a c = true := by
 rw [ltL_iff] at *; omega
theorem isR_sort : ∀ {l : List Lot} {p : Option Lot} (_ : isR p l = true), SortL l ∧ (∀ x ∈ l, rightL x = true) ∧ ∀ q, p = some q → ∀ x ∈ l, ltL q x = true
 | [], _, _ => ⟨List.Pairwise.nil, by simp, by simp⟩
 | x :: t, p, h => by
  have ⟨h0, h1, h2⟩ : rightL x = true ∧ isR (some x) t = true ∧ ∀ q, p = some q → ltL q x = true := by
   cases p with
   | none => simp only [isR, Bool.and_eq_true] at h; exact ⟨h.1, h.2, fun q hq => by cases hq⟩
   | some q => simp only [isR, Bool.and_eq_true] at h; exact ⟨h.1.1, h.2, fun q' hq => by injection hq with e; subst e; exact h.1.2⟩
  have ⟨i1, i2, i3⟩ := isR_sort h1
  have i4 := i3 x rfl
  refine ⟨List.pairwise_cons.2 ⟨i4, i1⟩, fun y hy => ?_, fun q hq y hy => ?_⟩
  ·rcases List.mem_cons.1 hy with rfl | hy
   ·exact h0
   ·exact i2 y hy
  ·rcases List.mem_cons.1 hy with rfl | hy
   ·exact h2 q hq
   ·exact ltL_trans (h2 q hq) (i4 y hy)
theorem isL_sort {l : List Lot} (h : isL l = true) : SortL l ∧ (∀ x ∈ l, rightL x = true) ∧ l.length ≤ 16 := by
 unfold isL at h
 rw [Bool.and_eq_true, decide_eq_true_eq] at h
 have := isR_sort h.1
 exact ⟨this.1, this.2.1, h.2⟩
/- Lots: contracts of lots.right, order, Is, Get, checked; the search. -/
theorem elLot : Elem Tryz.prog 73 79 3 24 := elem_of Tryz.underlying73 (z := .agg #[.int .i64 0, .int .i64 0, .int .i64 0]) (by kernel_rfl) rfl (by omega)
theorem lotRight (x : Lot) (w : World) : Calls Tryz.prog 212 #[.agg #[.int .i64 x.asset, .int .i64 x.tag, .int .i64 x.qty]] w fun e w' => e = .returned (.bool (rightL x)) ∧ Below w.heap.size w w' := by
 by_cases t0 : 1 ≤ x.asset
 rotate_left
 ·have d0 := decide_eq_false t0
  have HN := hid (rightL_no (x := x) (by omega))
  go_enter Tryz.func212, Tryz.ntmps212
  go_wp2_with fail
  go_ret
  exact ⟨by rw [HN.out]; first | done | rfl, tB⟩
 have d0 := decide_eq_true t0
 by_cases t1 : x.asset ≤ 4
 rotate_left
 ·have d1 := decide_eq_false t1
  have HN := hid (rightL_no (x := x) (by omega))
  go_enter Tryz.func212, Tryz.ntmps212
  go_wp2_with fail
  go_ret
  exact ⟨by rw [HN.out]; first | done | rfl, tB⟩
 have d1 := decide_eq_true t1
 by_cases t2 : 0 ≤ x.tag
 rotate_left
 ·have d2 := decide_eq_false t2
  have HN := hid (rightL_no (x := x) (by omega))
  go_enter Tryz.func212, Tryz.ntmps212
  go_wp2_with fail
  go_ret
  exact ⟨by rw [HN.out]; first | done | rfl, tB⟩
 have d2 := decide_eq_true t2
 by_cases t3 : x.tag ≤ 255
 rotate_left
 ·have d3 := decide_eq_false t3
  have HN := hid (rightL_no (x := x) (by omega))
  go_enter Tryz.func212, Tryz.ntmps212
  go_wp2_with fail
  go_ret
  exact ⟨by rw [HN.out]; first | done | rfl, tB⟩
 have d3 := decide_eq_true t3
 by_cases t4 : 0 < x.qty
 rotate_left
 ·have d4 := decide_eq_false t4
  have HN := hid (rightL_no (x := x) (by omega))
  go_enter Tryz.func212, Tryz.ntmps212
  go_wp2_with fail
  go_ret
  exact ⟨by rw [HN.out]; first | done | rfl, tB⟩
 have d4 := decide_eq_true t4
 have HN := hid (rightL_iff (x := x).2 ⟨by omega, by omega, by omega, by omega, by omega⟩)
 go_enter Tryz.func212, Tryz.ntmps212
 go_wp2_with fail
 go_ret
 exact ⟨by rw [HN.out]; first | done | rfl, tB⟩
theorem cmpInt (a b : Int) (w : World) :
  Calls Tryz.prog 226 #[.int .i64 a, .int .i64 b] w fun e w' => e = .returned (.int .i64 (ord a b)) ∧ w = w' := by
 go_enter Tryz.func226, Tryz.ntmps226
 go_wp2
 all_goals (go_ret; exact ⟨ret_int (by unfold ord; repeat' split <;> omega), rfl⟩)
theorem lotOrder (a b : Lot) (w : World) : Calls Tryz.prog 213 #[.agg #[.int .i64 a.asset, .int .i64 a.tag, .int .i64 a.qty], .agg #[.int .i64 b.asset, .int .i64 b.tag, .int .i64 b.qty]] w fun e w' => e = .returned (.int .i64 (ordL a b)) ∧ Below w.heap.size w w' := by
 unfold ordL
 generalize ho1 : ord a.asset b.asset = o1
 generalize ho2 : ord a.tag b.tag = o2
 have C1 := hid (fun W => show Calls Tryz.prog 226 #[.int .i64 a.asset, .int .i64 b.asset] W fun e w' => e = .returned (.int .i64 o1) ∧ W = w' from by rw [← ho1]; exact cmpInt _ _ _)
 have C2 := hid (fun W => show Calls Tryz.prog 226 #[.int .i64 a.tag, .int .i64 b.tag] W fun e w' => e = .returned (.int .i64 o2) ∧ W = w' from by rw [← ho2]; exact cmpInt _ _ _)
 clear ho1 ho2
 go_enter Tryz.func213, Tryz.ntmps213
 go_wp2_with fail
 go_region_held3 (fun w' => (w'.cell? ⟨w.heap.size, 0, none⟩ = some (.int .i64 a.asset) ∧ w'.cell? ⟨w.heap.size, 1, none⟩ = some (.int .i64 a.tag)) ∧ w'.cell? ⟨w.heap.size + 1, 0, none⟩ = some (.int .i64 b.asset) ∧ w'.cell? ⟨w.heap.size + 1, 1, none⟩ = some (.int .i64 b.tag)) (exact tK) (first | (go_at_call 226; (with_reducible refine (C1.out _).mono ?_); rintro e w1 ⟨rfl, rfl⟩) | (go_at_call 226; (with_reducible refine (C2.out _).mono ?_); rintro e w2 ⟨rfl, rfl⟩) | (go_at_call 209; (with_reducible refine (cmpOr2 o1 o2 _ _ 0 _ ?_ ?_).mono ?_); (focus (simp [go_sem]; done)); (focus (simp [go_sem]; done)); rintro e w3 ⟨rfl, rfl⟩) | fail)
 all_goals
  go_wp2_with fail
  go_ret
  exact ⟨rfl, tB⟩
/- Lots: contracts of lots.Is, Get, checked. -/
theorem isR_step {p : Option Lot} {x : Lot} {t : List Lot} (h0 : rightL x = true) (h1 : ∀ q, p = some q → ltL q x = true) : isR p (x :: t) = isR (some x) t := by
 cases p with
 | none => simp [isR, h0]
 | some q => simp [isR, h0, h1 q rfl]
theorem isR_bad {p : Option Lot} {x : Lot} {t : List Lot} (h : rightL x = false ∨ ∃ q, p = some q ∧ ltL q x = false) : isR p (x :: t) = false := by
 rcases h with h | ⟨q, rfl, h⟩
 ·cases p <;> simp [isR, h]
 ·simp [isR, h]
theorem pred_facts {k : Nat} (h : 1 ≤ k) (hk : k ≤ 1000000) : (0 : Int) ≤ (k : Int) - 1 ∧ ((k : Int) - 1).toNat = k - 1 ∧ IntKind.i64.wrap ((k : Int) - 1) = (k : Int) - 1 :=
 ⟨by omega, by omega, IntWalk.i64_in _ (by omega)⟩
theorem lotIs (l : List Lot) (A : Option Addr) (c : Nat) (w : World) (hl : l.length ≤ 1000000) (hr : Rd w A 3 (l.map encLot)) :
  Calls Tryz.prog 194 #[.slice A l.length c] w fun e w' => e = .returned (.bool (isL l)) ∧ Below w.heap.size w w' := by
 have HR := hid hr
 have HI : isL l = (isR none l && decide (l.length ≤ 16)) := rfl
 have HIL := hid HI
 clear hr HI
 go_enter Tryz.func194, Tryz.ntmps194
 go_wp2_with fail
 go_loopw [7] (fun i wr => ∃ (k : Nat) (p : Option Lot), k ≤ l.length ∧ i = .int .i64 k ∧ isR none l = isR p (l.drop k) ∧ Below w.heap.size w wr ∧ (k = 0 ∧ p = none ∨ 0 < k ∧ p = l[k - 1]?)) (fun i _ => l.length - (intOf i).toNat)
 case atStart => exact ⟨0, none, Nat.zero_le _, rfl, rfl, Below.refl _ _, .inl ⟨rfl, rfl⟩⟩
 case round =>
  obtain ⟨k, p, hk, rfl, hv, hbl, hx⟩ := hrel
  have HV := hid hv
  have Hbl := hid hbl
  have hz := hbl.size
  clear hv hbl
  by_cases hlt : k < l.length
  ·have kl : (k : Int) < (l.length : Int) := by omega
   have dl := @dT k l.length hlt
   have HD := hid (drop_cons' hlt)
   obtain ⟨b, o, rfl, hb, hc⟩ := HR.out k (encLot l[k]) (by simp [hlt])
   have e0 := tC Hbl hb (hc 0 _ rfl)
   have e1 := tC Hbl hb (hc 1 _ rfl)
   have e2 := tC Hbl hb (hc 2 _ rfl)
   simp only [Nat.add_zero] at e0
   clear hc
   have hbw : b < wr.heap.size := by omega
   cases hri : rightL l[k]
   ·have CR := hid (fun W => show Calls Tryz.prog 212 #[.agg #[.int .i64 l[k].asset, .int .i64 l[k].tag, .int .i64 l[k].qty]] W fun e w' => e = .returned (.bool false) ∧ Below W.heap.size W w' from by rw [← hri]; exact lotRight _ W)
    have HN := hid (show isR none l = false from by rw [HV.out, HD.out]; exact isR_bad (.inl hri))
    clear hri hx
    go_wp2_with fail
    refine wp_region_held_drew (S := (fun w' => (w'.cell? ⟨wr.heap.size, 0, none⟩ = some (.int .i64 l[k].asset) ∧ w'.cell? ⟨wr.heap.size, 1, none⟩ = some (.int .i64 l[k].tag) ∧ w'.cell? ⟨wr.heap.size, 2, none⟩ = some (.int .i64 l[k].qty)))) (by kernel_rfl) ?_ (fun hHeld => ?_)
    ·(exact tK)
    refine tQ 0 ?_
    refine tS ?_
    refine tR (.cons (i := 1) rfl (fun K hK => ?_) .nil)
    refine tG ?_
    go_simp
    (go_at_call 212; (with_reducible refine cM (CR.out _) fun w1 hb1 fc1 fg1 hc1 hf1 hz1 => ?_); (try simp at hz1))
    refine hK.out _ _ ?_ (fun hHeld => ?_)
    focus ((exact tK); done)
    refine tS ?_
    refine tQ 2 ?_
    refine tS ?_
    refine tQ 3 ?_
    refine tS ?_
    refine tN 4 ?_
    refine tS ?_
    refine tN 5 ?_
    refine tS ?_
    refine tN 6 ?_
    refine tS ?_
    refine tN 7 ?_
    refine tS ?_
    refine tN 8 ?_
    refine tS ?_
    refine tN 9 ?_
    refine tS ?_
    refine tN 10 ?_
    refine tS ?_
    refine tN 11 ?_
    refine tS ?_
    refine tN 12 ?_
    refine tS ?_
    refine tN 13 ?_
    refine tS ?_
    refine tN 14 ?_
    refine tS ?_
    refine tN 15 ?_
    refine tS ?_
    refine tQ 16 ?_
    refine tS ?_
    refine wpAnyH_done (by kernel_rfl) ?_ _
    go_wp2_with fail
    go_ret
    exact ⟨by rw [HIL.out, HN.out]; rfl, by have hbl := Hbl.out; exact tB⟩
   ·have CR := hid (fun W => show Calls Tryz.prog 212 #[.agg #[.int .i64 l[k].asset, .int .i64 l[k].tag, .int .i64 l[k].qty]] W fun e w' => e = .returned (.bool true) ∧ Below W.heap.size W w' from by rw [← hri]; exact lotRight _ W)
    rcases hx with ⟨k0, hx⟩ | ⟨k0, hx⟩
    ·have g0 : decide (0 < k) = false := by simp; omega
     have HN := hid (show isR none l = isR (some l[k]) (l.drop (k + 1)) from by rw [HV.out, HD.out]; exact isR_step hri (fun q hq => by rw [hx] at hq; cases hq))
     clear hri hx k0
     go_wp2_with fail
     refine wp_region_held_drew (S := (fun w' => (w'.cell? ⟨wr.heap.size, 0, none⟩ = some (.int .i64 l[k].asset) ∧ w'.cell? ⟨wr.heap.size, 1, none⟩ = some (.int .i64 l[k].tag) ∧ w'.cell? ⟨wr.heap.size, 2, none⟩ = some (.int .i64 l[k].qty)))) (by kernel_rfl) ?_ (fun hHeld => ?_)
     ·(exact tK)
     refine tQ 0 ?_
     refine tS ?_
     refine tR (.cons (i := 1) rfl (fun K hK => ?_) .nil)
     refine tG ?_
     go_simp
     (go_at_call 212; (with_reducible refine cM (CR.out _) fun w1 hb1 fc1 fg1 hc1 hf1 hz1 => ?_); (try simp at hz1))
     refine hK.out _ _ ?_ (fun hHeld => ?_)
     focus ((exact tK); done)
     refine tS ?_
     refine tQ 2 ?_
     refine tS ?_
     refine tQ 3 ?_
     refine tS ?_
     refine tQ 4 ?_
     refine tS ?_
     refine tQ 5 ?_
     refine tS ?_
     refine tQ 6 ?_
     refine tS ?_
     refine tN 7 ?_
     refine tS ?_
     refine tN 8 ?_
     refine tS ?_
     refine tN 9 ?_
     refine tS ?_
     refine tN 10 ?_
     refine tS ?_
     refine tN 11 ?_
     refine tS ?_
     refine tN 12 ?_
     refine tS ?_
     refine tN 13 ?_
     refine tS ?_
     refine tN 14 ?_
     refine tS ?_
     refine tQ 15 ?_
     refine tS ?_
     refine tQ 16 ?_
     refine tS ?_
     refine wpAnyH_done (by kernel_rfl) ?_ _
     go_wp2_with fail
     go_roundw
     case rel => exact ⟨k + 1, some l[k], by omega, by go_num, HN.out, by have hbl := Hbl.out; exact tB, .inr ⟨by omega, by rw [Nat.add_sub_cancel]; exact (List.getElem?_eq_getElem hlt).symm⟩⟩
     case measure => simp [intOf]; omega
    ·have g0 : decide (0 < k) = true := by simpa using k0
     have hk0 : k - 1 < l.length := by omega
     have hp : p = some l[k - 1] := hx.trans (List.getElem?_eq_getElem hk0)
     obtain ⟨b1, o1, q1, hb1, hc1⟩ := HR.out (k - 1) (encLot l[k - 1]) (by simp [hk0])
     injection q1 with q1
     injection q1 with q1 q2 _
     subst q1 q2
     have f0 := tC Hbl hb (hc1 0 _ rfl)
     have f1 := tC Hbl hb (hc1 1 _ rfl)
     have f2 := tC Hbl hb (hc1 2 _ rfl)
     simp only [Nat.add_zero] at f0
     clear hc1
     cases hlo : ltL l[k - 1] l[k]
     ·have hge : decide (0 ≤ ordL l[k - 1] l[k]) = true := by unfold ltL at hlo; have := of_decide_eq_false hlo; exact decide_eq_true (by omega)
      have CO := hid (fun W => lotOrder l[k - 1] l[k] W)
      have HN := hid (show isR none l = false from by rw [HV.out, HD.out]; exact isR_bad (.inr ⟨_, hp, hlo⟩))
      clear hri hx hlo hp
      generalize ordL l[k - 1] l[k] = oo at *
      have lk : (k : Int) - 1 < (l.length : Int) := by omega
      have k1 : (1 : Int) ≤ (k : Int) := by omega
      have k2 : 1 ≤ k := by omega
      have lk2 : (k : Int) ≤ (l.length : Int) := by omega
      have lk3 : (k : Int) < (l.length : Int) + 1 := by omega
      have lk4 : k < l.length + 1 := by omega
      have lk5 : k - 1 < l.length := by omega
      obtain ⟨nk, tk, wk⟩ := pred_facts k0 (by omega)
      go_wp2_with fail
      go_region_held3 (fun w' => (w'.cell? ⟨wr.heap.size, 0, none⟩ = some (.int .i64 l[k].asset) ∧ w'.cell? ⟨wr.heap.size, 1, none⟩ = some (.int .i64 l[k].tag) ∧ w'.cell? ⟨wr.heap.size, 2, none⟩ = some (.int .i64 l[k].qty)) ∧ (w'.cell? ⟨b, o + (k - 1) * 3, none⟩ = some (.int .i64 l[k - 1].asset) ∧ w'.cell? ⟨b, o + (k - 1) * 3 + 1, none⟩ = some (.int .i64 l[k - 1].tag) ∧ w'.cell? ⟨b, o + (k - 1) * 3 + 2, none⟩ = some (.int .i64 l[k - 1].qty))) (exact tK) (first | (go_at_call 212; (with_reducible refine cM (CR.out _) fun w1 hb1 fc1 fg1 hc1 hf1 hz1 => ?_); (try simp at hz1)) | (go_at_call 213; (with_reducible refine cM (CO.out _) fun w2 hb2 fc2 fg2 hc2 hf2 hz2 => ?_); (try simp at hz2)) | fail)
      clear nk tk wk
      go_wp2_with fail
      go_ret
      exact ⟨by rw [HIL.out, HN.out]; rfl, by have hbl := Hbl.out; exact tB⟩
     ·have hge : decide (0 ≤ ordL l[k - 1] l[k]) = false := by unfold ltL at hlo; have := of_decide_eq_true hlo; exact decide_eq_false (by omega)
      have CO := hid (fun W => lotOrder l[k - 1] l[k] W)
      have HN := hid (show isR none l = isR (some l[k]) (l.drop (k + 1)) from by rw [HV.out, HD.out]; exact isR_step hri (fun q hq => by rw [hp] at hq; injection hq with hq; rw [← hq]; exact hlo))
      clear hri hx hlo hp
      generalize ordL l[k - 1] l[k] = oo at *
      have lk : (k : Int) - 1 < (l.length : Int) := by omega
      have k1 : (1 : Int) ≤ (k : Int) := by omega
      have k2 : 1 ≤ k := by omega
      have lk2 : (k : Int) ≤ (l.length : Int) := by omega
      have lk3 : (k : Int) < (l.length : Int) + 1 := by omega
      have lk4 : k < l.length + 1 := by omega
      have lk5 : k - 1 < l.length := by omega
      obtain ⟨nk, tk, wk⟩ := pred_facts k0 (by omega)
      go_wp2_with fail
      go_region_held3 (fun w' => (w'.cell? ⟨wr.heap.size, 0, none⟩ = some (.int .i64 l[k].asset) ∧ w'.cell? ⟨wr.heap.size, 1, none⟩ = some (.int .i64 l[k].tag) ∧ w'.cell? ⟨wr.heap.size, 2, none⟩ = some (.int .i64 l[k].qty)) ∧ (w'.cell? ⟨b, o + (k - 1) * 3, none⟩ = some (.int .i64 l[k - 1].asset) ∧ w'.cell? ⟨b, o + (k - 1) * 3 + 1, none⟩ = some (.int .i64 l[k - 1].tag) ∧ w'.cell? ⟨b, o + (k - 1) * 3 + 2, none⟩ = some (.int .i64 l[k - 1].qty))) (exact tK) (first | (go_at_call 212; (with_reducible refine cM (CR.out _) fun w1 hb1 fc1 fg1 hc1 hf1 hz1 => ?_); (try simp at hz1)) | (go_at_call 213; (with_reducible refine cM (CO.out _) fun w2 hb2 fc2 fg2 hc2 hf2 hz2 => ?_); (try simp at hz2)) | fail)
      clear nk tk wk
      go_wp2_with fail
      go_roundw
      case rel => exact ⟨k + 1, some l[k], by omega, by go_num, HN.out, by have hbl := Hbl.out; exact tB, .inr ⟨by omega, by rw [Nat.add_sub_cancel]; exact (List.getElem?_eq_getElem hlt).symm⟩⟩
      case measure => simp [intOf]; omega
  ·have dl := @dF k l.length hlt
   have HD := hid (drop_all (l := l) (k := k) (by omega))
   have HN := hid (show isL l = decide ((l.length : Int) ≤ 16) from by rw [HIL.out, HV.out, HD.out]; cases p <;> simp only [isR, Bool.true_and] <;> exact decide_eq_decide.2 (by omega))
   go_wp2_with fail
   go_ret
   exact ⟨by rw [HN.out]; rfl, Hbl.out⟩
/- Lots: contracts of the reference's one, less, Get, Sum, Same. -/
theorem ref18one (x : Lot) (w : World) : Calls Tryz.prog 93 #[.agg #[.int .i64 x.asset, .int .i64 x.tag, .int .i64 x.qty]] w fun e w' => e = .returned (.bool (rightL x)) ∧ Below w.heap.size w w' := by
 by_cases t0 : 0 < x.asset
 rotate_left
 ·have d0 := decide_eq_false t0
  have HN := hid (rightL_no (x := x) (by omega))
  go_enter Tryz.func93, Tryz.ntmps93
  go_wp2_with fail
  go_ret
  exact ⟨by rw [HN.out]; first | done | rfl, tB⟩
 have d0 := decide_eq_true t0
 by_cases t1 : x.asset < 5
 rotate_left
 ·have d1 := decide_eq_false t1
  have HN := hid (rightL_no (x := x) (by omega))
  go_enter Tryz.func93, Tryz.ntmps93
  go_wp2_with fail
  go_ret
  exact ⟨by rw [HN.out]; first | done | rfl, tB⟩
 have d1 := decide_eq_true t1
 by_cases t2 : 0 ≤ x.tag
 rotate_left
 ·have d2 := decide_eq_false t2
  have HN := hid (rightL_no (x := x) (by omega))
  go_enter Tryz.func93, Tryz.ntmps93
  go_wp2_with fail
  go_ret
  exact ⟨by rw [HN.out]; first | done | rfl, tB⟩
 have d2 := decide_eq_true t2
 by_cases t3 : x.tag < 256
 rotate_left
 ·have d3 := decide_eq_false t3
  have HN := hid (rightL_no (x := x) (by omega))
  go_enter Tryz.func93, Tryz.ntmps93
  go_wp2_with fail
  go_ret
  exact ⟨by rw [HN.out]; first | done | rfl, tB⟩
 have d3 := decide_eq_true t3
 by_cases t4 : 0 < x.qty
 rotate_left
 ·have d4 := decide_eq_false t4
  have HN := hid (rightL_no (x := x) (by omega))
  go_enter Tryz.func93, Tryz.ntmps93
  go_wp2_with fail
  go_ret
  exact ⟨by rw [HN.out]; first | done | rfl, tB⟩
 have d4 := decide_eq_true t4
 have HN := hid (rightL_iff (x := x).2 ⟨by omega, by omega, by omega, by omega, by omega⟩)
 go_enter Tryz.func93, Tryz.ntmps93
 go_wp2_with fail
 go_ret
 exact ⟨by rw [HN.out]; first | done | rfl, tB⟩
theorem ref18less (a b : Lot) (w : World) : Calls Tryz.prog 94 #[.agg #[.int .i64 a.asset, .int .i64 a.tag, .int .i64 a.qty], .agg #[.int .i64 b.asset, .int .i64 b.tag, .int .i64 b.qty]] w fun e w' => e = .returned (.bool (ltL a b)) ∧ Below w.heap.size w w' := by
 by_cases h1 : a.asset < b.asset
 ·have d1 := decide_eq_true h1
  have HE := hid (ltL_iff (a := a) (b := b).2 (.inl h1))
  go_enter Tryz.func94, Tryz.ntmps94
  go_wp2_with fail
  go_ret
  exact ⟨by rw [HE.out]; rfl, tB⟩
 ·have d1 := decide_eq_false h1
  cases he : (a.asset == b.asset)
  ·have hne : ¬ a.asset = b.asset := by simpa using he
   have HE := hid (ltL_no (a := a) (b := b) (by omega))
   go_enter Tryz.func94, Tryz.ntmps94
   go_wp2_with fail
   go_ret
   exact ⟨by rw [HE.out]; rfl, tB⟩
  ·have heq : a.asset = b.asset := by simpa using he
   by_cases h2 : a.tag < b.tag
   ·have d2 := decide_eq_true h2
    have HE := hid (ltL_iff (a := a) (b := b).2 (.inr ⟨heq, h2⟩))
    clear heq
    go_enter Tryz.func94, Tryz.ntmps94
    go_wp2_with fail
    go_ret
    exact ⟨by rw [HE.out]; rfl, tB⟩
   ·have d2 := decide_eq_false h2
    have HE := hid (ltL_no (a := a) (b := b) (by omega))
    clear heq
    go_enter Tryz.func94, Tryz.ntmps94
    go_wp2_with fail
    go_ret
    exact ⟨by rw [HE.out]; rfl, tB⟩
/- Lots: contract of the reference's Is. -/
theorem ref18Is (l : List Lot) (A : Option Addr) (c : Nat) (w : World) (hl : l.length ≤ 1000000) (hr : Rd w A 3 (l.map encLot)) :
  Calls Tryz.prog 58 #[.slice A l.length c] w fun e w' => e = .returned (.bool (isL l)) ∧ Below w.heap.size w w' := by
 have HR := hid hr
 have HI : isL l = (isR none l && decide (l.length ≤ 16)) := rfl
 have HIL := hid HI
 clear hr HI
 go_enter Tryz.func58, Tryz.ntmps58
 go_wp2_with fail
 go_loopw [3] (fun i wr => ∃ (k : Nat) (p : Option Lot), k ≤ l.length ∧ i = .int .i64 k ∧ isR none l = isR p (l.drop k) ∧ Below w.heap.size w wr ∧ (k = 0 ∧ p = none ∨ 0 < k ∧ p = l[k - 1]?)) (fun i _ => l.length - (intOf i).toNat)
 case atStart => exact ⟨0, none, Nat.zero_le _, rfl, rfl, Below.refl _ _, .inl ⟨rfl, rfl⟩⟩
 case round =>
  obtain ⟨k, p, hk, rfl, hv, hbl, hx⟩ := hrel
  have HV := hid hv
  have Hbl := hid hbl
  have hz := hbl.size
  clear hv hbl
  by_cases hlt : k < l.length
  ·have kl : (k : Int) < (l.length : Int) := by omega
   have dl := @dT k l.length hlt
   have HD := hid (drop_cons' hlt)
   obtain ⟨b, o, rfl, hb, hc⟩ := HR.out k (encLot l[k]) (by simp [hlt])
   have e0 := tC Hbl hb (hc 0 _ rfl)
   have e1 := tC Hbl hb (hc 1 _ rfl)
   have e2 := tC Hbl hb (hc 2 _ rfl)
   simp only [Nat.add_zero] at e0
   clear hc
   have hbw : b < wr.heap.size := by omega
   cases hri : rightL l[k]
   ·have CR := hid (fun W => show Calls Tryz.prog 93 #[.agg #[.int .i64 l[k].asset, .int .i64 l[k].tag, .int .i64 l[k].qty]] W fun e w' => e = .returned (.bool false) ∧ Below W.heap.size W w' from by rw [← hri]; exact ref18one _ W)
    have HN := hid (show isR none l = false from by rw [HV.out, HD.out]; exact isR_bad (.inl hri))
    clear hri hx
    go_wp2_with fail
    refine wp_region_held_drew (S := (fun w' => (w'.cell? ⟨b, o + k * 3, none⟩ = some (.int .i64 l[k].asset) ∧ w'.cell? ⟨b, o + k * 3 + 1, none⟩ = some (.int .i64 l[k].tag) ∧ w'.cell? ⟨b, o + k * 3 + 2, none⟩ = some (.int .i64 l[k].qty)))) (by kernel_rfl) ?_ (fun hHeld => ?_)
    ·(exact tK)
    refine tQ 0 ?_
    refine tS ?_
    refine tQ 1 ?_
    refine tS ?_
    refine tQ 2 ?_
    refine tS ?_
    refine tQ 3 ?_
    refine tS ?_
    refine tR (.cons (i := 4) rfl (fun K hK => ?_) .nil)
    (try simp only [List.getElem_toArray])
    go_simp
    (go_at_call 93; (with_reducible refine cM (CR.out _) fun w1 hb1 fc1 fg1 hc1 hf1 hz1 => ?_); (try simp at hz1))
    refine hK.out _ _ ?_ (fun hHeld => ?_)
    focus ((exact tK); done)
    refine tS ?_
    refine tQ 5 ?_
    refine tS ?_
    refine tQ 6 ?_
    refine tS ?_
    refine tN 7 ?_
    refine tS ?_
    refine tN 8 ?_
    refine tS ?_
    refine tN 9 ?_
    refine tS ?_
    refine tN 10 ?_
    refine tS ?_
    refine tN 11 ?_
    refine tS ?_
    refine tN 12 ?_
    refine tS ?_
    refine tN 13 ?_
    refine tS ?_
    refine tN 14 ?_
    refine tS ?_
    refine tN 15 ?_
    refine tS ?_
    refine tN 16 ?_
    refine tS ?_
    refine tN 17 ?_
    refine tS ?_
    refine tN 18 ?_
    refine tS ?_
    refine tN 19 ?_
    refine tS ?_
    refine tN 20 ?_
    refine tS ?_
    refine tN 21 ?_
    refine tS ?_
    refine tQ 22 ?_
    refine tS ?_
    refine wpAnyH_done (by kernel_rfl) ?_ _
    go_wp2_with fail
    go_ret
    exact ⟨by rw [HIL.out, HN.out]; rfl, by have hbl := Hbl.out; exact tB⟩
   ·have CR := hid (fun W => show Calls Tryz.prog 93 #[.agg #[.int .i64 l[k].asset, .int .i64 l[k].tag, .int .i64 l[k].qty]] W fun e w' => e = .returned (.bool true) ∧ Below W.heap.size W w' from by rw [← hri]; exact ref18one _ W)
    rcases hx with ⟨k0, hx⟩ | ⟨k0, hx⟩
    ·have g0 : decide (0 < k) = false := by simp; omega
     have HN := hid (show isR none l = isR (some l[k]) (l.drop (k + 1)) from by rw [HV.out, HD.out]; exact isR_step hri (fun q hq => by rw [hx] at hq; cases hq))
     clear hri hx k0
     go_wp2_with fail
     refine wp_region_held_drew (S := (fun w' => (w'.cell? ⟨b, o + k * 3, none⟩ = some (.int .i64 l[k].asset) ∧ w'.cell? ⟨b, o + k * 3 + 1, none⟩ = some (.int .i64 l[k].tag) ∧ w'.cell? ⟨b, o + k * 3 + 2, none⟩ = some (.int .i64 l[k].qty)))) (by kernel_rfl) ?_ (fun hHeld => ?_)
     ·(exact tK)
     refine tQ 0 ?_
     refine tS ?_
     refine tQ 1 ?_
     refine tS ?_
     refine tQ 2 ?_
     refine tS ?_
     refine tQ 3 ?_
     refine tS ?_
     refine tR (.cons (i := 4) rfl (fun K hK => ?_) .nil)
     (try simp only [List.getElem_toArray])
     go_simp
     (go_at_call 93; (with_reducible refine cM (CR.out _) fun w1 hb1 fc1 fg1 hc1 hf1 hz1 => ?_); (try simp at hz1))
     refine hK.out _ _ ?_ (fun hHeld => ?_)
     focus ((exact tK); done)
     refine tS ?_
     refine tQ 5 ?_
     refine tS ?_
     refine tQ 6 ?_
     refine tS ?_
     refine tQ 7 ?_
     refine tS ?_
     refine tQ 8 ?_
     refine tS ?_
     refine tQ 9 ?_
     refine tS ?_
     refine tN 10 ?_
     refine tS ?_
     refine tN 11 ?_
     refine tS ?_
     refine tN 12 ?_
     refine tS ?_
     refine tN 13 ?_
     refine tS ?_
     refine tN 14 ?_
     refine tS ?_
     refine tN 15 ?_
     refine tS ?_
     refine tN 16 ?_
     refine tS ?_
     refine tN 17 ?_
     refine tS ?_
     refine tN 18 ?_
     refine tS ?_
     refine tN 19 ?_
     refine tS ?_
     refine tN 20 ?_
     refine tS ?_
     refine tQ 21 ?_
     refine tS ?_
     refine tQ 22 ?_
     refine tS ?_
     refine wpAnyH_done (by kernel_rfl) ?_ _
     go_wp2_with fail
     go_roundw
     case rel => exact ⟨k + 1, some l[k], by omega, by go_num, HN.out, by have hbl := Hbl.out; exact tB, .inr ⟨by omega, by rw [Nat.add_sub_cancel]; exact (List.getElem?_eq_getElem hlt).symm⟩⟩
     case measure => simp [intOf]; omega
    ·have g0 : decide (0 < k) = true := by simpa using k0
     have hk0 : k - 1 < l.length := by omega
     have hp : p = some l[k - 1] := hx.trans (List.getElem?_eq_getElem hk0)
     obtain ⟨b1, o1, q1, hb1, hc1⟩ := HR.out (k - 1) (encLot l[k - 1]) (by simp [hk0])
     injection q1 with q1
     injection q1 with q1 q2 _
     subst q1 q2
     have f0 := tC Hbl hb (hc1 0 _ rfl)
     have f1 := tC Hbl hb (hc1 1 _ rfl)
     have f2 := tC Hbl hb (hc1 2 _ rfl)
     simp only [Nat.add_zero] at f0
     clear hc1
     cases hlo : ltL l[k - 1] l[k]
     ·have CO := hid (fun W => show Calls Tryz.prog 94 #[.agg #[.int .i64 l[k - 1].asset, .int .i64 l[k - 1].tag, .int .i64 l[k - 1].qty], .agg #[.int .i64 l[k].asset, .int .i64 l[k].tag, .int .i64 l[k].qty]] W fun e w' => e = .returned (.bool false) ∧ Below W.heap.size W w' from by rw [← hlo]; exact ref18less _ _ W)
      have HN := hid (show isR none l = false from by rw [HV.out, HD.out]; exact isR_bad (.inr ⟨_, hp, hlo⟩))
      clear hri hx hlo hp
      have lk : (k : Int) - 1 < (l.length : Int) := by omega
      have k1 : (1 : Int) ≤ (k : Int) := by omega
      have k2 : 1 ≤ k := by omega
      have lk2 : (k : Int) ≤ (l.length : Int) := by omega
      have lk3 : (k : Int) < (l.length : Int) + 1 := by omega
      have lk4 : k < l.length + 1 := by omega
      obtain ⟨nk, tk, wk⟩ := pred_facts k0 (by omega)
      go_wp2_with fail
      go_region_held3 (fun w' => (w'.cell? ⟨b, o + k * 3, none⟩ = some (.int .i64 l[k].asset) ∧ w'.cell? ⟨b, o + k * 3 + 1, none⟩ = some (.int .i64 l[k].tag) ∧ w'.cell? ⟨b, o + k * 3 + 2, none⟩ = some (.int .i64 l[k].qty)) ∧ (w'.cell? ⟨b, o + (k - 1) * 3, none⟩ = some (.int .i64 l[k - 1].asset) ∧ w'.cell? ⟨b, o + (k - 1) * 3 + 1, none⟩ = some (.int .i64 l[k - 1].tag) ∧ w'.cell? ⟨b, o + (k - 1) * 3 + 2, none⟩ = some (.int .i64 l[k - 1].qty))) (exact tK) (first | (go_at_call 93; (with_reducible refine cM (CR.out _) fun w1 hb1 fc1 fg1 hc1 hf1 hz1 => ?_); (try simp at hz1)) | (go_at_call 94; (with_reducible refine cM (CO.out _) fun w2 hb2 fc2 fg2 hc2 hf2 hz2 => ?_); (try simp at hz2)) | fail)
      clear nk tk wk
      go_wp2_with fail
      go_ret
      exact ⟨by rw [HIL.out, HN.out]; rfl, by have hbl := Hbl.out; exact tB⟩
     ·have CO := hid (fun W => show Calls Tryz.prog 94 #[.agg #[.int .i64 l[k - 1].asset, .int .i64 l[k - 1].tag, .int .i64 l[k - 1].qty], .agg #[.int .i64 l[k].asset, .int .i64 l[k].tag, .int .i64 l[k].qty]] W fun e w' => e = .returned (.bool true) ∧ Below W.heap.size W w' from by rw [← hlo]; exact ref18less _ _ W)
      have HN := hid (show isR none l = isR (some l[k]) (l.drop (k + 1)) from by rw [HV.out, HD.out]; exact isR_step hri (fun q hq => by rw [hp] at hq; injection hq with hq; rw [← hq]; exact hlo))
      clear hri hx hlo hp
      have lk : (k : Int) - 1 < (l.length : Int) := by omega
      have k1 : (1 : Int) ≤ (k : Int) := by omega
      have k2 : 1 ≤ k := by omega
      have lk2 : (k : Int) ≤ (l.length : Int) := by omega
      have lk3 : (k : Int) < (l.length : Int) + 1 := by omega
      have lk4 : k < l.length + 1 := by omega
      obtain ⟨nk, tk, wk⟩ := pred_facts k0 (by omega)
      go_wp2_with fail
      go_region_held3 (fun w' => (w'.cell? ⟨b, o + k * 3, none⟩ = some (.int .i64 l[k].asset) ∧ w'.cell? ⟨b, o + k * 3 + 1, none⟩ = some (.int .i64 l[k].tag) ∧ w'.cell? ⟨b, o + k * 3 + 2, none⟩ = some (.int .i64 l[k].qty)) ∧ (w'.cell? ⟨b, o + (k - 1) * 3, none⟩ = some (.int .i64 l[k - 1].asset) ∧ w'.cell? ⟨b, o + (k - 1) * 3 + 1, none⟩ = some (.int .i64 l[k - 1].tag) ∧ w'.cell? ⟨b, o + (k - 1) * 3 + 2, none⟩ = some (.int .i64 l[k - 1].qty))) (exact tK) (first | (go_at_call 93; (with_reducible refine cM (CR.out _) fun w1 hb1 fc1 fg1 hc1 hf1 hz1 => ?_); (try simp at hz1)) | (go_at_call 94; (with_reducible refine cM (CO.out _) fun w2 hb2 fc2 fg2 hc2 hf2 hz2 => ?_); (try simp at hz2)) | fail)
      clear nk tk wk
      go_wp2_with fail
      go_roundw
      case rel => exact ⟨k + 1, some l[k], by omega, by go_num, HN.out, by have hbl := Hbl.out; exact tB, .inr ⟨by omega, by rw [Nat.add_sub_cancel]; exact (List.getElem?_eq_getElem hlt).symm⟩⟩
      case measure => simp [intOf]; omega
  ·have dl := @dF k l.length hlt
   have HD := hid (drop_all (l := l) (k := k) (by omega))
   have HN := hid (show isL l = decide ((l.length : Int) ≤ 16) from by rw [HIL.out, HV.out, HD.out]; cases p <;> simp only [isR, Bool.true_and] <;> exact decide_eq_decide.2 (by omega))
   go_wp2_with fail
   go_ret
   exact ⟨by rw [HN.out]; rfl, Hbl.out⟩
/- Lots: contracts of slices.Clone, Insert, Delete of lots. -/
theorem lotClone (l : List Lot) (A : Option Addr) (c : Nat) (w : World) (hl : l.length ≤ 1099511627776) (hr : Rs w 3 (l.map encLot) A c) :
  Calls Tryz.prog 101 #[.slice A l.length c] w fun e w' => ∃ v, e = .returned v ∧ Own w' w.heap.size 79 3 v (l.map encLot) ∧ Below w.heap.size w w' := by
 have Hr := hid hr
 have hnil := fun W : World => Lib.run_eql_slice_nil (P := Tryz.prog) W 73 79 A l.length c 0 0 Tryz.underlying73
 rcases A with _ | ad
 ·have hl0 : l = [] := List.map_eq_nil_iff.1 hr.nilrows
  have hc0 : c = 0 := hr.nil rfl
  subst hl0 hc0
  simp only [List.length_nil] at hnil ⊢
  clear hr
  go_enter Tryz.func101, Tryz.ntmps101
  go_wp2_with fail
  go_ret
  exact ⟨_, rfl, Own.nil _ _ _ _, tB⟩
 ·clear hr
  go_enter Tryz.func101, Tryz.ntmps101
  go_wp2_with (at_builtin; refine wpList_app rfl _ _ _ rfl elLot w.heap.size _ [] rfl (Own.made w (Nat.le_refl _)) (some ad) l.length c rfl (l.map encLot) (by simp) (fun h => by cases h) (Hr.out.keep ((Below.refl _ _).alloc (Nat.le_refl _) _)).rd (rowsLot l) (by unfold maxLen; simp; omega) (by simp; omega) (by simp) ?_; intro v' w3 hown3 hb3)
  go_ret
  exact ⟨v', rfl, by simpa using hown3, ((Below.refl _ _).alloc (Nat.le_refl _) _).trans hb3⟩
/- Layer 18's laws: Few. -/
theorem law18Few (l : List Lot) (A : Option Addr) (c : Nat) (w : World) (hr : Rs w 3 (l.map encLot) A c) :
  Calls Tryz.prog 48 #[.slice A l.length c] w fun e w' => e = .returned (.slice A (l.take 20).length c) ∧ Below w.heap.size w w' := by
 have hlc : l.length ≤ c := by have := hr.cap; rw [List.length_map] at this; exact this
 have hcm := hr.room
 unfold maxLen at hcm
 by_cases h : 20 < l.length
 ·have HN := hid (show (l.take 20).length = 20 from by rw [List.length_take]; omega)
  have d1 : decide (20 < (l.length : Int)) = true := by simp; omega
  obtain ⟨b, o, rfl, hq⟩ := hr.rd 0 (encLot (l[0]'(by omega))) (by rw [List.getElem?_map, List.getElem?_eq_getElem (by omega)]; rfl)
  rw [HN.out]
  clear hq hr
  go_enter Tryz.func48, Tryz.ntmps48
  go_wp2_with fail
  all_goals
   go_ret
   exact ⟨rfl, tB⟩
 ·rw [List.take_of_length_le (by omega)]
  have d1 : decide (20 < (l.length : Int)) = false := by simp; omega
  clear hr
  go_enter Tryz.func48, Tryz.ntmps48
  go_wp2_with fail
  go_ret
  exact ⟨rfl, tB⟩
section
open Go.ChangeShapes Go.WideShapes Go.ChangeAt Go.RowKit Go.Joins
/- Lots handed in. -/
theorem Lot_cells {H : Type} {enc : TypeId × Value → H} {W : World} {spare : Nat → Bool} {held : Bool} (cs : List Value) (n : Nat) (y : DataW H × List MemPlace) (hlen : cs.length = 3) (h : DataW.trod enc Tryz.prog W 0 spare held n 79 cs = some y) : ∃ x : Lot, okLot x ∧ cs = encLot x := by
 obtain ⟨xs, n, _, rfl, _, hxs, hf⟩ := DataW.trod_struct Tryz.underlying79 h
 match cs, hlen, xs, hxs with
 | [c0, c1, c2], _, [y0, y1, y2], _ =>
  have h0 : DataW.trod enc Tryz.prog W 0 spare held n 3 (([c0, c1, c2].drop 0).take (Tryz.prog.cellsOf 3)) = some y0 := hf 0 _ rfl
  have h1 : DataW.trod enc Tryz.prog W 0 spare held n 3 (([c0, c1, c2].drop 1).take (Tryz.prog.cellsOf 3)) = some y1 := hf 1 _ rfl
  have h2 : DataW.trod enc Tryz.prog W 0 spare held n 2 (([c0, c1, c2].drop 2).take (Tryz.prog.cellsOf 2)) = some y2 := hf 2 _ rfl
  obtain ⟨x0, e0, _, w0⟩ := DataW.trod_int (k := .i64) (by kernel_rfl) h0
  rw [show Tryz.prog.cellsOf _ = 1 from by kernel_rfl] at e0
  simp at e0
  subst e0
  obtain ⟨x1, e1, _, w1⟩ := DataW.trod_int (k := .i64) (by kernel_rfl) h1
  rw [show Tryz.prog.cellsOf _ = 1 from by kernel_rfl] at e1
  simp at e1
  subst e1
  obtain ⟨x2, e2, _, w2⟩ := DataW.trod_int (k := .i64) (by kernel_rfl) h2
  rw [show Tryz.prog.cellsOf _ = 1 from by kernel_rfl] at e2
  simp at e2
  subst e2
  exact ⟨⟨x0, x1, x2⟩, ⟨in64_of_wf w0, in64_of_wf w1, in64_of_wf w2⟩, rfl⟩
end
section
open Go.ChangeShapes Go.WideShapes Go.ChangeAt Go.RowKit Go.Joins
/- Rows of lots handed in. -/
theorem lots_cells {H : Type} {enc : TypeId × Value → H} {W : World} {spare : Nat → Bool} {held : Bool} {fuel : Nat} {cs : List Value} {y : DataW H × List MemPlace} (h : DataW.trod enc Tryz.prog W 0 spare held fuel 73 cs = some y) :
  ∃ (l : List Lot) (A : Option Addr) (c : Nat), cs = [.slice A l.length c] ∧ (∀ x ∈ l, okLot x) ∧ Rs W 3 (l.map encLot) A c := by
 obtain ⟨l, A, c, h1, h2, h3, h4, h5, h6⟩ := slice_open0 (enc1 := encLot) Tryz.underlying73 (by kernel_rfl) (fun cs n y => Lot_cells cs n y) (fun _ _ => rfl) (by omega) h
 exact ⟨l, A, c, h1, h2, ⟨h6, by rw [List.length_map]; exact h3, h4, h5⟩⟩
end
end Go.Proofs.YtalgfpegaobacaaGreatDoor
