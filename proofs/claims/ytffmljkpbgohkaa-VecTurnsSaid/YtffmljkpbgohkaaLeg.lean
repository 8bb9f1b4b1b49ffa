/- Legs: contracts of vec.Is, Get, the reference's Is, Get. -/
import Derived.Test.YtffmljkpbgohkaaSl
import Derived.Test.YtffmljkpbgohkaaFix2
import Derived.Outline
namespace Go.Proofs.Ytffmljkpbgohkaa
open Go.RowKit
structure Leg where
  inst : Int
  qty : Int
  deriving DecidableEq
def encLeg (x : Leg) : List Value := [.int .i64 x.inst, .int .i64 x.qty]
def okLeg (x : Leg) : Prop := In64 x.inst ∧ In64 x.qty
theorem rowsLeg (l : List Leg) : ∀ r ∈ l.map encLeg, r.length = 2 ∧ ∀ u ∈ r, u.oneCell' = true := by
  intro r hr
  obtain ⟨m, _, rfl⟩ := List.mem_map.1 hr
  refine ⟨rfl, ?_⟩
  simp only [encLeg, List.mem_cons, List.not_mem_nil, or_false, forall_eq_or_imp, forall_eq]
  exact ⟨rfl, rfl⟩
theorem encLeg_inj {x y : Leg} (h : encLeg x = encLeg y) : x = y := by
  unfold encLeg at h
  simp only [List.cons.injEq, Value.int.injEq, and_true, true_and] at h
  obtain ⟨h0, h1⟩ := h
  obtain ⟨xinst, xqty⟩ := x
  obtain ⟨yinst, yqty⟩ := y
  simp only at h0 h1
  subst h0 h1
  rfl
theorem elLeg : Elem Try.prog 25 56 2 16 := elem_of Try.underlying25 (z := .agg #[.int .i64 0, .int .i64 0]) (by kernel_rfl) rfl (by omega)
def isF : Int → List Leg → Bool
  | _, [] => true
  | a, x :: l => decide (a < x.inst) && decide (x.inst ≤ 8) && decide (x.qty ≠ 0) && isF x.inst l
def getF (i : Int) : List Leg → Int
  | [] => 0
  | x :: l => if x.inst = i then x.qty else getF i l
def isV (l : List Leg) : Bool := isF 0 l
theorem isF_yes {a : Int} {x : Leg} {l : List Leg} (h1 : a < x.inst ∧ x.inst ≤ 8) (h3 : (x.qty == 0) = false) : isF a (x :: l) = isF x.inst l := by
  have : x.qty ≠ 0 := by simpa using h3
  simp [isF, h1.1, h1.2, this]
theorem isF_no {a : Int} {x : Leg} {l : List Leg} (h1 : ¬ (a < x.inst ∧ x.inst ≤ 8)) : isF a (x :: l) = false := by
  simp only [isF, Bool.and_eq_false_iff, decide_eq_false_iff_not]
  omega
theorem isF_no0 {a : Int} {x : Leg} {l : List Leg} (h3 : (x.qty == 0) = true) : isF a (x :: l) = false := by
  have : x.qty = 0 := by simpa using h3
  simp [isF, this]
set_option maxRecDepth 100000 in
set_option maxHeartbeats 1000000 in
theorem vecIs (l : List Leg) (A : Option Addr) (c : Nat) (w : World) (hl : l.length ≤ 1099511627776) (hr : Rd w A 2 (l.map encLeg)) :
    Calls Try.prog 14 #[.slice A l.length c] w fun e w' => e = .returned (.bool (isV l)) ∧ Below w.heap.size w w' := by
  have HR := Lib.hid hr
  clear hr
  go_enter Try.func14, Try.ntmps14
  go_wp2_with fail
  go_loopw [3, 8] (fun a i wr => ∃ (k : Nat) (x : Int), k ≤ l.length ∧ i = .int .i64 k ∧ a = .int .i64 x ∧ isV l = isF x (l.drop k) ∧ Below w.heap.size w wr) (fun _ i _ => l.length - (intOf i).toNat)
  case atStart => exact ⟨0, 0, Nat.zero_le _, rfl, rfl, rfl, Below.refl _ _⟩
  case round =>
    obtain ⟨k, x, hk, rfl, rfl, hv, hbl⟩ := hrel
    have Hbl := Lib.hid hbl
    have HV := Lib.hid hv
    have hz := hbl.size
    clear hbl hv
    by_cases hlt : k < l.length
    · obtain ⟨be, oe, rfl, hbe, hqe⟩ := HR.out k (encLeg l[k]) (by simp [hlt])
      replace hqe := fun j v hv => (Hbl.out.cell (p := ⟨be, oe + k * 2 + j, none⟩) hbe).trans (hqe j v hv)
      have e0 := hqe 0 _ rfl
      have e1 := hqe 1 _ rfl
      simp only [Nat.add_zero] at e0
      clear hqe
      have HD := Lib.hid (drop_cons' hlt)
      cases hq : (l[k].qty == 0)
      · by_cases hg : x < l[k].inst ∧ l[k].inst ≤ 8
        · have HN := Lib.hid (isF_yes (l := l.drop (k + 1)) hg hq)
          go_wp2_with fail
          go_roundw
          case rel => exact ⟨k + 1, _, by omega, by go_num, rfl, by rw [HV.out, HD.out, HN.out], by have hbl := Hbl.out; (repeat' (first | (with_reducible exact Below.refl _ _) | (with_reducible assumption) | (with_reducible refine Below.alloc ?_ ?_ _) | (with_reducible refine Below.setCell ?_ ?_ _) | (with_reducible refine Below.drew ?_) | (with_reducible refine below_drewN ?_ _) | (with_reducible refine below_via ?_ (by with_reducible assumption) ?_) | omega | (simp; done) | (simp; omega)))⟩
          case measure => simp [intOf]; omega
        · have HN := Lib.hid (isF_no (l := l.drop (k + 1)) hg)
          go_wp2_with fail
          all_goals
            go_ret
            exact ⟨by rw [HV.out, HD.out, HN.out]; first | done | rfl, by (have hbl := Hbl.out; (repeat' (first | (with_reducible exact Below.refl _ _) | (with_reducible assumption) | (with_reducible refine Below.alloc ?_ ?_ _) | (with_reducible refine Below.setCell ?_ ?_ _) | (with_reducible refine Below.drew ?_) | (with_reducible refine below_drewN ?_ _) | (with_reducible refine below_via ?_ (by with_reducible assumption) ?_) | omega | (simp; done) | (simp; omega))))⟩
      · have HN := Lib.hid (isF_no0 (a := x) (l := l.drop (k + 1)) hq)
        go_wp2_with fail
        all_goals
          go_ret
          exact ⟨by rw [HV.out, HD.out, HN.out]; first | done | rfl, by (have hbl := Hbl.out; (repeat' (first | (with_reducible exact Below.refl _ _) | (with_reducible assumption) | (with_reducible refine Below.alloc ?_ ?_ _) | (with_reducible refine Below.setCell ?_ ?_ _) | (with_reducible refine Below.drew ?_) | (with_reducible refine below_drewN ?_ _) | (with_reducible refine below_via ?_ (by with_reducible assumption) ?_) | omega | (simp; done) | (simp; omega))))⟩
    · have HD := Lib.hid (drop_all (l := l) (k := k) (by omega))
      go_wp2_with fail
      go_ret
      exact ⟨by rw [HV.out, HD.out]; rfl, Hbl.out⟩
set_option maxRecDepth 100000 in
set_option maxHeartbeats 1000000 in
theorem vecGet (l : List Leg) (id : Int) (A : Option Addr) (c : Nat) (w : World) (hl : l.length ≤ 1099511627776) (hr : Rd w A 2 (l.map encLeg)) :
    Calls Try.prog 16 #[.slice A l.length c, .int .i64 id] w fun e w' => e = .returned (.int .i64 (getF id l)) ∧ Below w.heap.size w w' := by
  have HR := Lib.hid hr
  clear hr
  go_enter Try.func16, Try.ntmps16
  go_wp2_with fail
  go_loopw [9] (fun i wr => ∃ k : Nat, k ≤ l.length ∧ i = .int .i64 k ∧ getF id l = getF id (l.drop k) ∧ Below w.heap.size w wr) (fun i _ => l.length - (intOf i).toNat)
  case atStart => exact ⟨0, Nat.zero_le _, rfl, rfl, Below.refl _ _⟩
  case round =>
    obtain ⟨k, hk, rfl, hv, hbl⟩ := hrel
    have Hbl := Lib.hid hbl
    have HV := Lib.hid hv
    have hz := hbl.size
    clear hbl hv
    by_cases hlt : k < l.length
    · obtain ⟨be, oe, rfl, hbe, hqe⟩ := HR.out k (encLeg l[k]) (by simp [hlt])
      replace hqe := fun j v hv => (Hbl.out.cell (p := ⟨be, oe + k * 2 + j, none⟩) hbe).trans (hqe j v hv)
      have e0 := hqe 0 _ rfl
      have e1 := hqe 1 _ rfl
      simp only [Nat.add_zero] at e0
      clear hqe
      have HD := Lib.hid (drop_cons' hlt)
      cases hq : (l[k].inst == id)
      · have HN := Lib.hid (show getF id (l[k] :: l.drop (k + 1)) = getF id (l.drop (k + 1)) from by rw [getF, if_neg (by simpa using hq)])
        go_wp2_with fail
        go_roundw
        case rel => exact ⟨k + 1, by omega, by go_num, by rw [HV.out, HD.out, HN.out], by (have hbl := Hbl.out; (repeat' (first | (with_reducible exact Below.refl _ _) | (with_reducible assumption) | (with_reducible refine Below.alloc ?_ ?_ _) | (with_reducible refine Below.setCell ?_ ?_ _) | (with_reducible refine Below.drew ?_) | (with_reducible refine below_drewN ?_ _) | (with_reducible refine below_via ?_ (by with_reducible assumption) ?_) | omega | (simp; done) | (simp; omega))))⟩
        case measure => simp [intOf]; omega
      · have HN := Lib.hid (show getF id (l[k] :: l.drop (k + 1)) = l[k].qty from by rw [getF, if_pos (by simpa using hq)])
        go_wp2_with fail
        go_ret
        exact ⟨by rw [HV.out, HD.out, HN.out]; first | done | rfl, by (have hbl := Hbl.out; (repeat' (first | (with_reducible exact Below.refl _ _) | (with_reducible assumption) | (with_reducible refine Below.alloc ?_ ?_ _) | (with_reducible refine Below.setCell ?_ ?_ _) | (with_reducible refine Below.drew ?_) | (with_reducible refine below_drewN ?_ _) | (with_reducible refine below_via ?_ (by with_reducible assumption) ?_) | omega | (simp; done) | (simp; omega))))⟩
    · have HD := Lib.hid (drop_all (l := l) (k := k) (by omega))
      go_wp2_with fail
      go_ret
      exact ⟨by rw [HV.out, HD.out]; rfl, Hbl.out⟩
set_option maxRecDepth 100000 in
set_option maxHeartbeats 1000000 in
theorem refGet11 (l : List Leg) (id : Int) (A : Option Addr) (c : Nat) (w : World) (hl : l.length ≤ 1099511627776) (hr : Rd w A 2 (l.map encLeg)) :
    Calls Try.prog 17 #[.slice A l.length c, .int .i64 id] w fun e w' => e = .returned (.int .i64 (getF id l)) ∧ Below w.heap.size w w' := by
  have HR := Lib.hid hr
  clear hr
  go_enter Try.func17, Try.ntmps17
  go_wp2_with fail
  go_loopw [5] (fun i wr => ∃ k : Nat, k ≤ l.length ∧ i = .int .i64 k ∧ getF id l = getF id (l.drop k) ∧ Below w.heap.size w wr) (fun i _ => l.length - (intOf i).toNat)
  case atStart => exact ⟨0, Nat.zero_le _, rfl, rfl, Below.refl _ _⟩
  case round =>
    obtain ⟨k, hk, rfl, hv, hbl⟩ := hrel
    have Hbl := Lib.hid hbl
    have HV := Lib.hid hv
    have hz := hbl.size
    clear hbl hv
    by_cases hlt : k < l.length
    · obtain ⟨be, oe, rfl, hbe, hqe⟩ := HR.out k (encLeg l[k]) (by simp [hlt])
      replace hqe := fun j v hv => (Hbl.out.cell (p := ⟨be, oe + k * 2 + j, none⟩) hbe).trans (hqe j v hv)
      have e0 := hqe 0 _ rfl
      have e1 := hqe 1 _ rfl
      simp only [Nat.add_zero] at e0
      clear hqe
      have HD := Lib.hid (drop_cons' hlt)
      cases hq : (l[k].inst == id)
      · have HN := Lib.hid (show getF id (l[k] :: l.drop (k + 1)) = getF id (l.drop (k + 1)) from by rw [getF, if_neg (by simpa using hq)])
        go_wp2_with fail
        go_roundw
        case rel => exact ⟨k + 1, by omega, by go_num, by rw [HV.out, HD.out, HN.out], by (have hbl := Hbl.out; (repeat' (first | (with_reducible exact Below.refl _ _) | (with_reducible assumption) | (with_reducible refine Below.alloc ?_ ?_ _) | (with_reducible refine Below.setCell ?_ ?_ _) | (with_reducible refine Below.drew ?_) | (with_reducible refine below_drewN ?_ _) | (with_reducible refine below_via ?_ (by with_reducible assumption) ?_) | omega | (simp; done) | (simp; omega))))⟩
        case measure => simp [intOf]; omega
      · have HN := Lib.hid (show getF id (l[k] :: l.drop (k + 1)) = l[k].qty from by rw [getF, if_pos (by simpa using hq)])
        go_wp2_with fail
        go_ret
        exact ⟨by rw [HV.out, HD.out, HN.out]; first | done | rfl, by (have hbl := Hbl.out; (repeat' (first | (with_reducible exact Below.refl _ _) | (with_reducible assumption) | (with_reducible refine Below.alloc ?_ ?_ _) | (with_reducible refine Below.setCell ?_ ?_ _) | (with_reducible refine Below.drew ?_) | (with_reducible refine below_drewN ?_ _) | (with_reducible refine below_via ?_ (by with_reducible assumption) ?_) | omega | (simp; done) | (simp; omega))))⟩
    · have HD := Lib.hid (drop_all (l := l) (k := k) (by omega))
      go_wp2_with fail
      go_ret
      exact ⟨by rw [HV.out, HD.out]; rfl, Hbl.out⟩
theorem isF_bad {a : Int} {x : Leg} {l : List Leg} (h : ¬ a < x.inst ∨ 8 < x.inst ∨ (x.qty == 0) = true) : isF a (x :: l) = false := by
  rcases h with h | h | h
  · exact isF_no (by omega)
  · exact isF_no (by omega)
  · exact isF_no0 h
set_option maxRecDepth 100000 in
set_option maxHeartbeats 4000000 in
theorem refIs11 (l : List Leg) (A : Option Addr) (c : Nat) (w : World) (hl : l.length ≤ 1099511627776) (hr : Rd w A 2 (l.map encLeg)) :
    Calls Try.prog 15 #[.slice A l.length c] w fun e w' => e = .returned (.bool (isV l)) ∧ Below w.heap.size w w' := by
  have HR := Lib.hid hr
  clear hr
  go_enter Try.func15, Try.ntmps15
  go_wp2_with fail
  go_loopw [3] (fun i wr => ∃ (k : Nat) (x : Int), k ≤ l.length ∧ i = .int .i64 k ∧ isV l = isF x (l.drop k) ∧ Below w.heap.size w wr ∧ (k = 0 ∧ x = 0 ∨ 0 < k ∧ x = (l.getD (k - 1) ⟨0, 0⟩).inst ∧ 1 ≤ x)) (fun i _ => l.length - (intOf i).toNat)
  case atStart => exact ⟨0, 0, Nat.zero_le _, rfl, rfl, Below.refl _ _, .inl ⟨rfl, rfl⟩⟩
  case round =>
    obtain ⟨k, x, hk, rfl, hv, hbl, hx⟩ := hrel
    have Hbl := Lib.hid hbl
    have HV := Lib.hid hv
    have hz := hbl.size
    clear hbl hv
    by_cases hlt : k < l.length
    · obtain ⟨be, oe, rfl, hbe, hqe⟩ := HR.out k (encLeg l[k]) (by simp [hlt])
      replace hqe := fun j v hv => (Hbl.out.cell (p := ⟨be, oe + k * 2 + j, none⟩) hbe).trans (hqe j v hv)
      have e0 := hqe 0 _ rfl
      have e1 := hqe 1 _ rfl
      simp only [Nat.add_zero] at e0
      clear hqe
      have HD := Lib.hid (drop_cons' hlt)
      have WK := Lib.hid (show IntKind.i64.wrap ((k : Int) - 1) = (k : Int) - 1 from IntWalk.i64_in _ (by omega))
      have TK := Lib.hid (show ((k : Int) - 1).toNat = k - 1 from by omega)
      rcases hx with ⟨k0, hx⟩ | ⟨k0, hx, x1⟩
      · have g0 : decide (0 < k) = false := by simp; omega
        have K0 := Lib.hid k0
        have X0 := Lib.hid hx
        have x0 : 0 ≤ x ∧ x ≤ 0 := by omega
        clear k0 hx
        by_cases t0 : l[k].inst < 1
        · have d0 := decide_eq_true t0
          have HN := Lib.hid (isF_bad (a := x) (x := l[k]) (l := l.drop (k + 1)) (by first | (left; omega) | (right; left; omega) | (right; right; assumption)))
          have wk := WK.out
          have tk := TK.out
          go_wp2_with fail
          go_quiet (fail)
          clear wk tk
          go_wp2_with fail
          go_ret
          exact ⟨by rw [HV.out, HD.out, HN.out]; first | done | rfl, by (have hbl := Hbl.out; (repeat' (first | (with_reducible exact Below.refl _ _) | (with_reducible assumption) | (with_reducible refine Below.alloc ?_ ?_ _) | (with_reducible refine Below.setCell ?_ ?_ _) | (with_reducible refine Below.drew ?_) | (with_reducible refine below_drewN ?_ _) | (with_reducible refine below_via ?_ (by with_reducible assumption) ?_) | omega | (simp; done) | (simp; omega))))⟩
        have d0 := decide_eq_false t0
        by_cases t1 : 8 < l[k].inst
        · have d1 := decide_eq_true t1
          have HN := Lib.hid (isF_bad (a := x) (x := l[k]) (l := l.drop (k + 1)) (by first | (left; omega) | (right; left; omega) | (right; right; assumption)))
          have wk := WK.out
          have tk := TK.out
          go_wp2_with fail
          go_quiet (fail)
          clear wk tk
          go_wp2_with fail
          go_ret
          exact ⟨by rw [HV.out, HD.out, HN.out]; first | done | rfl, by (have hbl := Hbl.out; (repeat' (first | (with_reducible exact Below.refl _ _) | (with_reducible assumption) | (with_reducible refine Below.alloc ?_ ?_ _) | (with_reducible refine Below.setCell ?_ ?_ _) | (with_reducible refine Below.drew ?_) | (with_reducible refine below_drewN ?_ _) | (with_reducible refine below_via ?_ (by with_reducible assumption) ?_) | omega | (simp; done) | (simp; omega))))⟩
        have d1 := decide_eq_false t1
        cases t2 : (l[k].qty == 0)
        rotate_left
        · have HN := Lib.hid (isF_bad (a := x) (x := l[k]) (l := l.drop (k + 1)) (by first | (left; omega) | (right; left; omega) | (right; right; assumption)))
          have wk := WK.out
          have tk := TK.out
          go_wp2_with fail
          go_quiet (fail)
          clear wk tk
          go_wp2_with fail
          go_ret
          exact ⟨by rw [HV.out, HD.out, HN.out]; first | done | rfl, by (have hbl := Hbl.out; (repeat' (first | (with_reducible exact Below.refl _ _) | (with_reducible assumption) | (with_reducible refine Below.alloc ?_ ?_ _) | (with_reducible refine Below.setCell ?_ ?_ _) | (with_reducible refine Below.drew ?_) | (with_reducible refine below_drewN ?_ _) | (with_reducible refine below_via ?_ (by with_reducible assumption) ?_) | omega | (simp; done) | (simp; omega))))⟩
        have X1 : x < l[k].inst := by omega
        have HN := Lib.hid (isF_yes (a := x) (x := l[k]) (l := l.drop (k + 1)) ⟨by omega, by omega⟩ t2)
        have wk := WK.out
        have tk := TK.out
        go_wp2_with fail
        go_quiet (fail)
        clear wk tk
        go_wp2_with fail
        go_roundw
        case rel => exact ⟨k + 1, l[k].inst, by omega, by go_num, by rw [HV.out, HD.out, HN.out], by (have hbl := Hbl.out; (repeat' (first | (with_reducible exact Below.refl _ _) | (with_reducible assumption) | (with_reducible refine Below.alloc ?_ ?_ _) | (with_reducible refine Below.setCell ?_ ?_ _) | (with_reducible refine Below.drew ?_) | (with_reducible refine below_drewN ?_ _) | (with_reducible refine below_via ?_ (by with_reducible assumption) ?_) | omega | (simp; done) | (simp; omega)))), .inr ⟨by omega, by rw [Nat.add_sub_cancel, getD_at hlt], by omega⟩⟩
        case measure => simp [intOf]; omega
      · have g0 : decide (0 < k) = true := by simpa using k0
        have g1 : (0 : Int) ≤ (k : Int) - 1 := by omega
        have hk1 : k - 1 < l.length := by omega
        rw [getD_at hk1] at hx
        obtain ⟨b1, o1, q1, hb1, hq1⟩ := HR.out (k - 1) (encLeg l[k - 1]) (by simp [hk1])
        injection q1 with q1
        injection q1 with q1 q2 _
        subst q1 q2
        have f0 := (Hbl.out.cell (p := ⟨be, oe + (k - 1) * 2 + 0, none⟩) hbe).trans (hq1 0 _ rfl)
        simp only [Nat.add_zero] at f0
        rw [← hx] at f0
        have X0 := Lib.hid hx
        clear hq1 hx
        by_cases t0 : l[k].inst < 1
        · have d0 := decide_eq_true t0
          have HN := Lib.hid (isF_bad (a := x) (x := l[k]) (l := l.drop (k + 1)) (by first | (left; omega) | (right; left; omega) | (right; right; assumption)))
          have wk := WK.out
          have tk := TK.out
          go_wp2_with fail
          go_quiet (fail)
          clear wk tk
          go_wp2_with fail
          go_ret
          exact ⟨by rw [HV.out, HD.out, HN.out]; first | done | rfl, by (have hbl := Hbl.out; (repeat' (first | (with_reducible exact Below.refl _ _) | (with_reducible assumption) | (with_reducible refine Below.alloc ?_ ?_ _) | (with_reducible refine Below.setCell ?_ ?_ _) | (with_reducible refine Below.drew ?_) | (with_reducible refine below_drewN ?_ _) | (with_reducible refine below_via ?_ (by with_reducible assumption) ?_) | omega | (simp; done) | (simp; omega))))⟩
        have d0 := decide_eq_false t0
        by_cases t1 : 8 < l[k].inst
        · have d1 := decide_eq_true t1
          have HN := Lib.hid (isF_bad (a := x) (x := l[k]) (l := l.drop (k + 1)) (by first | (left; omega) | (right; left; omega) | (right; right; assumption)))
          have wk := WK.out
          have tk := TK.out
          go_wp2_with fail
          go_quiet (fail)
          clear wk tk
          go_wp2_with fail
          go_ret
          exact ⟨by rw [HV.out, HD.out, HN.out]; first | done | rfl, by (have hbl := Hbl.out; (repeat' (first | (with_reducible exact Below.refl _ _) | (with_reducible assumption) | (with_reducible refine Below.alloc ?_ ?_ _) | (with_reducible refine Below.setCell ?_ ?_ _) | (with_reducible refine Below.drew ?_) | (with_reducible refine below_drewN ?_ _) | (with_reducible refine below_via ?_ (by with_reducible assumption) ?_) | omega | (simp; done) | (simp; omega))))⟩
        have d1 := decide_eq_false t1
        cases t2 : (l[k].qty == 0)
        rotate_left
        · have HN := Lib.hid (isF_bad (a := x) (x := l[k]) (l := l.drop (k + 1)) (by first | (left; omega) | (right; left; omega) | (right; right; assumption)))
          have wk := WK.out
          have tk := TK.out
          go_wp2_with fail
          go_quiet (fail)
          clear wk tk
          go_wp2_with fail
          go_ret
          exact ⟨by rw [HV.out, HD.out, HN.out]; first | done | rfl, by (have hbl := Hbl.out; (repeat' (first | (with_reducible exact Below.refl _ _) | (with_reducible assumption) | (with_reducible refine Below.alloc ?_ ?_ _) | (with_reducible refine Below.setCell ?_ ?_ _) | (with_reducible refine Below.drew ?_) | (with_reducible refine below_drewN ?_ _) | (with_reducible refine below_via ?_ (by with_reducible assumption) ?_) | omega | (simp; done) | (simp; omega))))⟩
        by_cases t3 : l[k].inst ≤ x
        · have d3 := decide_eq_true t3
          have HN := Lib.hid (isF_bad (a := x) (x := l[k]) (l := l.drop (k + 1)) (by first | (left; omega) | (right; left; omega) | (right; right; assumption)))
          have wk := WK.out
          have tk := TK.out
          go_wp2_with fail
          go_quiet (fail)
          clear wk tk
          go_wp2_with fail
          go_ret
          exact ⟨by rw [HV.out, HD.out, HN.out]; first | done | rfl, by (have hbl := Hbl.out; (repeat' (first | (with_reducible exact Below.refl _ _) | (with_reducible assumption) | (with_reducible refine Below.alloc ?_ ?_ _) | (with_reducible refine Below.setCell ?_ ?_ _) | (with_reducible refine Below.drew ?_) | (with_reducible refine below_drewN ?_ _) | (with_reducible refine below_via ?_ (by with_reducible assumption) ?_) | omega | (simp; done) | (simp; omega))))⟩
        have d3 := decide_eq_false t3
        have HN := Lib.hid (isF_yes (a := x) (x := l[k]) (l := l.drop (k + 1)) ⟨by omega, by omega⟩ t2)
        have wk := WK.out
        have tk := TK.out
        go_wp2_with fail
        go_quiet (fail)
        clear wk tk
        go_wp2_with fail
        go_roundw
        case rel => exact ⟨k + 1, l[k].inst, by omega, by go_num, by rw [HV.out, HD.out, HN.out], by (have hbl := Hbl.out; (repeat' (first | (with_reducible exact Below.refl _ _) | (with_reducible assumption) | (with_reducible refine Below.alloc ?_ ?_ _) | (with_reducible refine Below.setCell ?_ ?_ _) | (with_reducible refine Below.drew ?_) | (with_reducible refine below_drewN ?_ _) | (with_reducible refine below_via ?_ (by with_reducible assumption) ?_) | omega | (simp; done) | (simp; omega)))), .inr ⟨by omega, by rw [Nat.add_sub_cancel, getD_at hlt], by omega⟩⟩
        case measure => simp [intOf]; omega
    · have HD := Lib.hid (drop_all (l := l) (k := k) (by omega))
      go_wp2_with fail
      go_ret
      exact ⟨by rw [HV.out, HD.out]; rfl, Hbl.out⟩
end Go.Proofs.Ytffmljkpbgohkaa
