/- Lots: contracts of the reference's one, less, Get, Sum, Same. -/
import Derived.Test.YtemhhojenocddaaLot5
import Derived.Test.YtemhhojenocddaaBigRet
import Derived.Test.YtemhhojenocddaaBig8
namespace Go.Proofs.Ytemhhojenocddaa
open Go.RowKit
set_option maxRecDepth 100000 in
set_option maxHeartbeats 2000000 in
theorem ref18one (x : Lot) (w : World) : Calls Try.prog 73 #[.agg #[.int .i64 x.asset, .int .i64 x.tag, .int .i64 x.qty]] w fun e w' => e = .returned (.bool (rightL x)) ∧ Below w.heap.size w w' := by
  by_cases t0 : 0 < x.asset
  rotate_left
  · have d0 := decide_eq_false t0
    have HN := Lib.hid (rightL_no (x := x) (by omega))
    go_enter Try.func73, Try.ntmps73
    go_wp2_with fail
    go_ret
    exact ⟨by rw [HN.out]; first | done | rfl, by (repeat' (first | (with_reducible exact Below.refl _ _) | (with_reducible assumption) | (with_reducible refine Below.alloc ?_ ?_ _) | (with_reducible refine Below.setCell ?_ ?_ _) | (with_reducible refine Below.drew ?_) | (with_reducible refine below_drewN ?_ _) | (with_reducible refine below_via ?_ (by with_reducible assumption) ?_) | omega | (simp; done) | (simp; omega)))⟩
  have d0 := decide_eq_true t0
  by_cases t1 : x.asset < 5
  rotate_left
  · have d1 := decide_eq_false t1
    have HN := Lib.hid (rightL_no (x := x) (by omega))
    go_enter Try.func73, Try.ntmps73
    go_wp2_with fail
    go_ret
    exact ⟨by rw [HN.out]; first | done | rfl, by (repeat' (first | (with_reducible exact Below.refl _ _) | (with_reducible assumption) | (with_reducible refine Below.alloc ?_ ?_ _) | (with_reducible refine Below.setCell ?_ ?_ _) | (with_reducible refine Below.drew ?_) | (with_reducible refine below_drewN ?_ _) | (with_reducible refine below_via ?_ (by with_reducible assumption) ?_) | omega | (simp; done) | (simp; omega)))⟩
  have d1 := decide_eq_true t1
  by_cases t2 : 0 ≤ x.tag
  rotate_left
  · have d2 := decide_eq_false t2
    have HN := Lib.hid (rightL_no (x := x) (by omega))
    go_enter Try.func73, Try.ntmps73
    go_wp2_with fail
    go_ret
    exact ⟨by rw [HN.out]; first | done | rfl, by (repeat' (first | (with_reducible exact Below.refl _ _) | (with_reducible assumption) | (with_reducible refine Below.alloc ?_ ?_ _) | (with_reducible refine Below.setCell ?_ ?_ _) | (with_reducible refine Below.drew ?_) | (with_reducible refine below_drewN ?_ _) | (with_reducible refine below_via ?_ (by with_reducible assumption) ?_) | omega | (simp; done) | (simp; omega)))⟩
  have d2 := decide_eq_true t2
  by_cases t3 : x.tag < 256
  rotate_left
  · have d3 := decide_eq_false t3
    have HN := Lib.hid (rightL_no (x := x) (by omega))
    go_enter Try.func73, Try.ntmps73
    go_wp2_with fail
    go_ret
    exact ⟨by rw [HN.out]; first | done | rfl, by (repeat' (first | (with_reducible exact Below.refl _ _) | (with_reducible assumption) | (with_reducible refine Below.alloc ?_ ?_ _) | (with_reducible refine Below.setCell ?_ ?_ _) | (with_reducible refine Below.drew ?_) | (with_reducible refine below_drewN ?_ _) | (with_reducible refine below_via ?_ (by with_reducible assumption) ?_) | omega | (simp; done) | (simp; omega)))⟩
  have d3 := decide_eq_true t3
  by_cases t4 : 0 < x.qty
  rotate_left
  · have d4 := decide_eq_false t4
    have HN := Lib.hid (rightL_no (x := x) (by omega))
    go_enter Try.func73, Try.ntmps73
    go_wp2_with fail
    go_ret
    exact ⟨by rw [HN.out]; first | done | rfl, by (repeat' (first | (with_reducible exact Below.refl _ _) | (with_reducible assumption) | (with_reducible refine Below.alloc ?_ ?_ _) | (with_reducible refine Below.setCell ?_ ?_ _) | (with_reducible refine Below.drew ?_) | (with_reducible refine below_drewN ?_ _) | (with_reducible refine below_via ?_ (by with_reducible assumption) ?_) | omega | (simp; done) | (simp; omega)))⟩
  have d4 := decide_eq_true t4
  have HN := Lib.hid (rightL_iff (x := x).2 ⟨by omega, by omega, by omega, by omega, by omega⟩)
  go_enter Try.func73, Try.ntmps73
  go_wp2_with fail
  go_ret
  exact ⟨by rw [HN.out]; first | done | rfl, by (repeat' (first | (with_reducible exact Below.refl _ _) | (with_reducible assumption) | (with_reducible refine Below.alloc ?_ ?_ _) | (with_reducible refine Below.setCell ?_ ?_ _) | (with_reducible refine Below.drew ?_) | (with_reducible refine below_drewN ?_ _) | (with_reducible refine below_via ?_ (by with_reducible assumption) ?_) | omega | (simp; done) | (simp; omega)))⟩
set_option maxRecDepth 100000 in
set_option maxHeartbeats 2000000 in
theorem ref18less (a b : Lot) (w : World) : Calls Try.prog 74 #[.agg #[.int .i64 a.asset, .int .i64 a.tag, .int .i64 a.qty], .agg #[.int .i64 b.asset, .int .i64 b.tag, .int .i64 b.qty]] w fun e w' => e = .returned (.bool (ltL a b)) ∧ Below w.heap.size w w' := by
  by_cases h1 : a.asset < b.asset
  · have d1 := decide_eq_true h1
    have HE := Lib.hid (ltL_iff (a := a) (b := b).2 (.inl h1))
    go_enter Try.func74, Try.ntmps74
    go_wp2_with fail
    go_ret
    exact ⟨by rw [HE.out]; rfl, by (repeat' (first | (with_reducible exact Below.refl _ _) | (with_reducible assumption) | (with_reducible refine Below.alloc ?_ ?_ _) | (with_reducible refine Below.setCell ?_ ?_ _) | (with_reducible refine Below.drew ?_) | (with_reducible refine below_drewN ?_ _) | (with_reducible refine below_via ?_ (by with_reducible assumption) ?_) | omega | (simp; done) | (simp; omega)))⟩
  · have d1 := decide_eq_false h1
    cases he : (a.asset == b.asset)
    · have hne : ¬ a.asset = b.asset := by simpa using he
      have HE := Lib.hid (ltL_no (a := a) (b := b) (by omega))
      go_enter Try.func74, Try.ntmps74
      go_wp2_with fail
      go_ret
      exact ⟨by rw [HE.out]; rfl, by (repeat' (first | (with_reducible exact Below.refl _ _) | (with_reducible assumption) | (with_reducible refine Below.alloc ?_ ?_ _) | (with_reducible refine Below.setCell ?_ ?_ _) | (with_reducible refine Below.drew ?_) | (with_reducible refine below_drewN ?_ _) | (with_reducible refine below_via ?_ (by with_reducible assumption) ?_) | omega | (simp; done) | (simp; omega)))⟩
    · have heq : a.asset = b.asset := by simpa using he
      by_cases h2 : a.tag < b.tag
      · have d2 := decide_eq_true h2
        have HE := Lib.hid (ltL_iff (a := a) (b := b).2 (.inr ⟨heq, h2⟩))
        clear heq
        go_enter Try.func74, Try.ntmps74
        go_wp2_with fail
        go_ret
        exact ⟨by rw [HE.out]; rfl, by (repeat' (first | (with_reducible exact Below.refl _ _) | (with_reducible assumption) | (with_reducible refine Below.alloc ?_ ?_ _) | (with_reducible refine Below.setCell ?_ ?_ _) | (with_reducible refine Below.drew ?_) | (with_reducible refine below_drewN ?_ _) | (with_reducible refine below_via ?_ (by with_reducible assumption) ?_) | omega | (simp; done) | (simp; omega)))⟩
      · have d2 := decide_eq_false h2
        have HE := Lib.hid (ltL_no (a := a) (b := b) (by omega))
        clear heq
        go_enter Try.func74, Try.ntmps74
        go_wp2_with fail
        go_ret
        exact ⟨by rw [HE.out]; rfl, by (repeat' (first | (with_reducible exact Below.refl _ _) | (with_reducible assumption) | (with_reducible refine Below.alloc ?_ ?_ _) | (with_reducible refine Below.setCell ?_ ?_ _) | (with_reducible refine Below.drew ?_) | (with_reducible refine below_drewN ?_ _) | (with_reducible refine below_via ?_ (by with_reducible assumption) ?_) | omega | (simp; done) | (simp; omega)))⟩
set_option maxRecDepth 100000 in
set_option maxHeartbeats 1000000 in
theorem ref18Same (l : List Lot) (A B : Option Addr) (c d : Nat) (w : World) (hl : l.length ≤ 1099511627776) (ha : Rd w A 3 (l.map encLot)) (hb : Rd w B 3 (l.map encLot)) :
    Calls Try.prog 50 #[.slice A l.length c, .slice B l.length d] w fun e w' => e = .returned (.bool true) ∧ Below w.heap.size w w' := by
  have HA := Lib.hid ha
  have HB := Lib.hid hb
  clear ha hb
  go_enter Try.func50, Try.ntmps50
  go_wp2_with fail
  go_loopw [5] (fun i wr => ∃ k : Nat, k ≤ l.length ∧ i = .int .i64 k ∧ ∃ n, wr = w.drewN n) (fun i _ => l.length - (intOf i).toNat)
  case atStart => exact ⟨0, Nat.zero_le _, rfl, 0, rfl⟩
  case round =>
    obtain ⟨k, hk, rfl, nn, rfl⟩ := hrel
    by_cases hlt : k < l.length
    · have kl : (k : Int) < (l.length : Int) := by omega
      obtain ⟨b1, o1, rfl, hb1, hc1⟩ := HA.out k (encLot l[k]) (by simp [hlt])
      obtain ⟨b2, o2, rfl, hb2, hc2⟩ := HB.out k (encLot l[k]) (by simp [hlt])
      have e0 := hc1 0 _ rfl
      have e1 := hc1 1 _ rfl
      have e2 := hc1 2 _ rfl
      have f0 := hc2 0 _ rfl
      have f1 := hc2 1 _ rfl
      have f2 := hc2 2 _ rfl
      simp only [Nat.add_zero] at e0 f0
      clear hc1 hc2
      go_wp2_with fail
      go_quiet (fail)
      go_wp2_with fail
      go_roundw
      case rel => exact ⟨k + 1, by omega, by go_num, _, rfl⟩
      case measure => simp [intOf]; omega
    · go_wp2_with fail
      go_ret
      exact ⟨rfl, by (repeat' (first | (with_reducible exact Below.refl _ _) | (with_reducible assumption) | (with_reducible refine Below.alloc ?_ ?_ _) | (with_reducible refine Below.setCell ?_ ?_ _) | (with_reducible refine Below.drew ?_) | (with_reducible refine below_drewN ?_ _) | (with_reducible refine below_via ?_ (by with_reducible assumption) ?_) | omega | (simp; done) | (simp; omega)))⟩
set_option maxRecDepth 100000 in
set_option maxHeartbeats 8000000 in
theorem ref18Get (l : List Lot) (a t : Int) (A : Option Addr) (c : Nat) (w : World) (hl : l.length ≤ 1000000) (hr : Rd w A 3 (l.map encLot)) :
    Calls Try.prog 42 #[.slice A l.length c, .int .i64 a, .int .i64 t] w fun e w' => e = .returned (.int .i64 (getL l a t)) ∧ Below w.heap.size w w' := by
  have HR := Lib.hid hr
  clear hr
  go_enter Try.func42, Try.ntmps42
  go_wp2_with fail
  go_loopw [7] (fun i wr => ∃ k : Nat, k ≤ l.length ∧ i = .int .i64 k ∧ Below w.heap.size w wr ∧ ∀ j (_ : j < l.length), j < k → (l[j].asset == a && l[j].tag == t) = false) (fun i _ => l.length - (intOf i).toNat)
  case atStart => exact ⟨0, Nat.zero_le _, rfl, Below.refl _ _, fun j _ h => absurd h (by omega)⟩
  case round =>
    obtain ⟨k, hk, rfl, hbl, hno⟩ := hrel
    have Hbl := Lib.hid hbl
    have Hno := Lib.hid hno
    have hz := hbl.size
    clear hbl hno
    by_cases hlt : k < l.length
    · have kl : (k : Int) < (l.length : Int) := by omega
      have dl : decide ((k : Int) < (l.length : Int)) = true := by simpa using hlt
      obtain ⟨b, o, rfl, hb, hc⟩ := HR.out k (encLot l[k]) (by simp [hlt])
      have e0 := (Hbl.out.cell (p := ⟨b, o + k * 3 + 0, none⟩) hb).trans (hc 0 _ rfl)
      have e1 := (Hbl.out.cell (p := ⟨b, o + k * 3 + 1, none⟩) hb).trans (hc 1 _ rfl)
      have e2 := (Hbl.out.cell (p := ⟨b, o + k * 3 + 2, none⟩) hb).trans (hc 2 _ rfl)
      simp only [Nat.add_zero] at e0
      clear hc
      have hbw : b < wr.heap.size := by omega
      cases h1 : (l[k].asset == a)
      · have Hm := Lib.hid (show (l[k].asset == a && l[k].tag == t) = false from by rw [h1]; rfl)
        go_wp2_with fail
        go_roundw
        case rel => exact ⟨k + 1, by omega, by go_num, by have hbl := Hbl.out; (repeat' (first | (with_reducible exact Below.refl _ _) | (with_reducible assumption) | (with_reducible refine Below.alloc ?_ ?_ _) | (with_reducible refine Below.setCell ?_ ?_ _) | (with_reducible refine Below.drew ?_) | (with_reducible refine below_drewN ?_ _) | (with_reducible refine below_via ?_ (by with_reducible assumption) ?_) | omega | (simp; done) | (simp; omega))), fun j hj h => by
          rcases Nat.lt_or_ge j k with h1 | h1
          · exact Hno.out j hj h1
          · obtain rfl : j = k := by omega
            exact Hm.out⟩
        case measure => simp [intOf]; omega
      · cases h2 : (l[k].tag == t)
        · have Hm := Lib.hid (show (l[k].asset == a && l[k].tag == t) = false from by rw [h1, h2]; rfl)
          go_wp2_with fail
          go_roundw
          case rel => exact ⟨k + 1, by omega, by go_num, by have hbl := Hbl.out; (repeat' (first | (with_reducible exact Below.refl _ _) | (with_reducible assumption) | (with_reducible refine Below.alloc ?_ ?_ _) | (with_reducible refine Below.setCell ?_ ?_ _) | (with_reducible refine Below.drew ?_) | (with_reducible refine below_drewN ?_ _) | (with_reducible refine below_via ?_ (by with_reducible assumption) ?_) | omega | (simp; done) | (simp; omega))), fun j hj h => by
            rcases Nat.lt_or_ge j k with h1 | h1
            · exact Hno.out j hj h1
            · obtain rfl : j = k := by omega
              exact Hm.out⟩
          case measure => simp [intOf]; omega
        · have HE := Lib.hid (getL_hit hlt (by rw [h1, h2]; rfl) Hno.out)
          go_wp2_with fail
          go_ret
          exact ⟨by rw [HE.out]; rfl, by have hbl := Hbl.out; (repeat' (first | (with_reducible exact Below.refl _ _) | (with_reducible assumption) | (with_reducible refine Below.alloc ?_ ?_ _) | (with_reducible refine Below.setCell ?_ ?_ _) | (with_reducible refine Below.drew ?_) | (with_reducible refine below_drewN ?_ _) | (with_reducible refine below_via ?_ (by with_reducible assumption) ?_) | omega | (simp; done) | (simp; omega)))⟩
    · have dl : decide ((k : Int) < (l.length : Int)) = false := by simpa using hlt
      have HE := Lib.hid (getL_miss (l := l) (a := a) (t := t) (fun j hj => Hno.out j hj (by omega)))
      go_wp2_with fail
      go_ret
      exact ⟨by rw [HE.out]; rfl, Hbl.out⟩
end Go.Proofs.Ytemhhojenocddaa
