/- Contracts of the functions of wide that call nothing but bits.Add64, bits.Sub64, bits.Mul64. -/
import Derived.Test.YtenehpcliajdnaaNum
import Derived.Test.YtenehpcliajdnaaRows
import Derived.Test.YtenehpcliajdnaaBits
import Derived.Shelf.Spec.BitsCarry
import Derived.WalkKit
import Derived.WalkSpells
import Derived.WalkLawsBesides
import Derived.BigQuiet
import Derived.Deep.RegionHeld3
import Derived.Handy
namespace Go.Proofs.Ytenehpcliajdnaa
open Go.RowKit

theorem add64 (x y c : Int) (hx : 0 ≤ x) (hy : 0 ≤ y) (hc0 : 0 ≤ c) (hc : c ≤ 1) (w : World) : (callFunc 74 #[.int .u64 x, .int .u64 y, .int .u64 c]).run Try.prog w =
    .ok (.value (.tuple #[.int .u64 (wlo (x + y + c)), .int .u64 (whi (x + y + c))])) w := by
  obtain ⟨x, rfl⟩ := Int.eq_ofNat_of_zero_le hx
  obtain ⟨y, rfl⟩ := Int.eq_ofNat_of_zero_le hy
  obtain ⟨c, rfl⟩ := Int.eq_ofNat_of_zero_le hc0
  rw [run_callFunc_extern Try.func74 (by kernel_rfl) (by kernel_rfl) (by kernel_rfl) (e := add64Entry) (by kernel_rfl), run_add64 x y c (by omega) (by omega) (by omega) (by omega)]
  simp only [Result.andThen, wlo, whi]
theorem sub64 (x y b : Int) (hx : 0 ≤ x) (hx' : x ≤ 18446744073709551615) (hy : 0 ≤ y) (hy' : y ≤ 18446744073709551615) (hb0 : 0 ≤ b) (hb : b ≤ 1) (w : World) : (callFunc 93 #[.int .u64 x, .int .u64 y, .int .u64 b]).run Try.prog w =
    .ok (.value (.tuple #[.int .u64 (wlo (x - y - b)), .int .u64 (- whi (x - y - b))])) w := by
  obtain ⟨x, rfl⟩ := Int.eq_ofNat_of_zero_le hx
  obtain ⟨y, rfl⟩ := Int.eq_ofNat_of_zero_le hy
  obtain ⟨b, rfl⟩ := Int.eq_ofNat_of_zero_le hb0
  rw [run_callFunc_extern Try.func93 (by kernel_rfl) (by kernel_rfl) (by kernel_rfl) (e := sub64Entry) (by kernel_rfl), run_sub64 x y b (by omega)]
  simp only [Result.andThen, wlo, whi]
  have e1 : (((x + 18446744073709551616 - y - b) % 18446744073709551616 : Nat) : Int) = ((x : Int) - y - b) % 18446744073709551616 := by omega
  have e2 : ((if x < y + b then 1 else 0 : Nat) : Int) = - (((x : Int) - y - b) / 18446744073709551616) := by split <;> omega
  rw [e1, e2]
theorem sub64_0 (x y : Int) (hx : 0 ≤ x) (hx' : x ≤ 18446744073709551615) (hy : 0 ≤ y) (hy' : y ≤ 18446744073709551615) (w : World) : (callFunc 93 #[.int .u64 x, .int .u64 y, .int .u64 0]).run Try.prog w =
    .ok (.value (.tuple #[.int .u64 (wlo (x - y)), .int .u64 (- whi (x - y))])) w := by
  simpa using sub64 x y 0 hx hx' hy hy' (Int.le_refl 0) (by decide) w

set_option maxHeartbeats 400000 in
theorem wideOf (n : Int) (w : World) (h : In64 n) :
    Calls Try.prog 76 #[.int .i64 n] w fun e w' => e = .returned (.agg #[.int .i64 (whi n), .int .u64 (wlo n)]) ∧ Below w.heap.size w w' := by
  unfold In64 at h
  go_enter Try.func76, Try.ntmps76
  go_wp2
  go_returns
  exact ⟨ret_agg2 (by unfold whi; omega) (by rw [IntKind.wrap_u64]; rfl), (Below.refl _ _).alloc (Nat.le_refl _) _⟩

set_option maxHeartbeats 400000 in
theorem wideBelow (n : Int) (w : World) (h : In128 n) :
    Calls Try.prog 73 #[.agg #[.int .i64 (whi n), .int .u64 (wlo n)]] w fun e w' => e = .returned (.bool (decide (n < 0))) ∧ Below w.heap.size w w' := by
  have h1 := whi_i h
  go_enter Try.func73, Try.ntmps73
  go_wp2
  go_returns
  exact ⟨ret_bool (by unfold whi; omega), (Below.refl _ _).alloc (Nat.le_refl _) _⟩

set_option maxHeartbeats 400000 in
theorem wideSize (n : Int) (w : World) (h : In128 n) :
    Calls Try.prog 71 #[(.agg #[.int .i64 (whi (n)), .int .u64 (wlo (n))])] w fun e w' => e = .returned (.agg #[.int .u64 (whi (iabs n)), .int .u64 (wlo (iabs n))]) ∧ Below w.heap.size w w' := by
  have h1 := whi_i h
  have h2 := wlo_u n
  by_cases hn : n < 0
  · have hd : decide (n < 0) = true := by simpa using hn
    have e1 := sub64_0 0 (wlo n) (by omega) (by omega) h2.1 h2.2
    have h3 : 0 ≤ - whi (- wlo n) ∧ - whi (- wlo n) ≤ 1 := by unfold whi; omega
    have h4 : 0 ≤ IntKind.u64.wrap (whi n) ∧ IntKind.u64.wrap (whi n) ≤ 18446744073709551615 := by rw [IntKind.wrap_u64]; omega
    have e2 := sub64 0 (IntKind.u64.wrap (whi n)) (- whi (- wlo n)) (by omega) (by omega) h4.1 h4.2 h3.1 h3.2
    have e3 : wlo (- wlo n) = wlo (iabs n) := by rw [iabs_neg hn]; unfold wlo; omega
    have e4 : wlo (- IntKind.u64.wrap (whi n) - - whi (- wlo n)) = whi (iabs n) := by rw [iabs_neg hn]; unfold In128 at h; rw [IntKind.wrap_u64]; unfold wlo whi; omega
    simp only [Int.zero_sub] at e1 e2
    rw [e3] at e1
    rw [e4] at e2
    clear e3 e4
    obtain ⟨b, hb⟩ : ∃ b, b = - whi (- wlo n) := ⟨_, rfl⟩
    rw [← hb] at e1 e2 h3
    clear hb
    go_enter Try.func71, Try.ntmps71
    go_wp2_with (go_at_call 73; (with_reducible refine (hd ▸ wideBelow n _ h).mono ?_); rintro e w1 ⟨rfl, hb1⟩; obtain ⟨fc1, fg1, hc1, hf1, hz1⟩ := bget hb1; try simp at hz1)
    refine bodyPost_ret (by simp [results, Try.results71, go_sem, hc1]; try rfl) rfl ⟨rfl, ?_⟩
    (repeat' (first | (with_reducible exact Below.refl _ _) | (with_reducible assumption) | (with_reducible refine Below.alloc ?_ ?_ _) | (with_reducible refine Below.setCell ?_ ?_ _) | (with_reducible refine Below.drew ?_) | (with_reducible refine below_drewN ?_ _) | (with_reducible refine below_via ?_ (by with_reducible assumption) ?_) | omega | (simp; done) | (simp; omega)))
  · have hd : decide (n < 0) = false := by simpa using hn
    have e5 : 0 ≤ whi n := by unfold whi; omega
    rw [iabs_pos (by omega)]
    go_enter Try.func71, Try.ntmps71
    go_wp2_with (go_at_call 73; (with_reducible refine (hd ▸ wideBelow n _ h).mono ?_); rintro e w1 ⟨rfl, hb1⟩; obtain ⟨fc1, fg1, hc1, hf1, hz1⟩ := bget hb1; try simp at hz1)
    refine bodyPost_ret (by simp [results, Try.results71, go_sem, hc1]; try rfl) rfl ⟨rfl, ?_⟩
    (repeat' (first | (with_reducible exact Below.refl _ _) | (with_reducible assumption) | (with_reducible refine Below.alloc ?_ ?_ _) | (with_reducible refine Below.setCell ?_ ?_ _) | (with_reducible refine Below.drew ?_) | (with_reducible refine below_drewN ?_ _) | (with_reducible refine below_via ?_ (by with_reducible assumption) ?_) | omega | (simp; done) | (simp; omega)))

set_option maxHeartbeats 400000 in
theorem wideSignedPos (m : Int) (w : World) (h0 : 0 ≤ m) (h : m < 340282366920938463463374607431768211456) :
    Calls Try.prog 75 #[(.agg #[.int .u64 (whi (m)), .int .u64 (wlo (m))]), .bool false] w fun e w' => e = .returned (.tuple #[(.agg #[.int .i64 (whi (wrap128 m)), .int .u64 (wlo (wrap128 m))]), .bool (decide (m < 170141183460469231731687303715884105728))]) ∧ Below w.heap.size w w' := by
  have h1 : 0 ≤ whi m ∧ whi m ≤ 18446744073709551615 := by unfold whi; omega
  have h2 := wlo_u m
  have e1 : IntKind.i64.wrap (whi m) = whi (wrap128 m) := by rw [IntKind.wrap_i64]; unfold whi wrap128; omega
  have e2 : wlo m = wlo (wrap128 m) := by unfold wlo wrap128; omega
  go_enter Try.func75, Try.ntmps75
  go_wp2
  go_region
  all_goals
    go_wp2
    refine bodyPost_ret (by simp [results, Try.results75, go_sem, ]; try rfl) rfl ⟨ret_tup2 rfl (bool_eq (by unfold whi; omega)), ?_⟩
    (repeat' (first | (with_reducible exact Below.refl _ _) | (with_reducible assumption) | (with_reducible refine Below.alloc ?_ ?_ _) | (with_reducible refine Below.setCell ?_ ?_ _) | (with_reducible refine Below.drew ?_) | (with_reducible refine below_drewN ?_ _) | (with_reducible refine below_via ?_ (by with_reducible assumption) ?_) | omega | (simp; done) | (simp; omega)))

set_option maxHeartbeats 1000000 in
theorem wideSignedNeg (m : Int) (w : World) (h0 : 0 ≤ m) (h : m < 340282366920938463463374607431768211456) :
    Calls Try.prog 75 #[(.agg #[.int .u64 (whi (m)), .int .u64 (wlo (m))]), .bool true] w fun e w' => e = .returned (.tuple #[(.agg #[.int .i64 (whi (wrap128 (- m))), .int .u64 (wlo (wrap128 (- m)))]), .bool (decide (m ≤ 170141183460469231731687303715884105728))]) ∧ Below w.heap.size w w' := by
  have h1 : 0 ≤ whi m ∧ whi m ≤ 18446744073709551615 := by unfold whi; omega
  have h2 := wlo_u m
  have e1 := sub64_0 0 (wlo m) (by omega) (by omega) h2.1 h2.2
  have h3 : 0 ≤ - whi (- wlo m) ∧ - whi (- wlo m) ≤ 1 := by unfold whi; omega
  have e2 := sub64 0 (whi m) (- whi (- wlo m)) (by omega) (by omega) h1.1 h1.2 h3.1 h3.2
  have e3 : wlo (- wlo m) = wlo (wrap128 (- m)) := by unfold wlo wrap128; omega
  have e4 : IntKind.i64.wrap (wlo (- whi m - - whi (- wlo m))) = whi (wrap128 (- m)) := by rw [IntKind.wrap_i64]; unfold wlo whi wrap128; omega
  simp only [Int.zero_sub] at e1 e2
  rw [e3] at e1
  obtain ⟨b, hb⟩ : ∃ b, b = - whi (- wlo m) := ⟨_, rfl⟩
  rw [← hb] at e1 e2 e4 h3
  obtain ⟨c, hc⟩ : ∃ c, c = wlo (- whi m - b) := ⟨_, rfl⟩
  have h5 := wlo_u (- whi m - b)
  rw [← hc] at e2 e4 h5
  clear hb e3 hc
  have hfin : m ≤ 170141183460469231731687303715884105728 ↔ whi m < 9223372036854775808 ∨ (whi m = 9223372036854775808 ∧ wlo m = 0) := by unfold whi wlo; omega
  rw [show decide (m ≤ 170141183460469231731687303715884105728) = decide (whi m < 9223372036854775808 ∨ (whi m = 9223372036854775808 ∧ wlo m = 0)) from by simp only [hfin]]
  clear hfin h0 h
  by_cases c1 : whi m < 9223372036854775808
  · have d1 : decide (whi m < 9223372036854775808) = true := by simpa using c1
    go_enter Try.func75, Try.ntmps75
    go_wp2
    go_region
    all_goals
      go_wp2
      refine bodyPost_ret (by simp [results, Try.results75, go_sem, ]; try rfl) rfl ⟨ret_tup2 rfl (by simp [c1]), ?_⟩
      (repeat' (first | (with_reducible exact Below.refl _ _) | (with_reducible assumption) | (with_reducible refine Below.alloc ?_ ?_ _) | (with_reducible refine Below.setCell ?_ ?_ _) | (with_reducible refine Below.drew ?_) | (with_reducible refine below_drewN ?_ _) | (with_reducible refine below_via ?_ (by with_reducible assumption) ?_) | omega | (simp; done) | (simp; omega)))
  · have d1 : decide (whi m < 9223372036854775808) = false := by simpa using c1
    by_cases c2 : whi m = 9223372036854775808
    · have d2 : (whi m == 9223372036854775808) = true := by simpa using c2
      by_cases c3 : wlo m = 0
      · have d3 : (wlo m == 0) = true := by simpa using c3
        have C2 : Hid (whi m = 9223372036854775808) := c2
        have C3 : Hid (wlo m = 0) := c3
        clear c2 c3
        go_enter Try.func75, Try.ntmps75
        go_wp2
        go_region
        all_goals
          go_wp2
          refine bodyPost_ret (by simp [results, Try.results75, go_sem, ]; try rfl) rfl ⟨ret_tup2 rfl (by simp [C2.out, C3.out]), ?_⟩
          (repeat' (first | (with_reducible exact Below.refl _ _) | (with_reducible assumption) | (with_reducible refine Below.alloc ?_ ?_ _) | (with_reducible refine Below.setCell ?_ ?_ _) | (with_reducible refine Below.drew ?_) | (with_reducible refine below_drewN ?_ _) | (with_reducible refine below_via ?_ (by with_reducible assumption) ?_) | omega | (simp; done) | (simp; omega)))
      · have d3 : (wlo m == 0) = false := by simpa using c3
        have C2 : Hid (whi m = 9223372036854775808) := c2
        clear c2
        go_enter Try.func75, Try.ntmps75
        go_wp2
        go_region
        all_goals
          go_wp2
          refine bodyPost_ret (by simp [results, Try.results75, go_sem, ]; try rfl) rfl ⟨ret_tup2 rfl (by simp [C2.out, c3]), ?_⟩
          (repeat' (first | (with_reducible exact Below.refl _ _) | (with_reducible assumption) | (with_reducible refine Below.alloc ?_ ?_ _) | (with_reducible refine Below.setCell ?_ ?_ _) | (with_reducible refine Below.drew ?_) | (with_reducible refine below_drewN ?_ _) | (with_reducible refine below_via ?_ (by with_reducible assumption) ?_) | omega | (simp; done) | (simp; omega)))
    · have d2 : (whi m == 9223372036854775808) = false := by simpa using c2
      go_enter Try.func75, Try.ntmps75
      go_wp2
      go_region
      all_goals
        go_wp2
        refine bodyPost_ret (by simp [results, Try.results75, go_sem, ]; try rfl) rfl ⟨ret_tup2 rfl (by simp [c2]; omega), ?_⟩
        (repeat' (first | (with_reducible exact Below.refl _ _) | (with_reducible assumption) | (with_reducible refine Below.alloc ?_ ?_ _) | (with_reducible refine Below.setCell ?_ ?_ _) | (with_reducible refine Below.drew ?_) | (with_reducible refine below_drewN ?_ _) | (with_reducible refine below_via ?_ (by with_reducible assumption) ?_) | omega | (simp; done) | (simp; omega)))

theorem wideSigned (s : Bool) (m : Int) (w : World) (h0 : 0 ≤ m) (h : m < 340282366920938463463374607431768211456) :
    Calls Try.prog 75 #[(.agg #[.int .u64 (whi (m)), .int .u64 (wlo (m))]), .bool s] w fun e w' => e = .returned (.tuple #[(.agg #[.int .i64 (whi (wrap128 (sgn s m))), .int .u64 (wlo (wrap128 (sgn s m)))]), .bool (in128 (sgn s m))]) ∧ Below w.heap.size w w' := by
  cases s
  · refine (wideSignedPos m w h0 h).mono ?_
    rintro e w' ⟨rfl, hb⟩
    exact ⟨ret_tup2 rfl (bool_eq (by simp [sgn]; omega)), hb⟩
  · refine (wideSignedNeg m w h0 h).mono ?_
    rintro e w' ⟨rfl, hb⟩
    exact ⟨ret_tup2 rfl (bool_eq (by simp [sgn]; omega)), hb⟩
theorem mul64 (x y : Int) (w : World) (hx : 0 ≤ x) (hx' : x ≤ 18446744073709551615) (hy : 0 ≤ y) (hy' : y ≤ 18446744073709551615) :
    Calls Try.prog 90 #[.int .u64 x, .int .u64 y] w fun e w' => e = .returned (.tuple #[.int .u64 (whi (x * y)), .int .u64 (wlo (x * y))]) ∧ w = w' := by
  obtain ⟨x, rfl⟩ := Int.eq_ofNat_of_zero_le hx
  obtain ⟨y, rfl⟩ := Int.eq_ofNat_of_zero_le hy
  refine (Try.bits_Mul64 x y (by omega) (by omega) w).mono ?_
  rintro e w' ⟨rfl, rfl⟩
  refine ⟨ret_tup2 ?_ ?_, rfl⟩ <;> simp [whi, wlo]

set_option maxHeartbeats 400000 in
theorem wideRangedYes (n : Int) (w : World) :
    Calls Try.prog 108 #[(.agg #[.int .i64 (whi (n)), .int .u64 (wlo (n))]), .bool true] w fun e w' => e = .returned (.tuple #[(.agg #[.int .i64 (whi (n)), .int .u64 (wlo (n))]), .int .i64 0]) ∧ Below w.heap.size w w' := by
  go_enter Try.func108, Try.ntmps108
  go_wp2
  refine bodyPost_ret (by simp [results, Try.results108, go_sem, ]; try rfl) rfl ⟨rfl, ?_⟩
  (repeat' (first | (with_reducible exact Below.refl _ _) | (with_reducible assumption) | (with_reducible refine Below.alloc ?_ ?_ _) | (with_reducible refine Below.setCell ?_ ?_ _) | (with_reducible refine Below.drew ?_) | (with_reducible refine below_drewN ?_ _) | (with_reducible refine below_via ?_ (by with_reducible assumption) ?_) | omega | (simp; done) | (simp; omega)))
set_option maxHeartbeats 400000 in
theorem wideRangedNo (a b : Int) (w : World) :
    Calls Try.prog 108 #[.agg #[.int .i64 a, .int .u64 b], .bool false] w fun e w' => e = .returned (.tuple #[.agg #[.int .i64 0, .int .u64 0], .int .i64 7]) ∧ Below w.heap.size w w' := by
  go_enter Try.func108, Try.ntmps108
  go_wp2
  refine bodyPost_ret (by simp [results, Try.results108, go_sem, ]; try rfl) rfl ⟨rfl, ?_⟩
  (repeat' (first | (with_reducible exact Below.refl _ _) | (with_reducible assumption) | (with_reducible refine Below.alloc ?_ ?_ _) | (with_reducible refine Below.setCell ?_ ?_ _) | (with_reducible refine Below.drew ?_) | (with_reducible refine below_drewN ?_ _) | (with_reducible refine below_via ?_ (by with_reducible assumption) ?_) | omega | (simp; done) | (simp; omega)))

end Go.Proofs.Ytenehpcliajdnaa
