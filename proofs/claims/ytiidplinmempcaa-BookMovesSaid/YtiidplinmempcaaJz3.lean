/- Joined: Wide1, Wide2, Wide4, Wide5, Fix1. -/
import Derived.Test.YtiidplinmempcaaJz1
import Derived.Test.YtiidplinmempcaaJz2
import Derived.Test.YtiidplinmempcaaRows
import Derived.Shelf.Spec.BitsCarry
import Derived.WalkKit
import Derived.WalkSpells
import Derived.WalkLawsBesides
import Derived.BigQuiet
import Derived.Deep.RegionHeld3
import Derived.Handy
/- Contracts of the functions of wide that call nothing but bits.Add64, bits.Sub64, bits.Mul64. -/
namespace Go.Proofs.Ytiidplinmempcaa
open Go.RowKit

theorem add64 (x y c : Int) (hx : 0 ≤ x) (hy : 0 ≤ y) (hc0 : 0 ≤ c) (hc : c ≤ 1) (w : World) : (callFunc 162 #[.int .u64 x, .int .u64 y, .int .u64 c]).run Try.prog w =
    .ok (.value (.tuple #[.int .u64 (wlo (x + y + c)), .int .u64 (whi (x + y + c))])) w := by
  obtain ⟨x, rfl⟩ := Int.eq_ofNat_of_zero_le hx
  obtain ⟨y, rfl⟩ := Int.eq_ofNat_of_zero_le hy
  obtain ⟨c, rfl⟩ := Int.eq_ofNat_of_zero_le hc0
  rw [run_callFunc_extern Try.func162 (by kernel_rfl) (by kernel_rfl) (by kernel_rfl) (e := add64Entry) (by kernel_rfl), run_add64 x y c (by omega) (by omega) (by omega) (by omega)]
  simp only [Result.andThen, wlo, whi]
theorem sub64 (x y b : Int) (hx : 0 ≤ x) (hx' : x ≤ 18446744073709551615) (hy : 0 ≤ y) (hy' : y ≤ 18446744073709551615) (hb0 : 0 ≤ b) (hb : b ≤ 1) (w : World) : (callFunc 163 #[.int .u64 x, .int .u64 y, .int .u64 b]).run Try.prog w =
    .ok (.value (.tuple #[.int .u64 (wlo (x - y - b)), .int .u64 (- whi (x - y - b))])) w := by
  obtain ⟨x, rfl⟩ := Int.eq_ofNat_of_zero_le hx
  obtain ⟨y, rfl⟩ := Int.eq_ofNat_of_zero_le hy
  obtain ⟨b, rfl⟩ := Int.eq_ofNat_of_zero_le hb0
  rw [run_callFunc_extern Try.func163 (by kernel_rfl) (by kernel_rfl) (by kernel_rfl) (e := sub64Entry) (by kernel_rfl), run_sub64 x y b (by omega)]
  simp only [Result.andThen, wlo, whi]
  have e1 : (((x + 18446744073709551616 - y - b) % 18446744073709551616 : Nat) : Int) = ((x : Int) - y - b) % 18446744073709551616 := by omega
  have e2 : ((if x < y + b then 1 else 0 : Nat) : Int) = - (((x : Int) - y - b) / 18446744073709551616) := by split <;> omega
  rw [e1, e2]
theorem sub64_0 (x y : Int) (hx : 0 ≤ x) (hx' : x ≤ 18446744073709551615) (hy : 0 ≤ y) (hy' : y ≤ 18446744073709551615) (w : World) : (callFunc 163 #[.int .u64 x, .int .u64 y, .int .u64 0]).run Try.prog w =
    .ok (.value (.tuple #[.int .u64 (wlo (x - y)), .int .u64 (- whi (x - y))])) w := by
  simpa using sub64 x y 0 hx hx' hy hy' (Int.le_refl 0) (by decide) w

set_option maxHeartbeats 400000 in
theorem wideOf (n : Int) (w : World) (h : In64 n) :
    Calls Try.prog 103 #[.int .i64 n] w fun e w' => e = .returned (.agg #[.int .i64 (whi n), .int .u64 (wlo n)]) ∧ Below w.heap.size w w' := by
  unfold In64 at h
  go_enter Try.func103, Try.ntmps103
  go_wp2
  go_returns
  exact ⟨ret_agg2 (by unfold whi; omega) (by rw [IntKind.wrap_u64]; rfl), (Below.refl _ _).alloc (Nat.le_refl _) _⟩

set_option maxHeartbeats 400000 in
theorem wideBelow (n : Int) (w : World) (h : In128 n) :
    Calls Try.prog 132 #[.agg #[.int .i64 (whi n), .int .u64 (wlo n)]] w fun e w' => e = .returned (.bool (decide (n < 0))) ∧ Below w.heap.size w w' := by
  have h1 := whi_i h
  go_enter Try.func132, Try.ntmps132
  go_wp2
  go_returns
  exact ⟨ret_bool (by unfold whi; omega), (Below.refl _ _).alloc (Nat.le_refl _) _⟩

set_option maxHeartbeats 400000 in
theorem wideSize (n : Int) (w : World) (h : In128 n) :
    Calls Try.prog 130 #[(.agg #[.int .i64 (whi (n)), .int .u64 (wlo (n))])] w fun e w' => e = .returned (.agg #[.int .u64 (whi (iabs n)), .int .u64 (wlo (iabs n))]) ∧ Below w.heap.size w w' := by
  have h1 := whi_i h
  have h2 := wlo_u n
  by_cases hn : n < 0
  · have hd : decide (n < 0) = true := by simpa using hn
    have e1 := sub64_0 0 (wlo n) (by omega) (by omega) h2.1 h2.2
    have h3 : 0 ≤ - whi (- wlo n) ∧ - whi (- wlo n) ≤ 1 := by unfold whi; omega
    have h4 : 0 ≤ IntKind.u64.wrap (whi n) ∧ IntKind.u64.wrap (whi n) ≤ 18446744073709551615 := by rw [IntKind.wrap_u64]; omega
    have e2 := sub64 0 (IntKind.u64.wrap (whi n)) (- whi (- wlo n)) (by omega) (by omega) h4.1 h4.2 h3.1 h3.2
    have e3 : wlo (- wlo n) = wlo (iabs n) := by rw [iabs_neg hn]; unfold wlo; omega
    have e4 : wlo (- IntKind.u64.wrap (whi n) - - whi (- wlo n)) = whi (iabs n) := by rw [iabs_neg hn]; unfold In128 at h; rw [IntKind.wrap_u64]; unfold wlo whi; omega
    simp only [Int.zero_sub] at e1 e2
    rw [e3] at e1
    rw [e4] at e2
    clear e3 e4
    obtain ⟨b, hb⟩ : ∃ b, b = - whi (- wlo n) := ⟨_, rfl⟩
    rw [← hb] at e1 e2 h3
    clear hb
    go_enter Try.func130, Try.ntmps130
    go_wp2_with (go_at_call 132; (with_reducible refine (hd ▸ wideBelow n _ h).mono ?_); rintro e w1 ⟨rfl, hb1⟩; obtain ⟨fc1, fg1, hc1, hf1, hz1⟩ := bget hb1; try simp at hz1)
    refine bodyPost_ret (by simp [results, Try.results130, go_sem, hc1]; try rfl) rfl ⟨rfl, ?_⟩
    (repeat' (first | (with_reducible exact Below.refl _ _) | (with_reducible assumption) | (with_reducible refine Below.alloc ?_ ?_ _) | (with_reducible refine Below.setCell ?_ ?_ _) | (with_reducible refine Below.drew ?_) | (with_reducible refine below_drewN ?_ _) | (with_reducible refine below_via ?_ (by with_reducible assumption) ?_) | omega | (simp; done) | (simp; omega)))
  · have hd : decide (n < 0) = false := by simpa using hn
    have e5 : 0 ≤ whi n := by unfold whi; omega
    rw [iabs_pos (by omega)]
    go_enter Try.func130, Try.ntmps130
    go_wp2_with (go_at_call 132; (with_reducible refine (hd ▸ wideBelow n _ h).mono ?_); rintro e w1 ⟨rfl, hb1⟩; obtain ⟨fc1, fg1, hc1, hf1, hz1⟩ := bget hb1; try simp at hz1)
    refine bodyPost_ret (by simp [results, Try.results130, go_sem, hc1]; try rfl) rfl ⟨rfl, ?_⟩
    (repeat' (first | (with_reducible exact Below.refl _ _) | (with_reducible assumption) | (with_reducible refine Below.alloc ?_ ?_ _) | (with_reducible refine Below.setCell ?_ ?_ _) | (with_reducible refine Below.drew ?_) | (with_reducible refine below_drewN ?_ _) | (with_reducible refine below_via ?_ (by with_reducible assumption) ?_) | omega | (simp; done) | (simp; omega)))

set_option maxHeartbeats 400000 in
theorem wideSignedPos (m : Int) (w : World) (h0 : 0 ≤ m) (h : m < 340282366920938463463374607431768211456) :
    Calls Try.prog 131 #[(.agg #[.int .u64 (whi (m)), .int .u64 (wlo (m))]), .bool false] w fun e w' => e = .returned (.tuple #[(.agg #[.int .i64 (whi (wrap128 m)), .int .u64 (wlo (wrap128 m))]), .bool (decide (m < 170141183460469231731687303715884105728))]) ∧ Below w.heap.size w w' := by
  have h1 : 0 ≤ whi m ∧ whi m ≤ 18446744073709551615 := by unfold whi; omega
  have h2 := wlo_u m
  have e1 : IntKind.i64.wrap (whi m) = whi (wrap128 m) := by rw [IntKind.wrap_i64]; unfold whi wrap128; omega
  have e2 : wlo m = wlo (wrap128 m) := by unfold wlo wrap128; omega
  go_enter Try.func131, Try.ntmps131
  go_wp2
  go_region
  all_goals
    go_wp2
    refine bodyPost_ret (by simp [results, Try.results131, go_sem, ]; try rfl) rfl ⟨ret_tup2 rfl (bool_eq (by unfold whi; omega)), ?_⟩
    (repeat' (first | (with_reducible exact Below.refl _ _) | (with_reducible assumption) | (with_reducible refine Below.alloc ?_ ?_ _) | (with_reducible refine Below.setCell ?_ ?_ _) | (with_reducible refine Below.drew ?_) | (with_reducible refine below_drewN ?_ _) | (with_reducible refine below_via ?_ (by with_reducible assumption) ?_) | omega | (simp; done) | (simp; omega)))

set_option maxHeartbeats 1000000 in
theorem wideSignedNeg (m : Int) (w : World) (h0 : 0 ≤ m) (h : m < 340282366920938463463374607431768211456) :
    Calls Try.prog 131 #[(.agg #[.int .u64 (whi (m)), .int .u64 (wlo (m))]), .bool true] w fun e w' => e = .returned (.tuple #[(.agg #[.int .i64 (whi (wrap128 (- m))), .int .u64 (wlo (wrap128 (- m)))]), .bool (decide (m ≤ 170141183460469231731687303715884105728))]) ∧ Below w.heap.size w w' := by
  have h1 : 0 ≤ whi m ∧ whi m ≤ 18446744073709551615 := by unfold whi; omega
  have h2 := wlo_u m
  have e1 := sub64_0 0 (wlo m) (by omega) (by omega) h2.1 h2.2
  have h3 : 0 ≤ - whi (- wlo m) ∧ - whi (- wlo m) ≤ 1 := by unfold whi; omega
  have e2 := sub64 0 (whi m) (- whi (- wlo m)) (by omega) (by omega) h1.1 h1.2 h3.1 h3.2
  have e3 : wlo (- wlo m) = wlo (wrap128 (- m)) := by unfold wlo wrap128; omega
  have e4 : IntKind.i64.wrap (wlo (- whi m - - whi (- wlo m))) = whi (wrap128 (- m)) := by rw [IntKind.wrap_i64]; unfold wlo whi wrap128; omega
  simp only [Int.zero_sub] at e1 e2
  rw [e3] at e1
  obtain ⟨b, hb⟩ : ∃ b, b = - whi (- wlo m) := ⟨_, rfl⟩
  rw [← hb] at e1 e2 e4 h3
  obtain ⟨c, hc⟩ : ∃ c, c = wlo (- whi m - b) := ⟨_, rfl⟩
  have h5 := wlo_u (- whi m - b)
  rw [← hc] at e2 e4 h5
  clear hb e3 hc
  have hfin : m ≤ 170141183460469231731687303715884105728 ↔ whi m < 9223372036854775808 ∨ (whi m = 9223372036854775808 ∧ wlo m = 0) := by unfold whi wlo; omega
  rw [show decide (m ≤ 170141183460469231731687303715884105728) = decide (whi m < 9223372036854775808 ∨ (whi m = 9223372036854775808 ∧ wlo m = 0)) from by simp only [hfin]]
  clear hfin h0 h
  by_cases c1 : whi m < 9223372036854775808
  · have d1 : decide (whi m < 9223372036854775808) = true := by simpa using c1
    go_enter Try.func131, Try.ntmps131
    go_wp2
    go_region
    all_goals
      go_wp2
      refine bodyPost_ret (by simp [results, Try.results131, go_sem, ]; try rfl) rfl ⟨ret_tup2 rfl (by simp [c1]), ?_⟩
      (repeat' (first | (with_reducible exact Below.refl _ _) | (with_reducible assumption) | (with_reducible refine Below.alloc ?_ ?_ _) | (with_reducible refine Below.setCell ?_ ?_ _) | (with_reducible refine Below.drew ?_) | (with_reducible refine below_drewN ?_ _) | (with_reducible refine below_via ?_ (by with_reducible assumption) ?_) | omega | (simp; done) | (simp; omega)))
  · have d1 : decide (whi m < 9223372036854775808) = false := by simpa using c1
    by_cases c2 : whi m = 9223372036854775808
    · have d2 : (whi m == 9223372036854775808) = true := by simpa using c2
      by_cases c3 : wlo m = 0
      · have d3 : (wlo m == 0) = true := by simpa using c3
        have C2 : Hid (whi m = 9223372036854775808) := c2
        have C3 : Hid (wlo m = 0) := c3
        clear c2 c3
        go_enter Try.func131, Try.ntmps131
        go_wp2
        go_region
        all_goals
          go_wp2
          refine bodyPost_ret (by simp [results, Try.results131, go_sem, ]; try rfl) rfl ⟨ret_tup2 rfl (by simp [C2.out, C3.out]), ?_⟩
          (repeat' (first | (with_reducible exact Below.refl _ _) | (with_reducible assumption) | (with_reducible refine Below.alloc ?_ ?_ _) | (with_reducible refine Below.setCell ?_ ?_ _) | (with_reducible refine Below.drew ?_) | (with_reducible refine below_drewN ?_ _) | (with_reducible refine below_via ?_ (by with_reducible assumption) ?_) | omega | (simp; done) | (simp; omega)))
      · have d3 : (wlo m == 0) = false := by simpa using c3
        have C2 : Hid (whi m = 9223372036854775808) := c2
        clear c2
        go_enter Try.func131, Try.ntmps131
        go_wp2
        go_region
        all_goals
          go_wp2
          refine bodyPost_ret (by simp [results, Try.results131, go_sem, ]; try rfl) rfl ⟨ret_tup2 rfl (by simp [C2.out, c3]), ?_⟩
          (repeat' (first | (with_reducible exact Below.refl _ _) | (with_reducible assumption) | (with_reducible refine Below.alloc ?_ ?_ _) | (with_reducible refine Below.setCell ?_ ?_ _) | (with_reducible refine Below.drew ?_) | (with_reducible refine below_drewN ?_ _) | (with_reducible refine below_via ?_ (by with_reducible assumption) ?_) | omega | (simp; done) | (simp; omega)))
    · have d2 : (whi m == 9223372036854775808) = false := by simpa using c2
      go_enter Try.func131, Try.ntmps131
      go_wp2
      go_region
      all_goals
        go_wp2
        refine bodyPost_ret (by simp [results, Try.results131, go_sem, ]; try rfl) rfl ⟨ret_tup2 rfl (by simp [c2]; omega), ?_⟩
        (repeat' (first | (with_reducible exact Below.refl _ _) | (with_reducible assumption) | (with_reducible refine Below.alloc ?_ ?_ _) | (with_reducible refine Below.setCell ?_ ?_ _) | (with_reducible refine Below.drew ?_) | (with_reducible refine below_drewN ?_ _) | (with_reducible refine below_via ?_ (by with_reducible assumption) ?_) | omega | (simp; done) | (simp; omega)))

theorem wideSigned (s : Bool) (m : Int) (w : World) (h0 : 0 ≤ m) (h : m < 340282366920938463463374607431768211456) :
    Calls Try.prog 131 #[(.agg #[.int .u64 (whi (m)), .int .u64 (wlo (m))]), .bool s] w fun e w' => e = .returned (.tuple #[(.agg #[.int .i64 (whi (wrap128 (sgn s m))), .int .u64 (wlo (wrap128 (sgn s m)))]), .bool (in128 (sgn s m))]) ∧ Below w.heap.size w w' := by
  cases s
  · refine (wideSignedPos m w h0 h).mono ?_
    rintro e w' ⟨rfl, hb⟩
    exact ⟨ret_tup2 rfl (bool_eq (by simp [sgn]; omega)), hb⟩
  · refine (wideSignedNeg m w h0 h).mono ?_
    rintro e w' ⟨rfl, hb⟩
    exact ⟨ret_tup2 rfl (bool_eq (by simp [sgn]; omega)), hb⟩
theorem mul64 (x y : Int) (w : World) (hx : 0 ≤ x) (hx' : x ≤ 18446744073709551615) (hy : 0 ≤ y) (hy' : y ≤ 18446744073709551615) :
    Calls Try.prog 161 #[.int .u64 x, .int .u64 y] w fun e w' => e = .returned (.tuple #[.int .u64 (whi (x * y)), .int .u64 (wlo (x * y))]) ∧ w = w' := by
  obtain ⟨x, rfl⟩ := Int.eq_ofNat_of_zero_le hx
  obtain ⟨y, rfl⟩ := Int.eq_ofNat_of_zero_le hy
  refine (Try.bits_Mul64 x y (by omega) (by omega) w).mono ?_
  rintro e w' ⟨rfl, rfl⟩
  refine ⟨ret_tup2 ?_ ?_, rfl⟩ <;> simp [whi, wlo]

set_option maxHeartbeats 400000 in
theorem wideRangedYes (n : Int) (w : World) :
    Calls Try.prog 129 #[(.agg #[.int .i64 (whi (n)), .int .u64 (wlo (n))]), .bool true] w fun e w' => e = .returned (.tuple #[(.agg #[.int .i64 (whi (n)), .int .u64 (wlo (n))]), .int .i64 0]) ∧ Below w.heap.size w w' := by
  go_enter Try.func129, Try.ntmps129
  go_wp2
  refine bodyPost_ret (by simp [results, Try.results129, go_sem, ]; try rfl) rfl ⟨rfl, ?_⟩
  (repeat' (first | (with_reducible exact Below.refl _ _) | (with_reducible assumption) | (with_reducible refine Below.alloc ?_ ?_ _) | (with_reducible refine Below.setCell ?_ ?_ _) | (with_reducible refine Below.drew ?_) | (with_reducible refine below_drewN ?_ _) | (with_reducible refine below_via ?_ (by with_reducible assumption) ?_) | omega | (simp; done) | (simp; omega)))
set_option maxHeartbeats 400000 in
theorem wideRangedNo (a b : Int) (w : World) :
    Calls Try.prog 129 #[.agg #[.int .i64 a, .int .u64 b], .bool false] w fun e w' => e = .returned (.tuple #[.agg #[.int .i64 0, .int .u64 0], .int .i64 7]) ∧ Below w.heap.size w w' := by
  go_enter Try.func129, Try.ntmps129
  go_wp2
  refine bodyPost_ret (by simp [results, Try.results129, go_sem, ]; try rfl) rfl ⟨rfl, ?_⟩
  (repeat' (first | (with_reducible exact Below.refl _ _) | (with_reducible assumption) | (with_reducible refine Below.alloc ?_ ?_ _) | (with_reducible refine Below.setCell ?_ ?_ _) | (with_reducible refine Below.drew ?_) | (with_reducible refine below_drewN ?_ _) | (with_reducible refine below_via ?_ (by with_reducible assumption) ?_) | omega | (simp; done) | (simp; omega)))

end Go.Proofs.Ytiidplinmempcaa

/- Contracts of wide.Int, Cmp, Sign, Mul, Neg. -/
namespace Go.Proofs.Ytiidplinmempcaa
open Go.RowKit

set_option maxHeartbeats 400000 in
theorem wideIntYes (n : Int) (w : World) (h : In64 n) :
    Calls Try.prog 82 #[(.agg #[.int .i64 (whi (n)), .int .u64 (wlo (n))])] w fun e w' => e = .returned (.tuple #[.int .i64 n, .int .i64 0]) ∧ Below w.heap.size w w' := by
  have h2 := wlo_u n
  have e1 : IntKind.i64.wrap (wlo n) = n := by unfold In64 at h; rw [IntKind.wrap_i64]; unfold wlo; omega
  go_enter Try.func82, Try.ntmps82
  go_wp2
  go_region_held3 (fun w' => w'.cell? ⟨w.heap.size, 0, none⟩ = some (.int .i64 (whi n)) ∧ w'.cell? ⟨w.heap.size, 1, none⟩ = some (.int .u64 (wlo n))) (first | (simp [go_sem]; done) | (repeat' (first | (with_reducible assumption) | (with_reducible refine And.intro ?_ ?_) | (with_reducible refine cell_drew ?_) | (with_reducible refine cell_via (by with_reducible assumption) ?_ ?_) | (simp [*]; done) | (simp [go_sem]; done) | (with_reducible refine cell_alloc ?_ ?_) | (with_reducible refine cell_set_far ?_ ?_) | omega | (simp; omega)))) (first | (go_at_call 103; (with_reducible refine (wideOf n _ h).mono ?_); rintro e w1 ⟨rfl, hb1⟩; obtain ⟨fc1, fg1, hc1, hf1, hz1⟩ := bget hb1; try simp at hz1))
  go_wp2
  go_ret2
  exact ⟨rfl, by (repeat' (first | (with_reducible exact Below.refl _ _) | (with_reducible assumption) | (with_reducible refine Below.alloc ?_ ?_ _) | (with_reducible refine Below.setCell ?_ ?_ _) | (with_reducible refine Below.drew ?_) | (with_reducible refine below_drewN ?_ _) | (with_reducible refine below_via ?_ (by with_reducible assumption) ?_) | omega | (simp; done) | (simp; omega)))⟩
set_option maxHeartbeats 400000 in
theorem wideIntNo (n : Int) (w : World) (h : In128 n) (hno : ¬ In64 n) :
    Calls Try.prog 82 #[(.agg #[.int .i64 (whi (n)), .int .u64 (wlo (n))])] w fun e w' => e = .returned (.tuple #[.int .i64 0, .int .i64 7]) ∧ Below w.heap.size w w' := by
  have h2 := wlo_u n
  obtain ⟨m, hm⟩ : ∃ m, m = IntKind.i64.wrap (wlo n) := ⟨_, rfl⟩
  have hm64 : In64 m := by rw [hm]; unfold In64; rw [IntKind.wrap_i64]; omega
  have hne : (whi m == whi n) = false := by
    rw [beq_eq_false_iff_ne]; intro he; apply hno; rw [hm] at he; rw [IntKind.wrap_i64] at he; unfold In128 at h; unfold In64; unfold whi wlo at *; omega
  have e1 : IntKind.i64.wrap (wlo n) = m := hm.symm
  clear hm
  go_enter Try.func82, Try.ntmps82
  go_wp2
  go_region_held3 (fun w' => w'.cell? ⟨w.heap.size, 0, none⟩ = some (.int .i64 (whi n)) ∧ w'.cell? ⟨w.heap.size, 1, none⟩ = some (.int .u64 (wlo n))) (first | (simp [go_sem]; done) | (repeat' (first | (with_reducible assumption) | (with_reducible refine And.intro ?_ ?_) | (with_reducible refine cell_drew ?_) | (with_reducible refine cell_via (by with_reducible assumption) ?_ ?_) | (simp [*]; done) | (simp [go_sem]; done) | (with_reducible refine cell_alloc ?_ ?_) | (with_reducible refine cell_set_far ?_ ?_) | omega | (simp; omega)))) (first | (go_at_call 103; (with_reducible refine (wideOf m _ hm64).mono ?_); rintro e w1 ⟨rfl, hb1⟩; obtain ⟨fc1, fg1, hc1, hf1, hz1⟩ := bget hb1; try simp at hz1))
  go_wp2
  go_ret2
  exact ⟨rfl, by (repeat' (first | (with_reducible exact Below.refl _ _) | (with_reducible assumption) | (with_reducible refine Below.alloc ?_ ?_ _) | (with_reducible refine Below.setCell ?_ ?_ _) | (with_reducible refine Below.drew ?_) | (with_reducible refine below_drewN ?_ _) | (with_reducible refine below_via ?_ (by with_reducible assumption) ?_) | omega | (simp; done) | (simp; omega)))⟩

/-- The order of two numbers. -/
def ord (a b : Int) : Int := if a < b then -1 else if b < a then 1 else 0

set_option maxHeartbeats 400000 in
theorem cmpInt64 (a b : Int) (w : World) :
    Calls Try.prog 166 #[.int .i64 a, .int .i64 b] w fun e w' => e = .returned (.int .i64 (ord a b)) ∧ w = w' := by
  go_enter Try.func166, Try.ntmps166
  go_wp2
  all_goals (go_ret; exact ⟨ret_int (by unfold ord; repeat' split <;> omega), rfl⟩)
set_option maxHeartbeats 400000 in
theorem cmpUint64 (a b : Int) (w : World) :
    Calls Try.prog 167 #[.int .u64 a, .int .u64 b] w fun e w' => e = .returned (.int .i64 (ord a b)) ∧ w = w' := by
  go_enter Try.func167, Try.ntmps167
  go_wp2
  all_goals (go_ret; exact ⟨ret_int (by unfold ord; repeat' split <;> omega), rfl⟩)

def orOf (a b : Int) : Int := if a = 0 then b else a
set_option maxHeartbeats 400000 in
theorem cmpOr2 (a b : Int) (w : World) (g o c : Nat) (h0 : w.cell? ⟨g, o, none⟩ = some (.int .i64 a)) (h1 : w.cell? ⟨g, o + 1, none⟩ = some (.int .i64 b)) :
    Calls Try.prog 165 #[.slice (some ⟨g, o, none⟩) 2 c] w fun e w' => e = .returned (.int .i64 (orOf a b)) ∧ w = w' := by
  by_cases ha : a = 0
  · subst ha
    have d1 : ((0 : Int) != 0) = false := rfl
    by_cases hb : b = 0
    · subst hb
      go_enter Try.func165, Try.ntmps165
      go_wp2
      go_rounds 3
      go_ret
      exact ⟨rfl, rfl⟩
    · have d2 : (b != 0) = true := by simpa using hb
      go_enter Try.func165, Try.ntmps165
      go_wp2
      go_rounds 3
      go_ret
      exact ⟨rfl, rfl⟩
  · have d1 : (a != 0) = true := by simpa using ha
    go_enter Try.func165, Try.ntmps165
    go_wp2
    go_rounds 3
    go_ret
    exact ⟨ret_int (by simp [orOf, ha]), rfl⟩

theorem ord_wide (a b : Int) : orOf (ord (whi a) (whi b)) (ord (wlo a) (wlo b)) = ord a b := by
  unfold orOf ord whi wlo; repeat' split <;> omega
set_option maxHeartbeats 400000 in
theorem wideCmp (a b : Int) (w : World) (ha : In128 a) (hb : In128 b) :
    Calls Try.prog 136 #[(.agg #[.int .i64 (whi (a)), .int .u64 (wlo (a))]), (.agg #[.int .i64 (whi (b)), .int .u64 (wlo (b))])] w fun e w' => e = .returned (.int .i64 (ord a b)) ∧ Below w.heap.size w w' := by
  have h1 := whi_i ha
  have h2 := whi_i hb
  have h3 := wlo_u a
  have h4 := wlo_u b
  rw [← ord_wide]
  go_enter Try.func136, Try.ntmps136
  go_wp2
  go_region_held3 (fun w' => w'.cell? ⟨w.heap.size, 0, none⟩ = some (.int .i64 (whi a)) ∧ w'.cell? ⟨w.heap.size, 1, none⟩ = some (.int .u64 (wlo a)) ∧ w'.cell? ⟨w.heap.size + 1, 0, none⟩ = some (.int .i64 (whi b)) ∧ w'.cell? ⟨w.heap.size + 1, 1, none⟩ = some (.int .u64 (wlo b))) (first | (simp [go_sem]; done) | (repeat' (first | (with_reducible assumption) | (with_reducible refine And.intro ?_ ?_) | (with_reducible refine cell_drew ?_) | (with_reducible refine cell_via (by with_reducible assumption) ?_ ?_) | (simp [*]; done) | (simp [go_sem]; done) | (with_reducible refine cell_alloc ?_ ?_) | (with_reducible refine cell_set_far ?_ ?_) | omega | (simp; omega)))) (first | (go_at_call 166; refine (cmpInt64 _ _ _).mono ?_; rintro e w1 ⟨rfl, rfl⟩) | (go_at_call 167; refine (cmpUint64 _ _ _).mono ?_; rintro e w1 ⟨rfl, rfl⟩) | (go_at_call 165; refine (cmpOr2 (ord (whi a) (whi b)) (ord (wlo a) (wlo b)) _ _ 0 _ (by simp [go_sem]) (by simp [go_sem])).mono ?_; rintro e w1 ⟨rfl, rfl⟩))
  go_wp2
  go_ret
  exact ⟨rfl, by (repeat' (first | (with_reducible exact Below.refl _ _) | (with_reducible assumption) | (with_reducible refine Below.alloc ?_ ?_ _) | (with_reducible refine Below.setCell ?_ ?_ _) | (with_reducible refine Below.drew ?_) | (with_reducible refine below_drewN ?_ _) | (with_reducible refine below_via ?_ (by with_reducible assumption) ?_) | omega | (simp; done) | (simp; omega)))⟩
theorem wideCmp0 (a : Int) (w : World) (ha : In128 a) :
    Calls Try.prog 136 #[(.agg #[.int .i64 (whi (a)), .int .u64 (wlo (a))]), .agg #[.int .i64 0, .int .u64 0]] w fun e w' => e = .returned (.int .i64 (ord a 0)) ∧ Below w.heap.size w w' := wideCmp a 0 w ha (by unfold In128; omega)
set_option maxHeartbeats 400000 in
theorem wideSign (a : Int) (w : World) (ha : In128 a) :
    Calls Try.prog 105 #[(.agg #[.int .i64 (whi (a)), .int .u64 (wlo (a))])] w fun e w' => e = .returned (.int .i64 (ord a 0)) ∧ Below w.heap.size w w' := by
  go_enter Try.func105, Try.ntmps105
  go_wp2_with (go_at_call 136; (with_reducible refine (wideCmp0 a _ ha).mono ?_); rintro e w1 ⟨rfl, hb1⟩; obtain ⟨fc1, fg1, hc1, hf1, hz1⟩ := bget hb1; try simp at hz1)
  go_ret
  exact ⟨rfl, by (repeat' (first | (with_reducible exact Below.refl _ _) | (with_reducible assumption) | (with_reducible refine Below.alloc ?_ ?_ _) | (with_reducible refine Below.setCell ?_ ?_ _) | (with_reducible refine Below.drew ?_) | (with_reducible refine below_drewN ?_ _) | (with_reducible refine below_via ?_ (by with_reducible assumption) ?_) | omega | (simp; done) | (simp; omega)))⟩
theorem fieldSizeLo (x y : Int) (w : World) : (Instr.field 178 (.agg #[.int .u64 x, .int .u64 y]) 1).run Try.prog w = .ok (.int .u64 y) w := by kernel_rfl
attribute [local go_sem] fieldSizeLo
set_option maxRecDepth 100000 in
set_option maxHeartbeats 1000000 in
theorem wideMul (a b : Int) (w : World) (ha : In64 a) (hb : In64 b) :
    Calls Try.prog 126 #[.int .i64 a, .int .i64 b] w fun e w' => e = .returned (.agg #[.int .i64 (whi (a * b)), .int .u64 (wlo (a * b))]) ∧ Below w.heap.size w w' := by
  have a128 : In128 a := in128_of64 ha
  have b128 : In128 b := in128_of64 hb
  have ea := wlo_abs64 ha
  have eb := wlo_abs64 hb
  have b1 := mul64_128 ha hb
  have b2 := iabs_mul a b
  have b3 : 0 ≤ iabs a * iabs b ∧ iabs a * iabs b < 340282366920938463463374607431768211456 := by rw [b2]; unfold In128 at b1; unfold iabs; split <;> omega
  have u1 : 0 ≤ iabs a ∧ iabs a ≤ 18446744073709551615 := by unfold In64 at ha; unfold iabs; split <;> omega
  have u2 : 0 ≤ iabs b ∧ iabs b ≤ 18446744073709551615 := by unfold In64 at hb; unfold iabs; split <;> omega
  have fin : wrap128 (sgn (!(decide (a < 0) == decide (b < 0))) (iabs a * iabs b)) = a * b := by rw [show (!(decide (a < 0) == decide (b < 0))) = (decide (a < 0) != decide (b < 0)) from rfl, sgn_mul, wrap128_in b1]
  clear b2
  go_enter Try.func126, Try.ntmps126
  go_wp2_with (first | (go_at_call 103; (with_reducible refine (wideOf a _ ha).mono ?_); rintro e w1 ⟨rfl, hb1⟩; obtain ⟨fc1, fg1, hc1, hf1, hz1⟩ := bget hb1; try simp at hz1) | (go_at_call 103; (with_reducible refine (wideOf b _ hb).mono ?_); rintro e w2 ⟨rfl, hb2⟩; obtain ⟨fc2, fg2, hc2, hf2, hz2⟩ := bget hb2; try simp at hz2))
  go_region_held3 (fun w' => w'.cell? ⟨w2.heap.size, 0, none⟩ = some (.int .i64 (whi a)) ∧ w'.cell? ⟨w2.heap.size, 1, none⟩ = some (.int .u64 (wlo a)) ∧ w'.cell? ⟨w2.heap.size + 1, 0, none⟩ = some (.int .i64 (whi b)) ∧ w'.cell? ⟨w2.heap.size + 1, 1, none⟩ = some (.int .u64 (wlo b))) (first | (simp [go_sem]; done) | (repeat' (first | (with_reducible assumption) | (with_reducible refine And.intro ?_ ?_) | (with_reducible refine cell_drew ?_) | (with_reducible refine cell_via (by with_reducible assumption) ?_ ?_) | (simp [*]; done) | (simp [go_sem]; done) | (with_reducible refine cell_alloc ?_ ?_) | (with_reducible refine cell_set_far ?_ ?_) | omega | (simp; omega)))) (first | (go_at_call 130; (with_reducible refine (wideSize a _ a128).mono ?_); rintro e w3 ⟨rfl, hb3⟩; obtain ⟨fc3, fg3, hc3, hf3, hz3⟩ := bget hb3; try simp at hz3) | (go_at_call 130; (with_reducible refine (wideSize b _ b128).mono ?_); rintro e w4 ⟨rfl, hb4⟩; obtain ⟨fc4, fg4, hc4, hf4, hz4⟩ := bget hb4; try simp at hz4) | (go_at_call 161; (with_reducible refine (mul64 _ _ _ u1.1 u1.2 u2.1 u2.2).mono ?_); rintro e w5 ⟨rfl, rfl⟩))
  go_wp2
  go_region_held3 (fun w' => w'.cell? ⟨w2.heap.size, 0, none⟩ = some (.int .i64 (whi a)) ∧ w'.cell? ⟨w2.heap.size, 1, none⟩ = some (.int .u64 (wlo a)) ∧ w'.cell? ⟨w2.heap.size + 1, 0, none⟩ = some (.int .i64 (whi b)) ∧ w'.cell? ⟨w2.heap.size + 1, 1, none⟩ = some (.int .u64 (wlo b))) (first | (simp [go_sem]; done) | (repeat' (first | (with_reducible assumption) | (with_reducible refine And.intro ?_ ?_) | (with_reducible refine cell_drew ?_) | (with_reducible refine cell_via (by with_reducible assumption) ?_ ?_) | (simp [*]; done) | (simp [go_sem]; done) | (with_reducible refine cell_alloc ?_ ?_) | (with_reducible refine cell_set_far ?_ ?_) | omega | (simp; omega)))) (first | ((go_at_call 132; (with_reducible refine (wideBelow a _ a128).mono ?_); rintro e w5 ⟨rfl, hb5⟩; obtain ⟨fc5, fg5, hc5, hf5, hz5⟩ := bget hb5; try simp at hz5)) | ((go_at_call 132; (with_reducible refine (wideBelow b _ b128).mono ?_); rintro e w6 ⟨rfl, hb6⟩; obtain ⟨fc6, fg6, hc6, hf6, hz6⟩ := bget hb6; try simp at hz6)) | ((go_at_call 131; (with_reducible refine (wideSigned _ _ _ b3.1 b3.2).mono ?_); rintro e w7 ⟨rfl, hb7⟩; obtain ⟨fc7, fg7, hc7, hf7, hz7⟩ := bget hb7; try simp at hz7)))
  go_wp2
  all_goals
    refine bodyPost_ret (by simp [results, Try.results126, go_sem, ↓IntWalk.iteOmega, hc1, hc2, hc3, hc4, hc5, hc6, hc7]; try rfl) rfl ⟨rfl, ?_⟩
    (repeat' (first | (with_reducible exact Below.refl _ _) | (with_reducible assumption) | (with_reducible refine Below.alloc ?_ ?_ _) | (with_reducible refine Below.setCell ?_ ?_ _) | (with_reducible refine Below.drew ?_) | (with_reducible refine below_drewN ?_ _) | (with_reducible refine below_via ?_ (by with_reducible assumption) ?_) | omega | (simp; done) | (simp; omega)))
end Go.Proofs.Ytiidplinmempcaa

/- Contracts of wide.total's add and done. -/
namespace Go.Proofs.Ytiidplinmempcaa
open Go.RowKit

/-- The cells of a sum of 192 bits. -/
def tot (s : Int) : Array Value := #[.int .i64 (s / 340282366920938463463374607431768211456), .int .i64 (whi (wrap128 s)), .int .u64 (wlo s)]
def InT (s : Int) : Prop := -1532495540865888858358347027150309183618739122183602176 ≤ s ∧ s ≤ 1532495540865888858358347027150309183618739122183602176
theorem shr63 (a : Int) (h : -9223372036854775808 ≤ a ∧ a ≤ 9223372036854775807) : a / 9223372036854775808 = if a < 0 then -1 else 0 := by split <;> omega
theorem word_hi (s : Int) : whi (wrap128 s) % 18446744073709551616 = (s % 340282366920938463463374607431768211456) / 18446744073709551616 := by unfold whi wrap128; omega
theorem word_lo (s : Int) : wlo s = (s % 340282366920938463463374607431768211456) % 18446744073709551616 := by unfold wlo; omega
theorem carry128 (a b : Int) : whi (a / 18446744073709551616 + b / 18446744073709551616 + whi (a % 18446744073709551616 + b % 18446744073709551616)) = (a + b) / 340282366920938463463374607431768211456 := by unfold whi; omega
theorem low128 (a b : Int) : (a / 18446744073709551616 + b / 18446744073709551616 + whi (a % 18446744073709551616 + b % 18446744073709551616)) = (a + b) / 18446744073709551616 := by unfold whi; omega
theorem whi_in (n : Int) (h : In128 n) : whi n = whi (wrap128 n) := by rw [wrap128_in h]
/-- The carry out of the second word. -/
theorem tot_carry (s n : Int) (hn : In128 n) : whi (IntKind.u64.wrap (whi (wrap128 s)) + IntKind.u64.wrap (whi n) + whi (wlo s + wlo n)) = (s % 340282366920938463463374607431768211456 + n % 340282366920938463463374607431768211456) / 340282366920938463463374607431768211456 := by
  rw [IntKind.wrap_u64, IntKind.wrap_u64, whi_in n hn, word_hi, word_hi, word_lo s, word_lo n]
  exact carry128 _ _
theorem tot_over (s n : Int) (hn : In128 n) : s / 340282366920938463463374607431768211456 + (whi n / 9223372036854775808 + whi (IntKind.u64.wrap (whi (wrap128 s)) + IntKind.u64.wrap (whi n) + whi (wlo s + wlo n))) = (s + n) / 340282366920938463463374607431768211456 := by
  rw [tot_carry s n hn]
  have : whi n / 9223372036854775808 = n / 340282366920938463463374607431768211456 := by unfold In128 at hn; unfold whi; omega
  rw [this]; clear this hn
  omega
theorem tot_hi (s n : Int) (hn : In128 n) : IntKind.i64.wrap (wlo (IntKind.u64.wrap (whi (wrap128 s)) + IntKind.u64.wrap (whi n) + whi (wlo s + wlo n))) = whi (wrap128 (s + n)) := by
  rw [IntKind.wrap_u64, IntKind.wrap_u64, whi_in n hn, word_hi, word_hi, word_lo s, word_lo n, low128, IntKind.wrap_i64]
  clear hn
  unfold wlo whi wrap128
  omega
set_option maxRecDepth 100000 in
set_option maxHeartbeats 1000000 in
theorem totalAdd (s n : Int) (g : Nat) (w : World) (hs : InT s) (hn : In128 n) (hg : Blk w g 172 (tot s)) :
    Calls Try.prog 127 #[.pointer (some ⟨g, 0, none⟩), (.agg #[.int .i64 (whi (n)), .int .u64 (wlo (n))])] w fun e w' => e = .returned (.tuple #[]) ∧ Blk w' g 172 (tot (s + n)) ∧ Only g w w' := by
  have c0 := hg.cell 0
  have c1 := hg.cell 1
  have c2 := hg.cell 2
  have z0 := hg.frozen 0
  have z1 := hg.frozen 1
  have z2 := hg.frozen 2
  have hlt := hg.lt
  simp [tot] at c0 c1 c2
  have h1 := whi_i hn
  have h2 := wlo_u n
  have h3 := wlo_u s
  have h4 := whi_i (wrap128_is s)
  have e1 := add64 (wlo s) (wlo n) 0 h3.1 h2.1 (by omega) (by omega)
  simp only [Int.add_zero] at e1
  have s1 : wlo (wlo s + wlo n) = wlo (s + n) := by unfold wlo; omega
  rw [s1] at e1
  have h5 : 0 ≤ whi (wlo s + wlo n) ∧ whi (wlo s + wlo n) ≤ 1 := by unfold whi; omega
  have h6 : 0 ≤ IntKind.u64.wrap (whi (wrap128 s)) ∧ IntKind.u64.wrap (whi (wrap128 s)) ≤ 18446744073709551615 := by rw [IntKind.wrap_u64]; omega
  have h7 : 0 ≤ IntKind.u64.wrap (whi n) ∧ IntKind.u64.wrap (whi n) ≤ 18446744073709551615 := by rw [IntKind.wrap_u64]; omega
  have e2 := add64 (IntKind.u64.wrap (whi (wrap128 s))) (IntKind.u64.wrap (whi n)) (whi (wlo s + wlo n)) h6.1 h7.1 h5.1 h5.2
  obtain ⟨c, hc⟩ : ∃ c, c = whi (wlo s + wlo n) := ⟨_, rfl⟩
  rw [← hc] at e1 e2 h5
  have s2 : IntKind.i64.wrap (wlo (IntKind.u64.wrap (whi (wrap128 s)) + IntKind.u64.wrap (whi n) + c)) = whi (wrap128 (s + n)) := by
    rw [hc]; exact tot_hi s n hn
  have h8 := wlo_u (IntKind.u64.wrap (whi (wrap128 s)) + IntKind.u64.wrap (whi n) + c)
  obtain ⟨d, hd⟩ : ∃ d, d = whi (IntKind.u64.wrap (whi (wrap128 s)) + IntKind.u64.wrap (whi n) + c) := ⟨_, rfl⟩
  have h9 : 0 ≤ d ∧ d ≤ 1 := by rw [hd]; rw [IntKind.wrap_u64, IntKind.wrap_u64]; unfold whi; omega
  have s3 : s / 340282366920938463463374607431768211456 + (whi n / 9223372036854775808 + d) = (s + n) / 340282366920938463463374607431768211456 := by
    rw [hd, hc]; exact tot_over s n hn
  have h10 : -9007199254740992 ≤ s / 340282366920938463463374607431768211456 ∧ s / 340282366920938463463374607431768211456 ≤ 9007199254740992 := by unfold InT at hs; omega
  rw [← hd] at e2
  obtain ⟨lo, hlo⟩ : ∃ lo, lo = wlo (IntKind.u64.wrap (whi (wrap128 s)) + IntKind.u64.wrap (whi n) + c) := ⟨_, rfl⟩
  rw [← hlo] at e2 s2 h8
  clear hlo hd hc s1
  have Hg := Lib.hid hg
  clear hg
  go_enter Try.func127, Try.ntmps127
  go_wp2
  go_region
  all_goals (go_wp2; go_region)
  all_goals (go_wp2; go_region)
  all_goals
    go_wp2
    go_end0
    exact ⟨rfl, by simpa [tot] using ((((Hg.out.set 0 _).set 1 _).set 2 _).alloc _).drew.drew.drew, (((((Only.refl g w).set (.inl rfl) _).set (.inl rfl) _).set (.inl rfl) _).alloc _).drew.drew.drew⟩
set_option maxRecDepth 100000 in
set_option maxHeartbeats 1000000 in
theorem totalDoneYes (s : Int) (g : Nat) (w : World) (hs : In128 s) (hg : Blk w g 172 (tot s)) :
    Calls Try.prog 128 #[.pointer (some ⟨g, 0, none⟩)] w fun e w' => e = .returned (.tuple #[(.agg #[.int .i64 (whi (s)), .int .u64 (wlo (s))]), .int .i64 0]) ∧ Below w.heap.size w w' := by
  have c0 := hg.cell 0
  have c1 := hg.cell 1
  have c2 := hg.cell 2
  have hlt := hg.lt
  simp [tot, wrap128_in hs] at c0 c1 c2
  have h1 := whi_i hs
  have e1 : (s / 340282366920938463463374607431768211456 == whi s / 9223372036854775808) = true := by
    rw [beq_iff_eq]; unfold In128 at hs; unfold whi; omega
  clear hg
  go_enter Try.func128, Try.ntmps128
  go_wp2
  go_region_held3 (fun w' => w'.cell? ⟨g, 0, none⟩ = some (.int .i64 (s / 340282366920938463463374607431768211456)) ∧ w'.cell? ⟨g, 1, none⟩ = some (.int .i64 (whi s)) ∧ w'.cell? ⟨g, 2, none⟩ = some (.int .u64 (wlo s))) (first | (simp [go_sem]; done) | (repeat' (first | (with_reducible assumption) | (with_reducible refine And.intro ?_ ?_) | (with_reducible refine cell_drew ?_) | (with_reducible refine cell_via (by with_reducible assumption) ?_ ?_) | (simp [*]; done) | (simp [go_sem]; done) | (with_reducible refine cell_alloc ?_ ?_) | (with_reducible refine cell_set_far ?_ ?_) | omega | (simp; omega)))) (first | (go_at_call 129; (with_reducible refine (wideRangedYes _ _).mono ?_); rintro e w1 ⟨rfl, hb1⟩; obtain ⟨fc1, fg1, hc1, hf1, hz1⟩ := bget hb1; try simp at hz1))
  go_wp2
  all_goals
    refine bodyPost_ret (by simp [*, results, Try.results128, go_sem]; try rfl) rfl ⟨rfl, ?_⟩
    (repeat' (first | (with_reducible exact Below.refl _ _) | (with_reducible assumption) | (with_reducible refine Below.alloc ?_ ?_ _) | (with_reducible refine Below.setCell ?_ ?_ _) | (with_reducible refine Below.drew ?_) | (with_reducible refine below_drewN ?_ _) | (with_reducible refine below_via ?_ (by with_reducible assumption) ?_) | omega | (simp; done) | (simp; omega)))
set_option maxRecDepth 100000 in
set_option maxHeartbeats 1000000 in
theorem totalDoneNo (s : Int) (g : Nat) (w : World) (hs : ¬ In128 s) (hg : Blk w g 172 (tot s)) :
    Calls Try.prog 128 #[.pointer (some ⟨g, 0, none⟩)] w fun e w' => e = .returned (.tuple #[.agg #[.int .i64 0, .int .u64 0], .int .i64 7]) ∧ Below w.heap.size w w' := by
  have c0 := hg.cell 0
  have c1 := hg.cell 1
  have c2 := hg.cell 2
  have hlt := hg.lt
  simp [tot] at c0 c1 c2
  have h1 := whi_i (wrap128_is s)
  have e1 : (s / 340282366920938463463374607431768211456 == whi (wrap128 s) / 9223372036854775808) = false := by
    rw [beq_eq_false_iff_ne]; unfold In128 at hs; unfold whi wrap128; omega
  clear hg hs
  go_enter Try.func128, Try.ntmps128
  go_wp2
  go_region_held3 (fun w' => w'.cell? ⟨g, 0, none⟩ = some (.int .i64 (s / 340282366920938463463374607431768211456)) ∧ w'.cell? ⟨g, 1, none⟩ = some (.int .i64 (whi (wrap128 s))) ∧ w'.cell? ⟨g, 2, none⟩ = some (.int .u64 (wlo s))) (first | (simp [go_sem]; done) | (repeat' (first | (with_reducible assumption) | (with_reducible refine And.intro ?_ ?_) | (with_reducible refine cell_drew ?_) | (with_reducible refine cell_via (by with_reducible assumption) ?_ ?_) | (simp [*]; done) | (simp [go_sem]; done) | (with_reducible refine cell_alloc ?_ ?_) | (with_reducible refine cell_set_far ?_ ?_) | omega | (simp; omega)))) (first | (go_at_call 129; (with_reducible refine (wideRangedNo _ _ _).mono ?_); rintro e w1 ⟨rfl, hb1⟩; obtain ⟨fc1, fg1, hc1, hf1, hz1⟩ := bget hb1; try simp at hz1))
  go_wp2
  all_goals
    refine bodyPost_ret (by simp [*, results, Try.results128, go_sem]; try rfl) rfl ⟨rfl, ?_⟩
    (repeat' (first | (with_reducible exact Below.refl _ _) | (with_reducible assumption) | (with_reducible refine Below.alloc ?_ ?_ _) | (with_reducible refine Below.setCell ?_ ?_ _) | (with_reducible refine Below.drew ?_) | (with_reducible refine below_drewN ?_ _) | (with_reducible refine below_via ?_ (by with_reducible assumption) ?_) | omega | (simp; done) | (simp; omega)))
end Go.Proofs.Ytiidplinmempcaa

/- Contracts of wide.Sub, Add. -/
namespace Go.Proofs.Ytiidplinmempcaa
open Go.RowKit
theorem tot_zero : tot 0 = #[.int .i64 0, .int .i64 0, .int .u64 0] := by simp [tot, whi, wlo, wrap128]
theorem not_u64 (x : Int) (h : 0 ≤ x) (h' : x ≤ 18446744073709551615) : bits .xor .u64 IntKind.u64.max x = 18446744073709551615 - x := by
  obtain ⟨x, rfl⟩ := Int.eq_ofNat_of_zero_le h
  show IntKind.u64.wrap ((BitVec.ofInt 64 IntKind.u64.max ^^^ BitVec.ofInt 64 (x : Int)).toNat : Int) = _
  have e : BitVec.ofInt 64 IntKind.u64.max = BitVec.allOnes 64 := by decide
  rw [e, BitVec.allOnes_xor, BitVec.toNat_not, BitVec.ofInt_natCast, BitVec.toNat_ofNat, IntKind.wrap_u64]
  omega
theorem not_i64 (x : Int) (h : -9223372036854775808 ≤ x) (h' : x ≤ 9223372036854775807) : bits .xor .i64 (-1) x = - x - 1 := by
  show IntKind.i64.wrap ((BitVec.ofInt 64 (-1) ^^^ BitVec.ofInt 64 x).toNat : Int) = _
  have e : BitVec.ofInt 64 (-1) = BitVec.allOnes 64 := by decide
  rw [e, BitVec.allOnes_xor, BitVec.toNat_not, BitVec.toNat_ofInt, IntKind.wrap_i64]
  omega
theorem not_hi (b : Int) (hb : In128 b) : bits .xor .i64 (-1) (whi b) = whi (- b - 1) := by
  have h := whi_i hb
  rw [not_i64 _ h.1 h.2]; unfold whi; omega
theorem not_lo (b : Int) : bits .xor .u64 IntKind.u64.max (wlo b) = wlo (- b - 1) := by
  have h := wlo_u b
  rw [not_u64 _ h.1 h.2]; unfold wlo; omega
set_option maxRecDepth 100000 in
set_option maxHeartbeats 1000000 in
theorem wideSubYes (a b : Int) (w : World) (ha : In128 a) (hb : In128 b) (hab : In128 (a - b)) :
    Calls Try.prog 171 #[(.agg #[.int .i64 (whi (a)), .int .u64 (wlo (a))]), (.agg #[.int .i64 (whi (b)), .int .u64 (wlo (b))])] w fun e w' => e = .returned (.tuple #[(.agg #[.int .i64 (whi (a - b)), .int .u64 (wlo (a - b))]), .int .i64 0]) ∧ Below w.heap.size w w' := by
  have h3 := whi_i hb
  have h4 := wlo_u b
  have x1 := not_hi b hb
  have x2 := not_lo b
  have hb' : In128 (- b - 1) := by unfold In128 at hb ⊢; omega
  have q1 : 0 + a + (- b - 1) + 1 = a - b := by omega
  have i1 : IntKind.i64.signed = true := rfl
  have i2 : IntKind.u64.signed = false := rfl
  go_enter Try.func171, Try.ntmps171
  go_wp2_with fail
  refine (totalAdd 0 a (w.heap.size + 1 + 1 + 1) _ (by unfold InT; omega) ha (by rw [tot_zero]; (repeat' (first | (with_reducible assumption) | (with_reducible refine Blk.drew ?_) | (with_reducible refine Blk.here ?_) | (with_reducible refine Blk.alloc ?_ _) | (with_reducible refine Blk.far ?_ ?_ _) | (with_reducible refine Blk.below ?_ (by with_reducible assumption) ?_) | omega | (simp; done) | (simp; omega))))).mono ?_
  rintro e w1 ⟨rfl, hk1, ho1⟩
  obtain ⟨fc1, fg1, hc1, hf1, hz1⟩ := oget ho1
  simp at hz1
  have Hk1 := Lib.hid hk1
  have Ho1 := Lib.hid ho1
  clear hk1 ho1
  go_wp2_with fail
  refine (totalAdd (0 + a) (- b - 1) (w.heap.size + 1 + 1 + 1) _ (by unfold In128 at ha; unfold InT; omega) hb' Hk1.out).mono ?_
  rintro e w2 ⟨rfl, hk2, ho2⟩
  obtain ⟨fc2, fg2, hc2, hf2, hz2⟩ := oget ho2
  have Hk2 := Lib.hid hk2
  have Ho2 := Lib.hid ho2
  clear hk2 ho2
  go_wp2_with fail
  refine (wideOf 1 _ (by unfold In64; omega)).mono ?_
  rintro e w3 ⟨rfl, hb3⟩
  obtain ⟨fc3, fg3, hc3, hf3, hz3⟩ := bget hb3
  go_wp2_with fail
  refine (totalAdd (0 + a + (- b - 1)) 1 (w.heap.size + 1 + 1 + 1) _ (by unfold In128 at ha hb; unfold InT; omega) (by unfold In128; omega) (Hk2.out.below hb3 (by omega))).mono ?_
  rintro e w4 ⟨rfl, hk4, ho4⟩
  obtain ⟨fc4, fg4, hc4, hf4, hz4⟩ := oget ho4
  rw [q1] at hk4
  have Hk4 := Lib.hid hk4
  have Ho4 := Lib.hid ho4
  clear hk4 ho4 q1
  go_wp2_with fail
  refine (totalDoneYes (a - b) (w.heap.size + 1 + 1 + 1) _ hab Hk4.out).mono ?_
  rintro e w5 ⟨rfl, hb5⟩
  obtain ⟨fc5, fg5, hc5, hf5, hz5⟩ := bget hb5
  go_wp2
  all_goals
    refine bodyPost_ret (by simp [*, results, Try.results171, go_sem, ↓IntWalk.iteOmega]; try rfl) rfl ⟨rfl, ?_⟩
    refine Below.setCell (Below.setCell (below_via (below_only (below_via (below_only (below_only ?_ Ho1.out ?_ ?_) Ho2.out ?_ ?_) hb3 ?_) Ho4.out ?_ ?_) hb5 ?_) ?_ _) ?_ _ <;> first | (simp; omega) | (repeat' (first | (with_reducible exact Below.refl _ _) | (with_reducible assumption) | (with_reducible refine Below.alloc ?_ ?_ _) | (with_reducible refine Below.setCell ?_ ?_ _) | (with_reducible refine Below.drew ?_) | (with_reducible refine below_drewN ?_ _) | (with_reducible refine below_via ?_ (by with_reducible assumption) ?_) | omega | (simp; done) | (simp; omega)))
set_option maxRecDepth 100000 in
set_option maxHeartbeats 1000000 in
theorem wideSubNo (a b : Int) (w : World) (ha : In128 a) (hb : In128 b) (hab : ¬ In128 (a - b)) :
    Calls Try.prog 171 #[(.agg #[.int .i64 (whi (a)), .int .u64 (wlo (a))]), (.agg #[.int .i64 (whi (b)), .int .u64 (wlo (b))])] w fun e w' => e = .returned (.tuple #[.agg #[.int .i64 0, .int .u64 0], .int .i64 7]) ∧ Below w.heap.size w w' := by
  have h3 := whi_i hb
  have h4 := wlo_u b
  have x1 := not_hi b hb
  have x2 := not_lo b
  have hb' : In128 (- b - 1) := by unfold In128 at hb ⊢; omega
  have q1 : 0 + a + (- b - 1) + 1 = a - b := by omega
  have i1 : IntKind.i64.signed = true := rfl
  have i2 : IntKind.u64.signed = false := rfl
  go_enter Try.func171, Try.ntmps171
  go_wp2_with fail
  refine (totalAdd 0 a (w.heap.size + 1 + 1 + 1) _ (by unfold InT; omega) ha (by rw [tot_zero]; (repeat' (first | (with_reducible assumption) | (with_reducible refine Blk.drew ?_) | (with_reducible refine Blk.here ?_) | (with_reducible refine Blk.alloc ?_ _) | (with_reducible refine Blk.far ?_ ?_ _) | (with_reducible refine Blk.below ?_ (by with_reducible assumption) ?_) | omega | (simp; done) | (simp; omega))))).mono ?_
  rintro e w1 ⟨rfl, hk1, ho1⟩
  obtain ⟨fc1, fg1, hc1, hf1, hz1⟩ := oget ho1
  simp at hz1
  have Hk1 := Lib.hid hk1
  have Ho1 := Lib.hid ho1
  clear hk1 ho1
  go_wp2_with fail
  refine (totalAdd (0 + a) (- b - 1) (w.heap.size + 1 + 1 + 1) _ (by unfold In128 at ha; unfold InT; omega) hb' Hk1.out).mono ?_
  rintro e w2 ⟨rfl, hk2, ho2⟩
  obtain ⟨fc2, fg2, hc2, hf2, hz2⟩ := oget ho2
  have Hk2 := Lib.hid hk2
  have Ho2 := Lib.hid ho2
  clear hk2 ho2
  go_wp2_with fail
  refine (wideOf 1 _ (by unfold In64; omega)).mono ?_
  rintro e w3 ⟨rfl, hb3⟩
  obtain ⟨fc3, fg3, hc3, hf3, hz3⟩ := bget hb3
  go_wp2_with fail
  refine (totalAdd (0 + a + (- b - 1)) 1 (w.heap.size + 1 + 1 + 1) _ (by unfold In128 at ha hb; unfold InT; omega) (by unfold In128; omega) (Hk2.out.below hb3 (by omega))).mono ?_
  rintro e w4 ⟨rfl, hk4, ho4⟩
  obtain ⟨fc4, fg4, hc4, hf4, hz4⟩ := oget ho4
  rw [q1] at hk4
  have Hk4 := Lib.hid hk4
  have Ho4 := Lib.hid ho4
  clear hk4 ho4 q1
  go_wp2_with fail
  refine (totalDoneNo (a - b) (w.heap.size + 1 + 1 + 1) _ hab Hk4.out).mono ?_
  rintro e w5 ⟨rfl, hb5⟩
  obtain ⟨fc5, fg5, hc5, hf5, hz5⟩ := bget hb5
  go_wp2
  all_goals
    refine bodyPost_ret (by simp [*, results, Try.results171, go_sem, ↓IntWalk.iteOmega]; try rfl) rfl ⟨rfl, ?_⟩
    refine Below.setCell (Below.setCell (below_via (below_only (below_via (below_only (below_only ?_ Ho1.out ?_ ?_) Ho2.out ?_ ?_) hb3 ?_) Ho4.out ?_ ?_) hb5 ?_) ?_ _) ?_ _ <;> first | (simp; omega) | (repeat' (first | (with_reducible exact Below.refl _ _) | (with_reducible assumption) | (with_reducible refine Below.alloc ?_ ?_ _) | (with_reducible refine Below.setCell ?_ ?_ _) | (with_reducible refine Below.drew ?_) | (with_reducible refine below_drewN ?_ _) | (with_reducible refine below_via ?_ (by with_reducible assumption) ?_) | omega | (simp; done) | (simp; omega)))
end Go.Proofs.Ytiidplinmempcaa

/- Contracts of fix.narrow, Sub, Abs, Least, Most, Clip. -/
namespace Go.Proofs.Ytiidplinmempcaa
open Go.RowKit
set_option maxHeartbeats 400000 in
theorem narrowYes (n : Int) (w : World) (h : In64 n) :
    Calls Try.prog 169 #[(.agg #[.int .i64 (whi (n)), .int .u64 (wlo (n))]), .int .i64 0] w fun e w' => e = .returned (.tuple #[.int .i64 n, .int .i64 0]) ∧ Below w.heap.size w w' := by
  go_enter Try.func169, Try.ntmps169
  go_wp2_with (go_at_call 82; (with_reducible refine (wideIntYes _ _ h).mono ?_); rintro e w1 ⟨rfl, hb1⟩; obtain ⟨fc1, fg1, hc1, hf1, hz1⟩ := bget hb1; try simp at hz1)
  go_ret2
  exact ⟨rfl, by (repeat' (first | (with_reducible exact Below.refl _ _) | (with_reducible assumption) | (with_reducible refine Below.alloc ?_ ?_ _) | (with_reducible refine Below.setCell ?_ ?_ _) | (with_reducible refine Below.drew ?_) | (with_reducible refine below_drewN ?_ _) | (with_reducible refine below_via ?_ (by with_reducible assumption) ?_) | omega | (simp; done) | (simp; omega)))⟩
set_option maxHeartbeats 400000 in
theorem narrowNo (n : Int) (w : World) (h : In128 n) (h' : ¬ In64 n) :
    Calls Try.prog 169 #[(.agg #[.int .i64 (whi (n)), .int .u64 (wlo (n))]), .int .i64 0] w fun e w' => e = .returned (.tuple #[.int .i64 0, .int .i64 7]) ∧ Below w.heap.size w w' := by
  go_enter Try.func169, Try.ntmps169
  go_wp2_with (go_at_call 82; (with_reducible refine (wideIntNo _ _ h h').mono ?_); rintro e w1 ⟨rfl, hb1⟩; obtain ⟨fc1, fg1, hc1, hf1, hz1⟩ := bget hb1; try simp at hz1)
  go_ret2
  exact ⟨rfl, by (repeat' (first | (with_reducible exact Below.refl _ _) | (with_reducible assumption) | (with_reducible refine Below.alloc ?_ ?_ _) | (with_reducible refine Below.setCell ?_ ?_ _) | (with_reducible refine Below.drew ?_) | (with_reducible refine below_drewN ?_ _) | (with_reducible refine below_via ?_ (by with_reducible assumption) ?_) | omega | (simp; done) | (simp; omega)))⟩
set_option maxHeartbeats 400000 in
theorem narrowErr (a b e : Int) (w : World) (h : (e != 0) = true) :
    Calls Try.prog 169 #[.agg #[.int .i64 a, .int .u64 b], .int .i64 e] w fun e' w' => e' = .returned (.tuple #[.int .i64 0, .int .i64 e]) ∧ Below w.heap.size w w' := by
  go_enter Try.func169, Try.ntmps169
  go_wp2
  go_ret2
  exact ⟨rfl, by (repeat' (first | (with_reducible exact Below.refl _ _) | (with_reducible assumption) | (with_reducible refine Below.alloc ?_ ?_ _) | (with_reducible refine Below.setCell ?_ ?_ _) | (with_reducible refine Below.drew ?_) | (with_reducible refine below_drewN ?_ _) | (with_reducible refine below_via ?_ (by with_reducible assumption) ?_) | omega | (simp; done) | (simp; omega)))⟩
set_option maxHeartbeats 400000 in
theorem fixSubYes (a b : Int) (w : World) (ha : In64 a) (hb : In64 b) (h : In64 (a - b)) :
    Calls Try.prog 142 #[.int .i64 a, .int .i64 b] w fun e w' => e = .returned (.tuple #[.int .i64 (a - b), .int .i64 0]) ∧ Below w.heap.size w w' := by
  have a1 := in128_of64 ha
  have b1 := in128_of64 hb
  have c1 := in128_of64 h
  go_enter Try.func142, Try.ntmps142
  go_wp2_with (first | (go_at_call 103; (with_reducible refine (wideOf a _ ha).mono ?_); rintro e w1 ⟨rfl, hb1⟩; obtain ⟨fc1, fg1, hc1, hf1, hz1⟩ := bget hb1; try simp at hz1) | (go_at_call 103; (with_reducible refine (wideOf b _ hb).mono ?_); rintro e w1 ⟨rfl, hb1⟩; obtain ⟨fc1, fg1, hc1, hf1, hz1⟩ := bget hb1; try simp at hz1) | (go_at_call 171; (with_reducible refine (wideSubYes a b _ a1 b1 c1).mono ?_); rintro e w1 ⟨rfl, hb1⟩; obtain ⟨fc1, fg1, hc1, hf1, hz1⟩ := bget hb1; try simp at hz1) | (go_at_call 169; (with_reducible refine (narrowYes _ _ h).mono ?_); rintro e w1 ⟨rfl, hb1⟩; obtain ⟨fc1, fg1, hc1, hf1, hz1⟩ := bget hb1; try simp at hz1))
  go_ret2
  exact ⟨rfl, by (repeat' (first | (with_reducible exact Below.refl _ _) | (with_reducible assumption) | (with_reducible refine Below.alloc ?_ ?_ _) | (with_reducible refine Below.setCell ?_ ?_ _) | (with_reducible refine Below.drew ?_) | (with_reducible refine below_drewN ?_ _) | (with_reducible refine below_via ?_ (by with_reducible assumption) ?_) | omega | (simp; done) | (simp; omega)))⟩
set_option maxHeartbeats 400000 in
theorem fixSubNo (a b : Int) (w : World) (ha : In64 a) (hb : In64 b) (h : ¬ In64 (a - b)) :
    Calls Try.prog 142 #[.int .i64 a, .int .i64 b] w fun e w' => e = .returned (.tuple #[.int .i64 0, .int .i64 7]) ∧ Below w.heap.size w w' := by
  have a1 := in128_of64 ha
  have b1 := in128_of64 hb
  have c1 : In128 (a - b) := by unfold In64 at ha hb; unfold In128; omega
  go_enter Try.func142, Try.ntmps142
  go_wp2_with (first | (go_at_call 103; (with_reducible refine (wideOf a _ ha).mono ?_); rintro e w1 ⟨rfl, hb1⟩; obtain ⟨fc1, fg1, hc1, hf1, hz1⟩ := bget hb1; try simp at hz1) | (go_at_call 103; (with_reducible refine (wideOf b _ hb).mono ?_); rintro e w1 ⟨rfl, hb1⟩; obtain ⟨fc1, fg1, hc1, hf1, hz1⟩ := bget hb1; try simp at hz1) | (go_at_call 171; (with_reducible refine (wideSubYes a b _ a1 b1 c1).mono ?_); rintro e w1 ⟨rfl, hb1⟩; obtain ⟨fc1, fg1, hc1, hf1, hz1⟩ := bget hb1; try simp at hz1) | (go_at_call 169; (with_reducible refine (narrowNo _ _ c1 h).mono ?_); rintro e w1 ⟨rfl, hb1⟩; obtain ⟨fc1, fg1, hc1, hf1, hz1⟩ := bget hb1; try simp at hz1))
  go_ret2
  exact ⟨rfl, by (repeat' (first | (with_reducible exact Below.refl _ _) | (with_reducible assumption) | (with_reducible refine Below.alloc ?_ ?_ _) | (with_reducible refine Below.setCell ?_ ?_ _) | (with_reducible refine Below.drew ?_) | (with_reducible refine below_drewN ?_ _) | (with_reducible refine below_via ?_ (by with_reducible assumption) ?_) | omega | (simp; done) | (simp; omega)))⟩
def minL (a : Int) (l : List Int) : Int := l.foldl min a
def maxL (a : Int) (l : List Int) : Int := l.foldl max a
theorem foldl_take (f : Int → Int → Int) (a : Int) (l : List Int) (k : Nat) (h : k < l.length) : (l.take (k + 1)).foldl f a = f ((l.take k).foldl f a) l[k] := by
  rw [List.take_succ_eq_append_getElem h, List.foldl_append]; rfl
def clip (a lo hi : Int) : Int := max lo (min a hi)
theorem maxL_one (a b : Int) : maxL a [b] = max a b := rfl
theorem minL_one (a b : Int) : minL a [b] = min a b := rfl
theorem rd_int1 {w : World} {g o : Nat} {b : Int} (hg : g < w.heap.size) (h0 : w.cell? ⟨g, o, none⟩ = some (.int .i64 b)) : Rd w (some ⟨g, o, none⟩) 1 ([b].map encI) := by
  intro i r hr
  match i, hr with
  | 0, hr =>
    simp at hr
    subst hr
    refine ⟨g, o, rfl, hg, fun j v hv => ?_⟩
    match j, hv with
    | 0, hv => simp [encI] at hv; subst hv; simpa using h0
end Go.Proofs.Ytiidplinmempcaa
