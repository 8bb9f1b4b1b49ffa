/- Joined: Wide1, Wide2, LotT, Lot1. -/
import Derived.Test.YtiidplinmempcaaJz1
import Derived.Test.YtiidplinmempcaaJz2
import Derived.Test.YtiidplinmempcaaRows
import Derived.Shelf.Spec.BitsCarry
import Derived.WalkKit
import Derived.WalkSpells
import Derived.WalkLawsBesides
import Derived.BigQuiet
import Derived.Deep.RegionHeld3
import Derived.Handy
import Derived.Deep.RegionLaw
import Derived.Outline
/- Contracts of the functions of wide that call nothing but bits.Add64, bits.Sub64, bits.Mul64. -/
namespace Go.Proofs.Ytiidplinmempcaa
open Go.RowKit

theorem add64 (x y c : Int) (hx : 0 ≤ x) (hy : 0 ≤ y) (hc0 : 0 ≤ c) (hc : c ≤ 1) (w : World) : (callFunc 162 #[.int .u64 x, .int .u64 y, .int .u64 c]).run Try.prog w =
    .ok (.value (.tuple #[.int .u64 (wlo (x + y + c)), .int .u64 (whi (x + y + c))])) w := by
  obtain ⟨x, rfl⟩ := Int.eq_ofNat_of_zero_le hx
  obtain ⟨y, rfl⟩ := Int.eq_ofNat_of_zero_le hy
  obtain ⟨c, rfl⟩ := Int.eq_ofNat_of_zero_le hc0
  rw [run_callFunc_extern Try.func162 (by kernel_rfl) (by kernel_rfl) (by kernel_rfl) (e := add64Entry) (by kernel_rfl), run_add64 x y c (by omega) (by omega) (by omega) (by omega)]
  simp only [Result.andThen, wlo, whi]
theorem sub64 (x y b : Int) (hx : 0 ≤ x) (hx' : x ≤ 18446744073709551615) (hy : 0 ≤ y) (hy' : y ≤ 18446744073709551615) (hb0 : 0 ≤ b) (hb : b ≤ 1) (w : World) : (callFunc 163 #[.int .u64 x, .int .u64 y, .int .u64 b]).run Try.prog w =
    .ok (.value (.tuple #[.int .u64 (wlo (x - y - b)), .int .u64 (- whi (x - y - b))])) w := by
  obtain ⟨x, rfl⟩ := Int.eq_ofNat_of_zero_le hx
  obtain ⟨y, rfl⟩ := Int.eq_ofNat_of_zero_le hy
  obtain ⟨b, rfl⟩ := Int.eq_ofNat_of_zero_le hb0
  rw [run_callFunc_extern Try.func163 (by kernel_rfl) (by kernel_rfl) (by kernel_rfl) (e := sub64Entry) (by kernel_rfl), run_sub64 x y b (by omega)]
  simp only [Result.andThen, wlo, whi]
  have e1 : (((x + 18446744073709551616 - y - b) % 18446744073709551616 : Nat) : Int) = ((x : Int) - y - b) % 18446744073709551616 := by omega
  have e2 : ((if x < y + b then 1 else 0 : Nat) : Int) = - (((x : Int) - y - b) / 18446744073709551616) := by split <;> omega
  rw [e1, e2]
theorem sub64_0 (x y : Int) (hx : 0 ≤ x) (hx' : x ≤ 18446744073709551615) (hy : 0 ≤ y) (hy' : y ≤ 18446744073709551615) (w : World) : (callFunc 163 #[.int .u64 x, .int .u64 y, .int .u64 0]).run Try.prog w =
    .ok (.value (.tuple #[.int .u64 (wlo (x - y)), .int .u64 (- whi (x - y))])) w := by
  simpa using sub64 x y 0 hx hx' hy hy' (Int.le_refl 0) (by decide) w

set_option maxHeartbeats 400000 in
theorem wideOf (n : Int) (w : World) (h : In64 n) :
    Calls Try.prog 103 #[.int .i64 n] w fun e w' => e = .returned (.agg #[.int .i64 (whi n), .int .u64 (wlo n)]) ∧ Below w.heap.size w w' := by
  unfold In64 at h
  go_enter Try.func103, Try.ntmps103
  go_wp2
  go_returns
  exact ⟨ret_agg2 (by unfold whi; omega) (by rw [IntKind.wrap_u64]; rfl), (Below.refl _ _).alloc (Nat.le_refl _) _⟩

set_option maxHeartbeats 400000 in
theorem wideBelow (n : Int) (w : World) (h : In128 n) :
    Calls Try.prog 132 #[.agg #[.int .i64 (whi n), .int .u64 (wlo n)]] w fun e w' => e = .returned (.bool (decide (n < 0))) ∧ Below w.heap.size w w' := by
  have h1 := whi_i h
  go_enter Try.func132, Try.ntmps132
  go_wp2
  go_returns
  exact ⟨ret_bool (by unfold whi; omega), (Below.refl _ _).alloc (Nat.le_refl _) _⟩

set_option maxHeartbeats 400000 in
theorem wideSize (n : Int) (w : World) (h : In128 n) :
    Calls Try.prog 130 #[(.agg #[.int .i64 (whi (n)), .int .u64 (wlo (n))])] w fun e w' => e = .returned (.agg #[.int .u64 (whi (iabs n)), .int .u64 (wlo (iabs n))]) ∧ Below w.heap.size w w' := by
  have h1 := whi_i h
  have h2 := wlo_u n
  by_cases hn : n < 0
  · have hd : decide (n < 0) = true := by simpa using hn
    have e1 := sub64_0 0 (wlo n) (by omega) (by omega) h2.1 h2.2
    have h3 : 0 ≤ - whi (- wlo n) ∧ - whi (- wlo n) ≤ 1 := by unfold whi; omega
    have h4 : 0 ≤ IntKind.u64.wrap (whi n) ∧ IntKind.u64.wrap (whi n) ≤ 18446744073709551615 := by rw [IntKind.wrap_u64]; omega
    have e2 := sub64 0 (IntKind.u64.wrap (whi n)) (- whi (- wlo n)) (by omega) (by omega) h4.1 h4.2 h3.1 h3.2
    have e3 : wlo (- wlo n) = wlo (iabs n) := by rw [iabs_neg hn]; unfold wlo; omega
    have e4 : wlo (- IntKind.u64.wrap (whi n) - - whi (- wlo n)) = whi (iabs n) := by rw [iabs_neg hn]; unfold In128 at h; rw [IntKind.wrap_u64]; unfold wlo whi; omega
    simp only [Int.zero_sub] at e1 e2
    rw [e3] at e1
    rw [e4] at e2
    clear e3 e4
    obtain ⟨b, hb⟩ : ∃ b, b = - whi (- wlo n) := ⟨_, rfl⟩
    rw [← hb] at e1 e2 h3
    clear hb
    go_enter Try.func130, Try.ntmps130
    go_wp2_with (go_at_call 132; (with_reducible refine (hd ▸ wideBelow n _ h).mono ?_); rintro e w1 ⟨rfl, hb1⟩; obtain ⟨fc1, fg1, hc1, hf1, hz1⟩ := bget hb1; try simp at hz1)
    refine bodyPost_ret (by simp [results, Try.results130, go_sem, hc1]; try rfl) rfl ⟨rfl, ?_⟩
    (repeat' (first | (with_reducible exact Below.refl _ _) | (with_reducible assumption) | (with_reducible refine Below.alloc ?_ ?_ _) | (with_reducible refine Below.setCell ?_ ?_ _) | (with_reducible refine Below.drew ?_) | (with_reducible refine below_drewN ?_ _) | (with_reducible refine below_via ?_ (by with_reducible assumption) ?_) | omega | (simp; done) | (simp; omega)))
  · have hd : decide (n < 0) = false := by simpa using hn
    have e5 : 0 ≤ whi n := by unfold whi; omega
    rw [iabs_pos (by omega)]
    go_enter Try.func130, Try.ntmps130
    go_wp2_with (go_at_call 132; (with_reducible refine (hd ▸ wideBelow n _ h).mono ?_); rintro e w1 ⟨rfl, hb1⟩; obtain ⟨fc1, fg1, hc1, hf1, hz1⟩ := bget hb1; try simp at hz1)
    refine bodyPost_ret (by simp [results, Try.results130, go_sem, hc1]; try rfl) rfl ⟨rfl, ?_⟩
    (repeat' (first | (with_reducible exact Below.refl _ _) | (with_reducible assumption) | (with_reducible refine Below.alloc ?_ ?_ _) | (with_reducible refine Below.setCell ?_ ?_ _) | (with_reducible refine Below.drew ?_) | (with_reducible refine below_drewN ?_ _) | (with_reducible refine below_via ?_ (by with_reducible assumption) ?_) | omega | (simp; done) | (simp; omega)))

set_option maxHeartbeats 400000 in
theorem wideSignedPos (m : Int) (w : World) (h0 : 0 ≤ m) (h : m < 340282366920938463463374607431768211456) :
    Calls Try.prog 131 #[(.agg #[.int .u64 (whi (m)), .int .u64 (wlo (m))]), .bool false] w fun e w' => e = .returned (.tuple #[(.agg #[.int .i64 (whi (wrap128 m)), .int .u64 (wlo (wrap128 m))]), .bool (decide (m < 170141183460469231731687303715884105728))]) ∧ Below w.heap.size w w' := by
  have h1 : 0 ≤ whi m ∧ whi m ≤ 18446744073709551615 := by unfold whi; omega
  have h2 := wlo_u m
  have e1 : IntKind.i64.wrap (whi m) = whi (wrap128 m) := by rw [IntKind.wrap_i64]; unfold whi wrap128; omega
  have e2 : wlo m = wlo (wrap128 m) := by unfold wlo wrap128; omega
  go_enter Try.func131, Try.ntmps131
  go_wp2
  go_region
  all_goals
    go_wp2
    refine bodyPost_ret (by simp [results, Try.results131, go_sem, ]; try rfl) rfl ⟨ret_tup2 rfl (bool_eq (by unfold whi; omega)), ?_⟩
    (repeat' (first | (with_reducible exact Below.refl _ _) | (with_reducible assumption) | (with_reducible refine Below.alloc ?_ ?_ _) | (with_reducible refine Below.setCell ?_ ?_ _) | (with_reducible refine Below.drew ?_) | (with_reducible refine below_drewN ?_ _) | (with_reducible refine below_via ?_ (by with_reducible assumption) ?_) | omega | (simp; done) | (simp; omega)))

set_option maxHeartbeats 1000000 in
theorem wideSignedNeg (m : Int) (w : World) (h0 : 0 ≤ m) (h : m < 340282366920938463463374607431768211456) :
    Calls Try.prog 131 #[(.agg #[.int .u64 (whi (m)), .int .u64 (wlo (m))]), .bool true] w fun e w' => e = .returned (.tuple #[(.agg #[.int .i64 (whi (wrap128 (- m))), .int .u64 (wlo (wrap128 (- m)))]), .bool (decide (m ≤ 170141183460469231731687303715884105728))]) ∧ Below w.heap.size w w' := by
  have h1 : 0 ≤ whi m ∧ whi m ≤ 18446744073709551615 := by unfold whi; omega
  have h2 := wlo_u m
  have e1 := sub64_0 0 (wlo m) (by omega) (by omega) h2.1 h2.2
  have h3 : 0 ≤ - whi (- wlo m) ∧ - whi (- wlo m) ≤ 1 := by unfold whi; omega
  have e2 := sub64 0 (whi m) (- whi (- wlo m)) (by omega) (by omega) h1.1 h1.2 h3.1 h3.2
  have e3 : wlo (- wlo m) = wlo (wrap128 (- m)) := by unfold wlo wrap128; omega
  have e4 : IntKind.i64.wrap (wlo (- whi m - - whi (- wlo m))) = whi (wrap128 (- m)) := by rw [IntKind.wrap_i64]; unfold wlo whi wrap128; omega
  simp only [Int.zero_sub] at e1 e2
  rw [e3] at e1
  obtain ⟨b, hb⟩ : ∃ b, b = - whi (- wlo m) := ⟨_, rfl⟩
  rw [← hb] at e1 e2 e4 h3
  obtain ⟨c, hc⟩ : ∃ c, c = wlo (- whi m - b) := ⟨_, rfl⟩
  have h5 := wlo_u (- whi m - b)
  rw [← hc] at e2 e4 h5
  clear hb e3 hc
  have hfin : m ≤ 170141183460469231731687303715884105728 ↔ whi m < 9223372036854775808 ∨ (whi m = 9223372036854775808 ∧ wlo m = 0) := by unfold whi wlo; omega
  rw [show decide (m ≤ 170141183460469231731687303715884105728) = decide (whi m < 9223372036854775808 ∨ (whi m = 9223372036854775808 ∧ wlo m = 0)) from by simp only [hfin]]
  clear hfin h0 h
  by_cases c1 : whi m < 9223372036854775808
  · have d1 : decide (whi m < 9223372036854775808) = true := by simpa using c1
    go_enter Try.func131, Try.ntmps131
    go_wp2
    go_region
    all_goals
      go_wp2
      refine bodyPost_ret (by simp [results, Try.results131, go_sem, ]; try rfl) rfl ⟨ret_tup2 rfl (by simp [c1]), ?_⟩
      (repeat' (first | (with_reducible exact Below.refl _ _) | (with_reducible assumption) | (with_reducible refine Below.alloc ?_ ?_ _) | (with_reducible refine Below.setCell ?_ ?_ _) | (with_reducible refine Below.drew ?_) | (with_reducible refine below_drewN ?_ _) | (with_reducible refine below_via ?_ (by with_reducible assumption) ?_) | omega | (simp; done) | (simp; omega)))
  · have d1 : decide (whi m < 9223372036854775808) = false := by simpa using c1
    by_cases c2 : whi m = 9223372036854775808
    · have d2 : (whi m == 9223372036854775808) = true := by simpa using c2
      by_cases c3 : wlo m = 0
      · have d3 : (wlo m == 0) = true := by simpa using c3
        have C2 : Hid (whi m = 9223372036854775808) := c2
        have C3 : Hid (wlo m = 0) := c3
        clear c2 c3
        go_enter Try.func131, Try.ntmps131
        go_wp2
        go_region
        all_goals
          go_wp2
          refine bodyPost_ret (by simp [results, Try.results131, go_sem, ]; try rfl) rfl ⟨ret_tup2 rfl (by simp [C2.out, C3.out]), ?_⟩
          (repeat' (first | (with_reducible exact Below.refl _ _) | (with_reducible assumption) | (with_reducible refine Below.alloc ?_ ?_ _) | (with_reducible refine Below.setCell ?_ ?_ _) | (with_reducible refine Below.drew ?_) | (with_reducible refine below_drewN ?_ _) | (with_reducible refine below_via ?_ (by with_reducible assumption) ?_) | omega | (simp; done) | (simp; omega)))
      · have d3 : (wlo m == 0) = false := by simpa using c3
        have C2 : Hid (whi m = 9223372036854775808) := c2
        clear c2
        go_enter Try.func131, Try.ntmps131
        go_wp2
        go_region
        all_goals
          go_wp2
          refine bodyPost_ret (by simp [results, Try.results131, go_sem, ]; try rfl) rfl ⟨ret_tup2 rfl (by simp [C2.out, c3]), ?_⟩
          (repeat' (first | (with_reducible exact Below.refl _ _) | (with_reducible assumption) | (with_reducible refine Below.alloc ?_ ?_ _) | (with_reducible refine Below.setCell ?_ ?_ _) | (with_reducible refine Below.drew ?_) | (with_reducible refine below_drewN ?_ _) | (with_reducible refine below_via ?_ (by with_reducible assumption) ?_) | omega | (simp; done) | (simp; omega)))
    · have d2 : (whi m == 9223372036854775808) = false := by simpa using c2
      go_enter Try.func131, Try.ntmps131
      go_wp2
      go_region
      all_goals
        go_wp2
        refine bodyPost_ret (by simp [results, Try.results131, go_sem, ]; try rfl) rfl ⟨ret_tup2 rfl (by simp [c2]; omega), ?_⟩
        (repeat' (first | (with_reducible exact Below.refl _ _) | (with_reducible assumption) | (with_reducible refine Below.alloc ?_ ?_ _) | (with_reducible refine Below.setCell ?_ ?_ _) | (with_reducible refine Below.drew ?_) | (with_reducible refine below_drewN ?_ _) | (with_reducible refine below_via ?_ (by with_reducible assumption) ?_) | omega | (simp; done) | (simp; omega)))

theorem wideSigned (s : Bool) (m : Int) (w : World) (h0 : 0 ≤ m) (h : m < 340282366920938463463374607431768211456) :
    Calls Try.prog 131 #[(.agg #[.int .u64 (whi (m)), .int .u64 (wlo (m))]), .bool s] w fun e w' => e = .returned (.tuple #[(.agg #[.int .i64 (whi (wrap128 (sgn s m))), .int .u64 (wlo (wrap128 (sgn s m)))]), .bool (in128 (sgn s m))]) ∧ Below w.heap.size w w' := by
  cases s
  · refine (wideSignedPos m w h0 h).mono ?_
    rintro e w' ⟨rfl, hb⟩
    exact ⟨ret_tup2 rfl (bool_eq (by simp [sgn]; omega)), hb⟩
  · refine (wideSignedNeg m w h0 h).mono ?_
    rintro e w' ⟨rfl, hb⟩
    exact ⟨ret_tup2 rfl (bool_eq (by simp [sgn]; omega)), hb⟩
theorem mul64 (x y : Int) (w : World) (hx : 0 ≤ x) (hx' : x ≤ 18446744073709551615) (hy : 0 ≤ y) (hy' : y ≤ 18446744073709551615) :
    Calls Try.prog 161 #[.int .u64 x, .int .u64 y] w fun e w' => e = .returned (.tuple #[.int .u64 (whi (x * y)), .int .u64 (wlo (x * y))]) ∧ w = w' := by
  obtain ⟨x, rfl⟩ := Int.eq_ofNat_of_zero_le hx
  obtain ⟨y, rfl⟩ := Int.eq_ofNat_of_zero_le hy
  refine (Try.bits_Mul64 x y (by omega) (by omega) w).mono ?_
  rintro e w' ⟨rfl, rfl⟩
  refine ⟨ret_tup2 ?_ ?_, rfl⟩ <;> simp [whi, wlo]

set_option maxHeartbeats 400000 in
theorem wideRangedYes (n : Int) (w : World) :
    Calls Try.prog 129 #[(.agg #[.int .i64 (whi (n)), .int .u64 (wlo (n))]), .bool true] w fun e w' => e = .returned (.tuple #[(.agg #[.int .i64 (whi (n)), .int .u64 (wlo (n))]), .int .i64 0]) ∧ Below w.heap.size w w' := by
  go_enter Try.func129, Try.ntmps129
  go_wp2
  refine bodyPost_ret (by simp [results, Try.results129, go_sem, ]; try rfl) rfl ⟨rfl, ?_⟩
  (repeat' (first | (with_reducible exact Below.refl _ _) | (with_reducible assumption) | (with_reducible refine Below.alloc ?_ ?_ _) | (with_reducible refine Below.setCell ?_ ?_ _) | (with_reducible refine Below.drew ?_) | (with_reducible refine below_drewN ?_ _) | (with_reducible refine below_via ?_ (by with_reducible assumption) ?_) | omega | (simp; done) | (simp; omega)))
set_option maxHeartbeats 400000 in
theorem wideRangedNo (a b : Int) (w : World) :
    Calls Try.prog 129 #[.agg #[.int .i64 a, .int .u64 b], .bool false] w fun e w' => e = .returned (.tuple #[.agg #[.int .i64 0, .int .u64 0], .int .i64 7]) ∧ Below w.heap.size w w' := by
  go_enter Try.func129, Try.ntmps129
  go_wp2
  refine bodyPost_ret (by simp [results, Try.results129, go_sem, ]; try rfl) rfl ⟨rfl, ?_⟩
  (repeat' (first | (with_reducible exact Below.refl _ _) | (with_reducible assumption) | (with_reducible refine Below.alloc ?_ ?_ _) | (with_reducible refine Below.setCell ?_ ?_ _) | (with_reducible refine Below.drew ?_) | (with_reducible refine below_drewN ?_ _) | (with_reducible refine below_via ?_ (by with_reducible assumption) ?_) | omega | (simp; done) | (simp; omega)))

end Go.Proofs.Ytiidplinmempcaa

/- Contracts of wide.Int, Cmp, Sign, Mul, Neg. -/
namespace Go.Proofs.Ytiidplinmempcaa
open Go.RowKit

set_option maxHeartbeats 400000 in
theorem wideIntYes (n : Int) (w : World) (h : In64 n) :
    Calls Try.prog 82 #[(.agg #[.int .i64 (whi (n)), .int .u64 (wlo (n))])] w fun e w' => e = .returned (.tuple #[.int .i64 n, .int .i64 0]) ∧ Below w.heap.size w w' := by
  have h2 := wlo_u n
  have e1 : IntKind.i64.wrap (wlo n) = n := by unfold In64 at h; rw [IntKind.wrap_i64]; unfold wlo; omega
  go_enter Try.func82, Try.ntmps82
  go_wp2
  go_region_held3 (fun w' => w'.cell? ⟨w.heap.size, 0, none⟩ = some (.int .i64 (whi n)) ∧ w'.cell? ⟨w.heap.size, 1, none⟩ = some (.int .u64 (wlo n))) (first | (simp [go_sem]; done) | (repeat' (first | (with_reducible assumption) | (with_reducible refine And.intro ?_ ?_) | (with_reducible refine cell_drew ?_) | (with_reducible refine cell_via (by with_reducible assumption) ?_ ?_) | (simp [*]; done) | (simp [go_sem]; done) | (with_reducible refine cell_alloc ?_ ?_) | (with_reducible refine cell_set_far ?_ ?_) | omega | (simp; omega)))) (first | (go_at_call 103; (with_reducible refine (wideOf n _ h).mono ?_); rintro e w1 ⟨rfl, hb1⟩; obtain ⟨fc1, fg1, hc1, hf1, hz1⟩ := bget hb1; try simp at hz1))
  go_wp2
  go_ret2
  exact ⟨rfl, by (repeat' (first | (with_reducible exact Below.refl _ _) | (with_reducible assumption) | (with_reducible refine Below.alloc ?_ ?_ _) | (with_reducible refine Below.setCell ?_ ?_ _) | (with_reducible refine Below.drew ?_) | (with_reducible refine below_drewN ?_ _) | (with_reducible refine below_via ?_ (by with_reducible assumption) ?_) | omega | (simp; done) | (simp; omega)))⟩
set_option maxHeartbeats 400000 in
theorem wideIntNo (n : Int) (w : World) (h : In128 n) (hno : ¬ In64 n) :
    Calls Try.prog 82 #[(.agg #[.int .i64 (whi (n)), .int .u64 (wlo (n))])] w fun e w' => e = .returned (.tuple #[.int .i64 0, .int .i64 7]) ∧ Below w.heap.size w w' := by
  have h2 := wlo_u n
  obtain ⟨m, hm⟩ : ∃ m, m = IntKind.i64.wrap (wlo n) := ⟨_, rfl⟩
  have hm64 : In64 m := by rw [hm]; unfold In64; rw [IntKind.wrap_i64]; omega
  have hne : (whi m == whi n) = false := by
    rw [beq_eq_false_iff_ne]; intro he; apply hno; rw [hm] at he; rw [IntKind.wrap_i64] at he; unfold In128 at h; unfold In64; unfold whi wlo at *; omega
  have e1 : IntKind.i64.wrap (wlo n) = m := hm.symm
  clear hm
  go_enter Try.func82, Try.ntmps82
  go_wp2
  go_region_held3 (fun w' => w'.cell? ⟨w.heap.size, 0, none⟩ = some (.int .i64 (whi n)) ∧ w'.cell? ⟨w.heap.size, 1, none⟩ = some (.int .u64 (wlo n))) (first | (simp [go_sem]; done) | (repeat' (first | (with_reducible assumption) | (with_reducible refine And.intro ?_ ?_) | (with_reducible refine cell_drew ?_) | (with_reducible refine cell_via (by with_reducible assumption) ?_ ?_) | (simp [*]; done) | (simp [go_sem]; done) | (with_reducible refine cell_alloc ?_ ?_) | (with_reducible refine cell_set_far ?_ ?_) | omega | (simp; omega)))) (first | (go_at_call 103; (with_reducible refine (wideOf m _ hm64).mono ?_); rintro e w1 ⟨rfl, hb1⟩; obtain ⟨fc1, fg1, hc1, hf1, hz1⟩ := bget hb1; try simp at hz1))
  go_wp2
  go_ret2
  exact ⟨rfl, by (repeat' (first | (with_reducible exact Below.refl _ _) | (with_reducible assumption) | (with_reducible refine Below.alloc ?_ ?_ _) | (with_reducible refine Below.setCell ?_ ?_ _) | (with_reducible refine Below.drew ?_) | (with_reducible refine below_drewN ?_ _) | (with_reducible refine below_via ?_ (by with_reducible assumption) ?_) | omega | (simp; done) | (simp; omega)))⟩

/-- The order of two numbers. -/
def ord (a b : Int) : Int := if a < b then -1 else if b < a then 1 else 0

set_option maxHeartbeats 400000 in
theorem cmpInt64 (a b : Int) (w : World) :
    Calls Try.prog 166 #[.int .i64 a, .int .i64 b] w fun e w' => e = .returned (.int .i64 (ord a b)) ∧ w = w' := by
  go_enter Try.func166, Try.ntmps166
  go_wp2
  all_goals (go_ret; exact ⟨ret_int (by unfold ord; repeat' split <;> omega), rfl⟩)
set_option maxHeartbeats 400000 in
theorem cmpUint64 (a b : Int) (w : World) :
    Calls Try.prog 167 #[.int .u64 a, .int .u64 b] w fun e w' => e = .returned (.int .i64 (ord a b)) ∧ w = w' := by
  go_enter Try.func167, Try.ntmps167
  go_wp2
  all_goals (go_ret; exact ⟨ret_int (by unfold ord; repeat' split <;> omega), rfl⟩)

def orOf (a b : Int) : Int := if a = 0 then b else a
set_option maxHeartbeats 400000 in
theorem cmpOr2 (a b : Int) (w : World) (g o c : Nat) (h0 : w.cell? ⟨g, o, none⟩ = some (.int .i64 a)) (h1 : w.cell? ⟨g, o + 1, none⟩ = some (.int .i64 b)) :
    Calls Try.prog 165 #[.slice (some ⟨g, o, none⟩) 2 c] w fun e w' => e = .returned (.int .i64 (orOf a b)) ∧ w = w' := by
  by_cases ha : a = 0
  · subst ha
    have d1 : ((0 : Int) != 0) = false := rfl
    by_cases hb : b = 0
    · subst hb
      go_enter Try.func165, Try.ntmps165
      go_wp2
      go_rounds 3
      go_ret
      exact ⟨rfl, rfl⟩
    · have d2 : (b != 0) = true := by simpa using hb
      go_enter Try.func165, Try.ntmps165
      go_wp2
      go_rounds 3
      go_ret
      exact ⟨rfl, rfl⟩
  · have d1 : (a != 0) = true := by simpa using ha
    go_enter Try.func165, Try.ntmps165
    go_wp2
    go_rounds 3
    go_ret
    exact ⟨ret_int (by simp [orOf, ha]), rfl⟩

theorem ord_wide (a b : Int) : orOf (ord (whi a) (whi b)) (ord (wlo a) (wlo b)) = ord a b := by
  unfold orOf ord whi wlo; repeat' split <;> omega
set_option maxHeartbeats 400000 in
theorem wideCmp (a b : Int) (w : World) (ha : In128 a) (hb : In128 b) :
    Calls Try.prog 136 #[(.agg #[.int .i64 (whi (a)), .int .u64 (wlo (a))]), (.agg #[.int .i64 (whi (b)), .int .u64 (wlo (b))])] w fun e w' => e = .returned (.int .i64 (ord a b)) ∧ Below w.heap.size w w' := by
  have h1 := whi_i ha
  have h2 := whi_i hb
  have h3 := wlo_u a
  have h4 := wlo_u b
  rw [← ord_wide]
  go_enter Try.func136, Try.ntmps136
  go_wp2
  go_region_held3 (fun w' => w'.cell? ⟨w.heap.size, 0, none⟩ = some (.int .i64 (whi a)) ∧ w'.cell? ⟨w.heap.size, 1, none⟩ = some (.int .u64 (wlo a)) ∧ w'.cell? ⟨w.heap.size + 1, 0, none⟩ = some (.int .i64 (whi b)) ∧ w'.cell? ⟨w.heap.size + 1, 1, none⟩ = some (.int .u64 (wlo b))) (first | (simp [go_sem]; done) | (repeat' (first | (with_reducible assumption) | (with_reducible refine And.intro ?_ ?_) | (with_reducible refine cell_drew ?_) | (with_reducible refine cell_via (by with_reducible assumption) ?_ ?_) | (simp [*]; done) | (simp [go_sem]; done) | (with_reducible refine cell_alloc ?_ ?_) | (with_reducible refine cell_set_far ?_ ?_) | omega | (simp; omega)))) (first | (go_at_call 166; refine (cmpInt64 _ _ _).mono ?_; rintro e w1 ⟨rfl, rfl⟩) | (go_at_call 167; refine (cmpUint64 _ _ _).mono ?_; rintro e w1 ⟨rfl, rfl⟩) | (go_at_call 165; refine (cmpOr2 (ord (whi a) (whi b)) (ord (wlo a) (wlo b)) _ _ 0 _ (by simp [go_sem]) (by simp [go_sem])).mono ?_; rintro e w1 ⟨rfl, rfl⟩))
  go_wp2
  go_ret
  exact ⟨rfl, by (repeat' (first | (with_reducible exact Below.refl _ _) | (with_reducible assumption) | (with_reducible refine Below.alloc ?_ ?_ _) | (with_reducible refine Below.setCell ?_ ?_ _) | (with_reducible refine Below.drew ?_) | (with_reducible refine below_drewN ?_ _) | (with_reducible refine below_via ?_ (by with_reducible assumption) ?_) | omega | (simp; done) | (simp; omega)))⟩
theorem wideCmp0 (a : Int) (w : World) (ha : In128 a) :
    Calls Try.prog 136 #[(.agg #[.int .i64 (whi (a)), .int .u64 (wlo (a))]), .agg #[.int .i64 0, .int .u64 0]] w fun e w' => e = .returned (.int .i64 (ord a 0)) ∧ Below w.heap.size w w' := wideCmp a 0 w ha (by unfold In128; omega)
set_option maxHeartbeats 400000 in
theorem wideSign (a : Int) (w : World) (ha : In128 a) :
    Calls Try.prog 105 #[(.agg #[.int .i64 (whi (a)), .int .u64 (wlo (a))])] w fun e w' => e = .returned (.int .i64 (ord a 0)) ∧ Below w.heap.size w w' := by
  go_enter Try.func105, Try.ntmps105
  go_wp2_with (go_at_call 136; (with_reducible refine (wideCmp0 a _ ha).mono ?_); rintro e w1 ⟨rfl, hb1⟩; obtain ⟨fc1, fg1, hc1, hf1, hz1⟩ := bget hb1; try simp at hz1)
  go_ret
  exact ⟨rfl, by (repeat' (first | (with_reducible exact Below.refl _ _) | (with_reducible assumption) | (with_reducible refine Below.alloc ?_ ?_ _) | (with_reducible refine Below.setCell ?_ ?_ _) | (with_reducible refine Below.drew ?_) | (with_reducible refine below_drewN ?_ _) | (with_reducible refine below_via ?_ (by with_reducible assumption) ?_) | omega | (simp; done) | (simp; omega)))⟩
theorem fieldSizeLo (x y : Int) (w : World) : (Instr.field 178 (.agg #[.int .u64 x, .int .u64 y]) 1).run Try.prog w = .ok (.int .u64 y) w := by kernel_rfl
attribute [local go_sem] fieldSizeLo
set_option maxRecDepth 100000 in
set_option maxHeartbeats 1000000 in
theorem wideMul (a b : Int) (w : World) (ha : In64 a) (hb : In64 b) :
    Calls Try.prog 126 #[.int .i64 a, .int .i64 b] w fun e w' => e = .returned (.agg #[.int .i64 (whi (a * b)), .int .u64 (wlo (a * b))]) ∧ Below w.heap.size w w' := by
  have a128 : In128 a := in128_of64 ha
  have b128 : In128 b := in128_of64 hb
  have ea := wlo_abs64 ha
  have eb := wlo_abs64 hb
  have b1 := mul64_128 ha hb
  have b2 := iabs_mul a b
  have b3 : 0 ≤ iabs a * iabs b ∧ iabs a * iabs b < 340282366920938463463374607431768211456 := by rw [b2]; unfold In128 at b1; unfold iabs; split <;> omega
  have u1 : 0 ≤ iabs a ∧ iabs a ≤ 18446744073709551615 := by unfold In64 at ha; unfold iabs; split <;> omega
  have u2 : 0 ≤ iabs b ∧ iabs b ≤ 18446744073709551615 := by unfold In64 at hb; unfold iabs; split <;> omega
  have fin : wrap128 (sgn (!(decide (a < 0) == decide (b < 0))) (iabs a * iabs b)) = a * b := by rw [show (!(decide (a < 0) == decide (b < 0))) = (decide (a < 0) != decide (b < 0)) from rfl, sgn_mul, wrap128_in b1]
  clear b2
  go_enter Try.func126, Try.ntmps126
  go_wp2_with (first | (go_at_call 103; (with_reducible refine (wideOf a _ ha).mono ?_); rintro e w1 ⟨rfl, hb1⟩; obtain ⟨fc1, fg1, hc1, hf1, hz1⟩ := bget hb1; try simp at hz1) | (go_at_call 103; (with_reducible refine (wideOf b _ hb).mono ?_); rintro e w2 ⟨rfl, hb2⟩; obtain ⟨fc2, fg2, hc2, hf2, hz2⟩ := bget hb2; try simp at hz2))
  go_region_held3 (fun w' => w'.cell? ⟨w2.heap.size, 0, none⟩ = some (.int .i64 (whi a)) ∧ w'.cell? ⟨w2.heap.size, 1, none⟩ = some (.int .u64 (wlo a)) ∧ w'.cell? ⟨w2.heap.size + 1, 0, none⟩ = some (.int .i64 (whi b)) ∧ w'.cell? ⟨w2.heap.size + 1, 1, none⟩ = some (.int .u64 (wlo b))) (first | (simp [go_sem]; done) | (repeat' (first | (with_reducible assumption) | (with_reducible refine And.intro ?_ ?_) | (with_reducible refine cell_drew ?_) | (with_reducible refine cell_via (by with_reducible assumption) ?_ ?_) | (simp [*]; done) | (simp [go_sem]; done) | (with_reducible refine cell_alloc ?_ ?_) | (with_reducible refine cell_set_far ?_ ?_) | omega | (simp; omega)))) (first | (go_at_call 130; (with_reducible refine (wideSize a _ a128).mono ?_); rintro e w3 ⟨rfl, hb3⟩; obtain ⟨fc3, fg3, hc3, hf3, hz3⟩ := bget hb3; try simp at hz3) | (go_at_call 130; (with_reducible refine (wideSize b _ b128).mono ?_); rintro e w4 ⟨rfl, hb4⟩; obtain ⟨fc4, fg4, hc4, hf4, hz4⟩ := bget hb4; try simp at hz4) | (go_at_call 161; (with_reducible refine (mul64 _ _ _ u1.1 u1.2 u2.1 u2.2).mono ?_); rintro e w5 ⟨rfl, rfl⟩))
  go_wp2
  go_region_held3 (fun w' => w'.cell? ⟨w2.heap.size, 0, none⟩ = some (.int .i64 (whi a)) ∧ w'.cell? ⟨w2.heap.size, 1, none⟩ = some (.int .u64 (wlo a)) ∧ w'.cell? ⟨w2.heap.size + 1, 0, none⟩ = some (.int .i64 (whi b)) ∧ w'.cell? ⟨w2.heap.size + 1, 1, none⟩ = some (.int .u64 (wlo b))) (first | (simp [go_sem]; done) | (repeat' (first | (with_reducible assumption) | (with_reducible refine And.intro ?_ ?_) | (with_reducible refine cell_drew ?_) | (with_reducible refine cell_via (by with_reducible assumption) ?_ ?_) | (simp [*]; done) | (simp [go_sem]; done) | (with_reducible refine cell_alloc ?_ ?_) | (with_reducible refine cell_set_far ?_ ?_) | omega | (simp; omega)))) (first | ((go_at_call 132; (with_reducible refine (wideBelow a _ a128).mono ?_); rintro e w5 ⟨rfl, hb5⟩; obtain ⟨fc5, fg5, hc5, hf5, hz5⟩ := bget hb5; try simp at hz5)) | ((go_at_call 132; (with_reducible refine (wideBelow b _ b128).mono ?_); rintro e w6 ⟨rfl, hb6⟩; obtain ⟨fc6, fg6, hc6, hf6, hz6⟩ := bget hb6; try simp at hz6)) | ((go_at_call 131; (with_reducible refine (wideSigned _ _ _ b3.1 b3.2).mono ?_); rintro e w7 ⟨rfl, hb7⟩; obtain ⟨fc7, fg7, hc7, hf7, hz7⟩ := bget hb7; try simp at hz7)))
  go_wp2
  all_goals
    refine bodyPost_ret (by simp [results, Try.results126, go_sem, ↓IntWalk.iteOmega, hc1, hc2, hc3, hc4, hc5, hc6, hc7]; try rfl) rfl ⟨rfl, ?_⟩
    (repeat' (first | (with_reducible exact Below.refl _ _) | (with_reducible assumption) | (with_reducible refine Below.alloc ?_ ?_ _) | (with_reducible refine Below.setCell ?_ ?_ _) | (with_reducible refine Below.drew ?_) | (with_reducible refine below_drewN ?_ _) | (with_reducible refine below_via ?_ (by with_reducible assumption) ?_) | omega | (simp; done) | (simp; omega)))
end Go.Proofs.Ytiidplinmempcaa

/- Lots: the type; which may be, how they stand; what any are with one more, or without some of one. No program in sight. -/
namespace Go.Proofs.Ytiidplinmempcaa
open Go.RowKit
structure Lot where
  asset : Int
  tag : Int
  qty : Int
  deriving DecidableEq
def encLot (x : Lot) : List Value := [.int .i64 x.asset, .int .i64 x.tag, .int .i64 x.qty]
def okLot (x : Lot) : Prop := In64 x.asset ∧ In64 x.tag ∧ In64 x.qty
theorem rowsLot (l : List Lot) : ∀ r ∈ l.map encLot, r.length = 3 ∧ ∀ u ∈ r, u.oneCell' = true := by
  intro r hr
  obtain ⟨m, _, rfl⟩ := List.mem_map.1 hr
  refine ⟨rfl, ?_⟩
  simp only [encLot, List.mem_cons, List.not_mem_nil, or_false, forall_eq_or_imp, forall_eq]
  exact ⟨rfl, rfl, rfl⟩
theorem encLot_inj {x y : Lot} (h : encLot x = encLot y) : x = y := by
  unfold encLot at h
  simp only [List.cons.injEq, Value.int.injEq, and_true, true_and] at h
  obtain ⟨h0, h1, h2⟩ := h
  obtain ⟨xasset, xtag, xqty⟩ := x
  obtain ⟨yasset, ytag, yqty⟩ := y
  simp only at h0 h1 h2
  subst h0 h1 h2
  rfl
theorem neqLot {x y : Lot} (h : x ≠ y) : ((x.asset == y.asset) = false) ∨ ((x.tag == y.tag) = false) ∨ ((x.qty == y.qty) = false) := by
  cases h0 : (x.asset == y.asset)
  · simp
  cases h1 : (x.tag == y.tag)
  · simp
  cases h2 : (x.qty == y.qty)
  · simp
  · exfalso
    apply h
    obtain ⟨xasset, xtag, xqty⟩ := x
    obtain ⟨yasset, ytag, yqty⟩ := y
    simp_all
def rightL (x : Lot) : Bool := decide (1 ≤ x.asset) && decide (x.asset ≤ 4) && decide (0 ≤ x.tag) && decide (x.tag ≤ 255) && decide (0 < x.qty)
theorem rightL_iff {x : Lot} : rightL x = true ↔ 1 ≤ x.asset ∧ x.asset ≤ 4 ∧ 0 ≤ x.tag ∧ x.tag ≤ 255 ∧ 0 < x.qty := by simp [rightL, and_assoc]
theorem rightL_no {x : Lot} (h : ¬ (1 ≤ x.asset ∧ x.asset ≤ 4 ∧ 0 ≤ x.tag ∧ x.tag ≤ 255 ∧ 0 < x.qty)) : rightL x = false := by
  cases hr : rightL x
  · rfl
  · exact absurd (rightL_iff.1 hr) h
/-- How two lots stand: by assets, then by tags. -/
def ordL (a b : Lot) : Int := orOf (ord a.asset b.asset) (ord a.tag b.tag)
def ltL (a b : Lot) : Bool := decide (ordL a b < 0)
def eqL (a b : Lot) : Bool := ordL a b == 0
theorem ltL_iff {a b : Lot} : ltL a b = true ↔ a.asset < b.asset ∨ (a.asset = b.asset ∧ a.tag < b.tag) := by
  unfold ltL ordL orOf ord
  rw [decide_eq_true_eq]
  repeat' split
  all_goals omega
theorem eqL_iff {a b : Lot} : eqL a b = true ↔ a.asset = b.asset ∧ a.tag = b.tag := by
  unfold eqL ordL orOf ord
  rw [beq_iff_eq]
  repeat' split
  all_goals omega
theorem ltL_no {a b : Lot} (h : ¬ (a.asset < b.asset ∨ (a.asset = b.asset ∧ a.tag < b.tag))) : ltL a b = false := by
  cases hr : ltL a b
  · rfl
  · exact absurd (ltL_iff.1 hr) h
theorem eqL_no {a b : Lot} (h : ¬ (a.asset = b.asset ∧ a.tag = b.tag)) : eqL a b = false := by
  cases hr : eqL a b
  · rfl
  · exact absurd (eqL_iff.1 hr) h
/-- Lots that may be, each behind the one ahead of it. -/
def isR : Option Lot → List Lot → Bool
  | _, [] => true
  | none, x :: t => rightL x && isR (some x) t
  | some p, x :: t => rightL x && ltL p x && isR (some x) t
def isL (l : List Lot) : Bool := isR none l && decide (l.length ≤ 16)
def codeL (l : List Lot) (x : Lot) : Int := if isL l then (if rightL x then 0 else 2) else 3
def qtyL (l : List Lot) (a : Int) : List Int := (l.filter (fun x => x.asset == a)).map (·.qty)
def sumL (l : List Lot) (a : Int) : Int := (qtyL l a).sum
def getL (l : List Lot) (a t : Int) : Int := match l.find? (fun x => x.asset == a && x.tag == t) with | some x => x.qty | none => 0
def plL (l : List Lot) (x : Lot) : Nat := (l.takeWhile (fun y => decide (ordL y x < 0))).length
def thL (l : List Lot) (x : Lot) : Bool := atB (fun y => ordL y x == 0) l (plL l x)
def SortL (l : List Lot) : Prop := l.Pairwise (fun a b => ltL a b = true)
theorem ltL_trans {a b c : Lot} (h : ltL a b = true) (k : ltL b c = true) : ltL a c = true := by
  rw [ltL_iff] at *; omega
theorem isR_sort : ∀ {l : List Lot} {p : Option Lot} (_ : isR p l = true), SortL l ∧ (∀ x ∈ l, rightL x = true) ∧ ∀ q, p = some q → ∀ x ∈ l, ltL q x = true
  | [], _, _ => ⟨List.Pairwise.nil, by simp, by simp⟩
  | x :: t, p, h => by
    have ⟨h0, h1, h2⟩ : rightL x = true ∧ isR (some x) t = true ∧ ∀ q, p = some q → ltL q x = true := by
      cases p with
      | none => simp only [isR, Bool.and_eq_true] at h; exact ⟨h.1, h.2, fun q hq => by cases hq⟩
      | some q => simp only [isR, Bool.and_eq_true] at h; exact ⟨h.1.1, h.2, fun q' hq => by injection hq with e; subst e; exact h.1.2⟩
    have ⟨i1, i2, i3⟩ := isR_sort h1
    have i4 := i3 x rfl
    refine ⟨List.pairwise_cons.2 ⟨i4, i1⟩, fun y hy => ?_, fun q hq y hy => ?_⟩
    · rcases List.mem_cons.1 hy with rfl | hy
      · exact h0
      · exact i2 y hy
    · rcases List.mem_cons.1 hy with rfl | hy
      · exact h2 q hq
      · exact ltL_trans (h2 q hq) (i4 y hy)
theorem isL_sort {l : List Lot} (h : isL l = true) : SortL l ∧ (∀ x ∈ l, rightL x = true) ∧ l.length ≤ 16 := by
  unfold isL at h
  rw [Bool.and_eq_true, decide_eq_true_eq] at h
  have := isR_sort h.1
  exact ⟨this.1, this.2.1, h.2⟩
/-- What Put answers. -/
def putLC (l : List Lot) (x : Lot) : Int := if codeL l x = 0 then (if thL l x then (if in64 ((l.getD (plL l x) ⟨0, 0, 0⟩).qty + x.qty) then 0 else 7) else if 16 ≤ l.length then 25 else 0) else codeL l x
def putLL (l : List Lot) (x : Lot) : List Lot := if putLC l x = 0 then (if thL l x then l.set (plL l x) ⟨x.asset, x.tag, (l.getD (plL l x) ⟨0, 0, 0⟩).qty + x.qty⟩ else l.take (plL l x) ++ x :: l.drop (plL l x)) else []
/-- What Take answers. -/
def takLC (l : List Lot) (x : Lot) : Int := if codeL l x = 0 then (if thL l x = true ∧ x.qty ≤ (l.getD (plL l x) ⟨0, 0, 0⟩).qty then 0 else 23) else codeL l x
def takLL (l : List Lot) (x : Lot) : List Lot := if takLC l x = 0 then (if (l.getD (plL l x) ⟨0, 0, 0⟩).qty = x.qty then l.take (plL l x) ++ l.drop (plL l x + 1) else l.set (plL l x) ⟨x.asset, x.tag, (l.getD (plL l x) ⟨0, 0, 0⟩).qty - x.qty⟩) else []
theorem plL_le (l : List Lot) (x : Lot) : plL l x ≤ l.length := tw_len _ _
theorem thL_lt {l : List Lot} {x : Lot} (h : thL l x = true) : plL l x < l.length := by
  rcases Nat.lt_or_ge (plL l x) l.length with h1 | h1
  · exact h1
  · rw [show thL l x = false from atB_none h1] at h; cases h
theorem thL_eq {l : List Lot} {x : Lot} (h : thL l x = true) : (l[plL l x]'(thL_lt h)).asset = x.asset ∧ (l[plL l x]'(thL_lt h)).tag = x.tag := by
  have h1 : eqL (l[plL l x]'(thL_lt h)) x = true := by rw [← h]; exact (atB_some (p := fun y => ordL y x == 0) (thL_lt h)).symm
  exact eqL_iff.1 h1
end Go.Proofs.Ytiidplinmempcaa

/- Lots: contracts of lots.right, order, Is, Get, checked; the search. -/
namespace Go.Proofs.Ytiidplinmempcaa
open Go.RowKit
theorem elLot : Elem Try.prog 97 62 3 24 := elem_of Try.underlying97 (z := .agg #[.int .i64 0, .int .i64 0, .int .i64 0]) (by kernel_rfl) rfl (by omega)
set_option maxRecDepth 100000 in
set_option maxHeartbeats 2000000 in
theorem lotRight (x : Lot) (w : World) : Calls Try.prog 145 #[.agg #[.int .i64 x.asset, .int .i64 x.tag, .int .i64 x.qty]] w fun e w' => e = .returned (.bool (rightL x)) ∧ Below w.heap.size w w' := by
  by_cases t0 : 1 ≤ x.asset
  rotate_left
  · have d0 := decide_eq_false t0
    have HN := Lib.hid (rightL_no (x := x) (by omega))
    go_enter Try.func145, Try.ntmps145
    go_wp2_with fail
    go_ret
    exact ⟨by rw [HN.out]; first | done | rfl, by (repeat' (first | (with_reducible exact Below.refl _ _) | (with_reducible assumption) | (with_reducible refine Below.alloc ?_ ?_ _) | (with_reducible refine Below.setCell ?_ ?_ _) | (with_reducible refine Below.drew ?_) | (with_reducible refine below_drewN ?_ _) | (with_reducible refine below_via ?_ (by with_reducible assumption) ?_) | omega | (simp; done) | (simp; omega)))⟩
  have d0 := decide_eq_true t0
  by_cases t1 : x.asset ≤ 4
  rotate_left
  · have d1 := decide_eq_false t1
    have HN := Lib.hid (rightL_no (x := x) (by omega))
    go_enter Try.func145, Try.ntmps145
    go_wp2_with fail
    go_ret
    exact ⟨by rw [HN.out]; first | done | rfl, by (repeat' (first | (with_reducible exact Below.refl _ _) | (with_reducible assumption) | (with_reducible refine Below.alloc ?_ ?_ _) | (with_reducible refine Below.setCell ?_ ?_ _) | (with_reducible refine Below.drew ?_) | (with_reducible refine below_drewN ?_ _) | (with_reducible refine below_via ?_ (by with_reducible assumption) ?_) | omega | (simp; done) | (simp; omega)))⟩
  have d1 := decide_eq_true t1
  by_cases t2 : 0 ≤ x.tag
  rotate_left
  · have d2 := decide_eq_false t2
    have HN := Lib.hid (rightL_no (x := x) (by omega))
    go_enter Try.func145, Try.ntmps145
    go_wp2_with fail
    go_ret
    exact ⟨by rw [HN.out]; first | done | rfl, by (repeat' (first | (with_reducible exact Below.refl _ _) | (with_reducible assumption) | (with_reducible refine Below.alloc ?_ ?_ _) | (with_reducible refine Below.setCell ?_ ?_ _) | (with_reducible refine Below.drew ?_) | (with_reducible refine below_drewN ?_ _) | (with_reducible refine below_via ?_ (by with_reducible assumption) ?_) | omega | (simp; done) | (simp; omega)))⟩
  have d2 := decide_eq_true t2
  by_cases t3 : x.tag ≤ 255
  rotate_left
  · have d3 := decide_eq_false t3
    have HN := Lib.hid (rightL_no (x := x) (by omega))
    go_enter Try.func145, Try.ntmps145
    go_wp2_with fail
    go_ret
    exact ⟨by rw [HN.out]; first | done | rfl, by (repeat' (first | (with_reducible exact Below.refl _ _) | (with_reducible assumption) | (with_reducible refine Below.alloc ?_ ?_ _) | (with_reducible refine Below.setCell ?_ ?_ _) | (with_reducible refine Below.drew ?_) | (with_reducible refine below_drewN ?_ _) | (with_reducible refine below_via ?_ (by with_reducible assumption) ?_) | omega | (simp; done) | (simp; omega)))⟩
  have d3 := decide_eq_true t3
  by_cases t4 : 0 < x.qty
  rotate_left
  · have d4 := decide_eq_false t4
    have HN := Lib.hid (rightL_no (x := x) (by omega))
    go_enter Try.func145, Try.ntmps145
    go_wp2_with fail
    go_ret
    exact ⟨by rw [HN.out]; first | done | rfl, by (repeat' (first | (with_reducible exact Below.refl _ _) | (with_reducible assumption) | (with_reducible refine Below.alloc ?_ ?_ _) | (with_reducible refine Below.setCell ?_ ?_ _) | (with_reducible refine Below.drew ?_) | (with_reducible refine below_drewN ?_ _) | (with_reducible refine below_via ?_ (by with_reducible assumption) ?_) | omega | (simp; done) | (simp; omega)))⟩
  have d4 := decide_eq_true t4
  have HN := Lib.hid (rightL_iff (x := x).2 ⟨by omega, by omega, by omega, by omega, by omega⟩)
  go_enter Try.func145, Try.ntmps145
  go_wp2_with fail
  go_ret
  exact ⟨by rw [HN.out]; first | done | rfl, by (repeat' (first | (with_reducible exact Below.refl _ _) | (with_reducible assumption) | (with_reducible refine Below.alloc ?_ ?_ _) | (with_reducible refine Below.setCell ?_ ?_ _) | (with_reducible refine Below.drew ?_) | (with_reducible refine below_drewN ?_ _) | (with_reducible refine below_via ?_ (by with_reducible assumption) ?_) | omega | (simp; done) | (simp; omega)))⟩
set_option maxHeartbeats 400000 in
theorem cmpInt (a b : Int) (w : World) :
    Calls Try.prog 173 #[.int .i64 a, .int .i64 b] w fun e w' => e = .returned (.int .i64 (ord a b)) ∧ w = w' := by
  go_enter Try.func173, Try.ntmps173
  go_wp2
  all_goals (go_ret; exact ⟨ret_int (by unfold ord; repeat' split <;> omega), rfl⟩)
set_option maxRecDepth 100000 in
set_option maxHeartbeats 4000000 in
theorem lotOrder (a b : Lot) (w : World) : Calls Try.prog 146 #[.agg #[.int .i64 a.asset, .int .i64 a.tag, .int .i64 a.qty], .agg #[.int .i64 b.asset, .int .i64 b.tag, .int .i64 b.qty]] w fun e w' => e = .returned (.int .i64 (ordL a b)) ∧ Below w.heap.size w w' := by
  unfold ordL
  generalize ho1 : ord a.asset b.asset = o1
  generalize ho2 : ord a.tag b.tag = o2
  have C1 := Lib.hid (fun W => show Calls Try.prog 173 #[.int .i64 a.asset, .int .i64 b.asset] W fun e w' => e = .returned (.int .i64 o1) ∧ W = w' from by rw [← ho1]; exact cmpInt _ _ _)
  have C2 := Lib.hid (fun W => show Calls Try.prog 173 #[.int .i64 a.tag, .int .i64 b.tag] W fun e w' => e = .returned (.int .i64 o2) ∧ W = w' from by rw [← ho2]; exact cmpInt _ _ _)
  clear ho1 ho2
  go_enter Try.func146, Try.ntmps146
  go_wp2_with fail
  go_region_held3 (fun w' => (w'.cell? ⟨w.heap.size, 0, none⟩ = some (.int .i64 a.asset) ∧ w'.cell? ⟨w.heap.size, 1, none⟩ = some (.int .i64 a.tag)) ∧ w'.cell? ⟨w.heap.size + 1, 0, none⟩ = some (.int .i64 b.asset) ∧ w'.cell? ⟨w.heap.size + 1, 1, none⟩ = some (.int .i64 b.tag)) (first | (simp [go_sem]; done) | (repeat' (first | (with_reducible assumption) | (with_reducible refine And.intro ?_ ?_) | (with_reducible refine cell_drew ?_) | (with_reducible refine cell_via (by with_reducible assumption) ?_ ?_) | (simp [*]; done) | (simp [go_sem]; done) | (with_reducible refine cell_alloc ?_ ?_) | (with_reducible refine cell_set_far ?_ ?_) | omega | (simp; omega)))) (first | (go_at_call 173; (with_reducible refine (C1.out _).mono ?_); rintro e w1 ⟨rfl, rfl⟩) | (go_at_call 173; (with_reducible refine (C2.out _).mono ?_); rintro e w2 ⟨rfl, rfl⟩) | (go_at_call 165; (with_reducible refine (cmpOr2 o1 o2 _ _ 0 _ ?_ ?_).mono ?_); (focus (simp [go_sem]; done)); (focus (simp [go_sem]; done)); rintro e w3 ⟨rfl, rfl⟩) | fail)
  all_goals
    go_wp2_with fail
    go_ret
    exact ⟨rfl, by (repeat' (first | (with_reducible exact Below.refl _ _) | (with_reducible assumption) | (with_reducible refine Below.alloc ?_ ?_ _) | (with_reducible refine Below.setCell ?_ ?_ _) | (with_reducible refine Below.drew ?_) | (with_reducible refine below_drewN ?_ _) | (with_reducible refine below_via ?_ (by with_reducible assumption) ?_) | omega | (simp; done) | (simp; omega)))⟩
set_option maxRecDepth 100000 in
set_option maxHeartbeats 4000000 in
theorem lotSearch (l : List Lot) (t : Lot) (A : Option Addr) (c : Nat) (w : World) (hl : l.length ≤ 1048576) (hr : Rd w A 3 (l.map encLot)) (hs : ∀ i j (_ : i < j) (hj : j < l.length), (fun x : Lot => decide (ordL x t < 0)) l[j] = true → (fun x : Lot => decide (ordL x t < 0)) l[i] = true) :
    Calls Try.prog 150 #[.slice A l.length c, .agg #[.int .i64 t.asset, .int .i64 t.tag, .int .i64 t.qty], .func (Fn.func 146) #[] #[]] w fun e w' => e = .returned (.tuple #[.int .i64 ((l.takeWhile (fun x : Lot => decide (ordL x t < 0))).length : Nat), .bool (atB (fun x : Lot => (ordL x t == 0)) l (l.takeWhile (fun x : Lot => decide (ordL x t < 0))).length)]) ∧ Below w.heap.size w w' := by
  have HR := Lib.hid hr
  have HSO := Lib.hid hs
  clear hr hs
  go_enter Try.func150, Try.ntmps150
  go_wp2_with fail
  go_loopw [9, 10] (fun i j wr => ∃ (a b : Nat), a ≤ b ∧ b ≤ l.length ∧ i = .int .i64 a ∧ j = .int .i64 b ∧ (∀ q (_ : q < l.length), q < a → (fun x : Lot => decide (ordL x t < 0)) l[q] = true) ∧ (∀ q (_ : q < l.length), b ≤ q → (fun x : Lot => decide (ordL x t < 0)) l[q] = false) ∧ Below w.heap.size w wr ∧ w.heap.size < wr.heap.size ∧ (wr.cell? ⟨w.heap.size, 0, none⟩ = some (.int .i64 t.asset) ∧ wr.cell? ⟨w.heap.size, 1, none⟩ = some (.int .i64 t.tag) ∧ wr.cell? ⟨w.heap.size, 2, none⟩ = some (.int .i64 t.qty))) (fun i j _ => (intOf j).toNat - (intOf i).toNat)
  case atStart => exact ⟨0, l.length, Nat.zero_le _, Nat.le_refl _, rfl, rfl, fun q _ h => absurd h (by omega), fun q h1 h2 => absurd h1 (by omega), by (repeat' (first | (with_reducible exact Below.refl _ _) | (with_reducible assumption) | (with_reducible refine Below.alloc ?_ ?_ _) | (with_reducible refine Below.setCell ?_ ?_ _) | (with_reducible refine Below.drew ?_) | (with_reducible refine below_drewN ?_ _) | (with_reducible refine below_via ?_ (by with_reducible assumption) ?_) | omega | (simp; done) | (simp; omega))), by simp, by simp [go_sem]⟩
  case round =>
    obtain ⟨p, q, hpq, hql, rfl, rfl, hlo, hhi, hbl, hsz, g0, g1, g2⟩ := hrel
    have Hlo := Lib.hid hlo
    have Hhi := Lib.hid hhi
    have Hbl := Lib.hid hbl
    have hz := hbl.size
    clear hlo hhi hbl
    by_cases hlt : p < q
    · have d1 : decide ((p : Int) < (q : Int)) = true := by simpa using hlt
      obtain ⟨h, hh⟩ : ∃ h, h = (p + q) / 2 := ⟨_, rfl⟩
      have hhp : p ≤ h ∧ h < q := by omega
      have hhl : h < l.length := by omega
      have hhi : ((p : Int) + (q : Int)) / 2 < (l.length : Int) := by omega
      have w9 : IntKind.i64.wrap ((p : Int) + (q : Int)) = (p : Int) + (q : Int) := by rw [IntKind.wrap_i64]; omega
      have w8 : IntKind.u64.wrap ((p : Int) + (q : Int)) = (p : Int) + (q : Int) := by rw [IntKind.wrap_u64]; omega
      obtain ⟨b, o, rfl, hb, hc⟩ := HR.out h (encLot l[h]) (by simp [hhl])
      have e0 := (Hbl.out.cell (p := ⟨b, o + h * 3 + 0, none⟩) hb).trans (hc 0 _ rfl)
      have e1 := (Hbl.out.cell (p := ⟨b, o + h * 3 + 1, none⟩) hb).trans (hc 1 _ rfl)
      have e2 := (Hbl.out.cell (p := ⟨b, o + h * 3 + 2, none⟩) hb).trans (hc 2 _ rfl)
      simp only [Nat.add_zero] at e0
      clear hc
      subst hh
      cases hm : decide (ordL l[(p + q) / 2] t < 0)
      · have Hm := Lib.hid hm
        have hbw : b < wr.heap.size := by omega
        go_wp2_with fail
        have nk : (0 : Int) ≤ ((p : Int) + (q : Int)) / 2 := by omega
        have tk : (((p : Int) + (q : Int)) / 2).toNat = (p + q) / 2 := by omega
        go_region_held3 (fun w' => (w'.cell? ⟨b, o + (p + q) / 2 * 3, none⟩ = some (.int .i64 l[(p + q) / 2].asset) ∧ w'.cell? ⟨b, o + (p + q) / 2 * 3 + 1, none⟩ = some (.int .i64 l[(p + q) / 2].tag) ∧ w'.cell? ⟨b, o + (p + q) / 2 * 3 + 2, none⟩ = some (.int .i64 l[(p + q) / 2].qty)) ∧ w'.cell? ⟨w.heap.size, 0, none⟩ = some (.int .i64 t.asset) ∧ w'.cell? ⟨w.heap.size, 1, none⟩ = some (.int .i64 t.tag) ∧ w'.cell? ⟨w.heap.size, 2, none⟩ = some (.int .i64 t.qty)) (first | (simp [go_sem]; done) | (repeat' (first | (with_reducible assumption) | (with_reducible refine And.intro ?_ ?_) | (with_reducible refine cell_drew ?_) | (with_reducible refine cell_via (by with_reducible assumption) ?_ ?_) | (simp [*]; done) | (simp [go_sem]; done) | (with_reducible refine cell_alloc ?_ ?_) | (with_reducible refine cell_set_far ?_ ?_) | omega | (simp; omega)))) (first | (go_at_call 146; (with_reducible refine (lotOrder l[(p + q) / 2] t _).mono ?_); rintro e w3 ⟨rfl, hb3⟩; obtain ⟨fc3, fg3, hc3, hf3, hz3⟩ := bget hb3; (try simp at hz3); have Hb3 := Lib.hid hb3; clear hb3) | fail)
        clear nk tk
        go_wp2_with fail
        go_roundw
        case rel =>
          refine ⟨p, (p + q) / 2, by omega, by omega, rfl, by go_num, Hlo.out, ?_, by have hbl := Hbl.out; have hb3 := Hb3.out; (repeat' (first | (with_reducible exact Below.refl _ _) | (with_reducible assumption) | (with_reducible refine Below.alloc ?_ ?_ _) | (with_reducible refine Below.setCell ?_ ?_ _) | (with_reducible refine Below.drew ?_) | (with_reducible refine below_drewN ?_ _) | (with_reducible refine below_via ?_ (by with_reducible assumption) ?_) | omega | (simp; done) | (simp; omega))), by omega, by rw [hc3]; simp [go_sem, g0, hsz], by rw [hc3]; simp [go_sem, g1, hsz], by rw [hc3]; simp [go_sem, g2, hsz]⟩
          intro q' hq' h1
          cases h2 : decide (ordL l[q'] t < 0)
          · rfl
          · exfalso
            by_cases h3 : (p + q) / 2 < q'
            · have h4 := HSO.out ((p + q) / 2) q' h3 hq' h2
              have h5 : decide (ordL l[(p + q) / 2] t < 0) = true := h4
              rw [Hm.out] at h5; cases h5
            · have h6 : q' = (p + q) / 2 := by omega
              subst h6
              rw [Hm.out] at h2; cases h2
        case measure => simp [intOf]; omega
      · have Hm := Lib.hid hm
        have w5 : IntKind.i64.wrap (((p : Int) + (q : Int)) / 2 + 1) = ((p : Int) + (q : Int)) / 2 + 1 := by rw [IntKind.wrap_i64]; omega
        have hbw : b < wr.heap.size := by omega
        go_wp2_with fail
        have nk : (0 : Int) ≤ ((p : Int) + (q : Int)) / 2 := by omega
        have tk : (((p : Int) + (q : Int)) / 2).toNat = (p + q) / 2 := by omega
        go_region_held3 (fun w' => (w'.cell? ⟨b, o + (p + q) / 2 * 3, none⟩ = some (.int .i64 l[(p + q) / 2].asset) ∧ w'.cell? ⟨b, o + (p + q) / 2 * 3 + 1, none⟩ = some (.int .i64 l[(p + q) / 2].tag) ∧ w'.cell? ⟨b, o + (p + q) / 2 * 3 + 2, none⟩ = some (.int .i64 l[(p + q) / 2].qty)) ∧ w'.cell? ⟨w.heap.size, 0, none⟩ = some (.int .i64 t.asset) ∧ w'.cell? ⟨w.heap.size, 1, none⟩ = some (.int .i64 t.tag) ∧ w'.cell? ⟨w.heap.size, 2, none⟩ = some (.int .i64 t.qty)) (first | (simp [go_sem]; done) | (repeat' (first | (with_reducible assumption) | (with_reducible refine And.intro ?_ ?_) | (with_reducible refine cell_drew ?_) | (with_reducible refine cell_via (by with_reducible assumption) ?_ ?_) | (simp [*]; done) | (simp [go_sem]; done) | (with_reducible refine cell_alloc ?_ ?_) | (with_reducible refine cell_set_far ?_ ?_) | omega | (simp; omega)))) (first | (go_at_call 146; (with_reducible refine (lotOrder l[(p + q) / 2] t _).mono ?_); rintro e w3 ⟨rfl, hb3⟩; obtain ⟨fc3, fg3, hc3, hf3, hz3⟩ := bget hb3; (try simp at hz3); have Hb3 := Lib.hid hb3; clear hb3) | fail)
        clear nk tk
        go_wp2_with fail
        go_roundw
        case rel =>
          refine ⟨(p + q) / 2 + 1, q, by omega, by omega, by go_num, rfl, ?_, Hhi.out, by have hbl := Hbl.out; have hb3 := Hb3.out; (repeat' (first | (with_reducible exact Below.refl _ _) | (with_reducible assumption) | (with_reducible refine Below.alloc ?_ ?_ _) | (with_reducible refine Below.setCell ?_ ?_ _) | (with_reducible refine Below.drew ?_) | (with_reducible refine below_drewN ?_ _) | (with_reducible refine below_via ?_ (by with_reducible assumption) ?_) | omega | (simp; done) | (simp; omega))), by omega, by rw [hc3]; simp [go_sem, g0, hsz], by rw [hc3]; simp [go_sem, g1, hsz], by rw [hc3]; simp [go_sem, g2, hsz]⟩
          intro q' hq' h1
          by_cases h3 : q' < (p + q) / 2
          · exact HSO.out q' ((p + q) / 2) h3 hhl Hm.out
          · have h6 : q' = (p + q) / 2 := by omega
            subst h6
            exact Hm.out
        case measure => simp [intOf]; omega
    · obtain rfl : p = q := by omega
      have d1 : decide ((p : Int) < (p : Int)) = false := by simp
      have hw := while_cut (p := fun x : Lot => decide (ordL x t < 0)) (fun j hj h => Hlo.out j hj h) hql (fun h => Hhi.out p h (Nat.le_refl _))
      have hlen : (l.takeWhile (fun x : Lot => decide (ordL x t < 0))).length = p := by rw [hw.1, List.length_take]; omega
      have HL := Lib.hid hlen
      clear hw hlen
      by_cases hpl : p < l.length
      · have d2 : decide ((p : Int) < (l.length : Int)) = true := by simpa using hpl
        have hpi : (p : Int) < (l.length : Int) := by omega
        obtain ⟨b, o, rfl, hb, hc⟩ := HR.out p (encLot l[p]) (by simp [hpl])
        have e0 := (Hbl.out.cell (p := ⟨b, o + p * 3 + 0, none⟩) hb).trans (hc 0 _ rfl)
        have e1 := (Hbl.out.cell (p := ⟨b, o + p * 3 + 1, none⟩) hb).trans (hc 1 _ rfl)
        have e2 := (Hbl.out.cell (p := ⟨b, o + p * 3 + 2, none⟩) hb).trans (hc 2 _ rfl)
        simp only [Nat.add_zero] at e0
        clear hc
        obtain ⟨h, hh⟩ : ∃ h, h = p := ⟨_, rfl⟩
        have HG := Lib.hid (atB_some (p := fun x : Lot => (ordL x t == 0)) hpl)
        have hbw : b < wr.heap.size := by omega
        go_wp2_with fail
        go_region_held3 (fun w' => (w'.cell? ⟨b, o + p * 3, none⟩ = some (.int .i64 l[p].asset) ∧ w'.cell? ⟨b, o + p * 3 + 1, none⟩ = some (.int .i64 l[p].tag) ∧ w'.cell? ⟨b, o + p * 3 + 2, none⟩ = some (.int .i64 l[p].qty)) ∧ w'.cell? ⟨w.heap.size, 0, none⟩ = some (.int .i64 t.asset) ∧ w'.cell? ⟨w.heap.size, 1, none⟩ = some (.int .i64 t.tag) ∧ w'.cell? ⟨w.heap.size, 2, none⟩ = some (.int .i64 t.qty)) (first | (simp [go_sem]; done) | (repeat' (first | (with_reducible assumption) | (with_reducible refine And.intro ?_ ?_) | (with_reducible refine cell_drew ?_) | (with_reducible refine cell_via (by with_reducible assumption) ?_ ?_) | (simp [*]; done) | (simp [go_sem]; done) | (with_reducible refine cell_alloc ?_ ?_) | (with_reducible refine cell_set_far ?_ ?_) | omega | (simp; omega)))) (first | (go_at_call 146; (with_reducible refine (lotOrder l[p] t _).mono ?_); rintro e w3 ⟨rfl, hb3⟩; obtain ⟨fc3, fg3, hc3, hf3, hz3⟩ := bget hb3; (try simp at hz3); have Hb3 := Lib.hid hb3; clear hb3) | fail)
        go_wp2_with fail
        go_ret2
        exact ⟨by rw [HL.out, HG.out]; rfl, by have hbl := Hbl.out; have hb3 := Hb3.out; (repeat' (first | (with_reducible exact Below.refl _ _) | (with_reducible assumption) | (with_reducible refine Below.alloc ?_ ?_ _) | (with_reducible refine Below.setCell ?_ ?_ _) | (with_reducible refine Below.drew ?_) | (with_reducible refine below_drewN ?_ _) | (with_reducible refine below_via ?_ (by with_reducible assumption) ?_) | omega | (simp; done) | (simp; omega)))⟩
      · have d2 : decide ((p : Int) < (l.length : Int)) = false := by simpa using hpl
        have HG := Lib.hid (atB_none (p := fun x : Lot => (ordL x t == 0)) (Nat.le_of_not_lt hpl))
        go_wp2_with fail
        go_quiet (fail)
        go_wp2_with fail
        go_ret2
        exact ⟨by rw [HL.out, HG.out]; rfl, by have hbl := Hbl.out; (repeat' (first | (with_reducible exact Below.refl _ _) | (with_reducible assumption) | (with_reducible refine Below.alloc ?_ ?_ _) | (with_reducible refine Below.setCell ?_ ?_ _) | (with_reducible refine Below.drew ?_) | (with_reducible refine below_drewN ?_ _) | (with_reducible refine below_via ?_ (by with_reducible assumption) ?_) | omega | (simp; done) | (simp; omega)))⟩
end Go.Proofs.Ytiidplinmempcaa
