/- The contract of wide.Div. -/
import Derived.Test.YtenehpcliajdnaaDiv64
import Derived.Test.YtenehpcliajdnaaWide2
namespace Go.Proofs.Ytenehpcliajdnaa
open Go.RowKit
theorem long_div {m d : Int} (hm : 0 ≤ m) (hd : 0 < d) : whi m / d = whi (m / d) ∧ (whi m % d * 18446744073709551616 + wlo m) / d = wlo (m / d) ∧ (whi m % d * 18446744073709551616 + wlo m) % d = m % d := by
  have e0 := whi_wlo m
  have h1 : 0 ≤ whi m := by unfold whi; omega
  have h2 := wlo_u m
  generalize whi m = h at *
  generalize wlo m = l at *
  have e1 := Int.mul_ediv_add_emod h d
  have e2 := Int.emod_nonneg h (show d ≠ 0 by omega)
  have e3 := Int.emod_lt_of_pos h hd
  obtain ⟨p, hp⟩ : ∃ p, p = h / d := ⟨_, rfl⟩
  obtain ⟨r, hr⟩ : ∃ r, r = h % d := ⟨_, rfl⟩
  rw [← hp, ← hr] at e1
  rw [← hr] at e2 e3
  rw [← hp, ← hr]
  have e4 : m = r * 18446744073709551616 + l + p * 18446744073709551616 * d := by
    rw [← e0, ← e1, Int.add_mul, Int.mul_right_comm p, Int.mul_comm d p]; omega
  have e5 : 0 ≤ (r * 18446744073709551616 + l) / d := Int.ediv_nonneg (by omega) (by omega)
  have e6 : (r * 18446744073709551616 + l) / d < 18446744073709551616 := Int.ediv_lt_of_lt_mul hd (by omega)
  rw [e4, Int.add_mul_ediv_right _ _ (by omega), Int.add_mul_emod_self_right]
  unfold whi wlo
  omega
theorem floor_neg0 {n d m : Int} (hm : m = - n) (hd : 0 < d) (h : m % d = 0) : n / d = - (m / d) ∧ n % d = 0 := by
  have e := Int.mul_ediv_add_emod m d
  rw [h, Int.mul_comm] at e
  have h1 : n / d = - (m / d) := div_is (by rw [Int.neg_mul]; omega) (by rw [Int.add_mul, Int.neg_mul]; omega) hd
  refine ⟨h1, ?_⟩
  rw [Int.emod_def, h1, Int.mul_comm, Int.neg_mul]; omega
theorem floor_neg1 {n d m : Int} (hm : m = - n) (hd : 0 < d) (h : 0 < m % d) : n / d = - (m / d + 1) ∧ n % d = d - m % d := by
  have e := Int.mul_ediv_add_emod m d
  have e3 := Int.emod_lt_of_pos m hd
  rw [Int.mul_comm] at e
  have h1 : n / d = - (m / d + 1) := div_is (by rw [Int.neg_mul, Int.add_mul]; omega) (by rw [show - (m / d + 1) + 1 = - (m / d) by omega, Int.neg_mul]; omega) hd
  refine ⟨h1, ?_⟩
  rw [Int.emod_def, h1, Int.mul_comm, Int.neg_mul, Int.add_mul]; omega
set_option maxRecDepth 100000 in
set_option maxHeartbeats 4000000 in
theorem wideDivPos (n m d : Int) (w : World) (hn : In128 n) (hd : 0 < d) (hd1 : d ≤ 9223372036854775807) (hm : m = iabs n) (hsg : decide (n < 0) = false) (hm0 : 0 ≤ m) (hm1 : m ≤ 170141183460469231731687303715884105728) :
    Calls Try.prog 44 #[(.agg #[.int .i64 (whi (n)), .int .u64 (wlo (n))]), .int .i64 d] w fun e w' => e = .returned (.tuple #[(.agg #[.int .i64 (whi (m / d)), .int .u64 (wlo (m / d))]), .int .i64 (m % d), .int .i64 0]) ∧ Below w.heap.size w w' := by
  have hq := Int.ediv_le_self d hm0
  have hq0 : 0 ≤ m / d := Int.ediv_nonneg hm0 (by omega)
  have hi : In128 (m / d) := by unfold In128 at *; unfold iabs at hm; rw [if_neg (by simpa using hsg)] at hm; omega
  have c4 := fun W => wideSigned false (m / d) W (by omega) (by omega)
  rw [show wrap128 (sgn false (m / d)) = m / d from by rw [show sgn false (m / d) = m / d from rfl, wrap128_in hi]] at c4
  have C4 := Lib.hid c4
  have h2 := whi_i hn
  have L := long_div (m := m) (d := d) (by omega) hd
  have L1 := Lib.hid L.1
  have L2 := Lib.hid L.2.1
  have L3 := Lib.hid L.2.2
  have c1 := fun W => wideSize n W hn
  have c2 := fun W => wideBelow n W hn
  rw [← hm] at c1
  rw [hsg] at c2
  have C1 := Lib.hid c1
  have C2 := Lib.hid c2
  have hw := wlo_u m
  have hh : 0 ≤ whi m ∧ whi m ≤ 9223372036854775808 := (by unfold whi; omega)
  have hr0 := Int.emod_nonneg (whi m) (show d ≠ 0 by omega)
  have hr1 := Int.emod_lt_of_pos (whi m) hd
  have hR0 := Int.emod_nonneg m (show d ≠ 0 by omega)
  have hR1 := Int.emod_lt_of_pos m hd
  have d0 : (d == 0) = false := (by simp; omega)
  have d1 : ¬ d = 0 := (by omega)
  have d2 : decide (d < 0) = false := (by simp; omega)
  clear c1 c2 L hm
  clear c4 hsg
  go_enter Try.func44, Try.ntmps44
  go_wp2_with (go_at_call 71; (with_reducible refine (C1.out _).mono ?_); rintro e w1 ⟨rfl, hb1⟩; obtain ⟨fc1, fg1, hc1, hf1, hz1⟩ := bget hb1; (try simp at hz1))
  go_quiet (fail)
  go_wp2_with (first | (go_at_call 72; (with_reducible refine (div64 (whi m % d) (wlo m) d _ hr0 hr1 (by omega) hw.1 hw.2).mono ?_); rintro e w2 ⟨rfl, hb2⟩; rw [L1.out, L2.out, L3.out]; obtain ⟨fc2, fg2, hc2, hf2, hz2⟩ := bget hb2; (try simp at hz2)) | (go_at_call 73; (with_reducible refine (C2.out _).mono ?_); rintro e w3 ⟨rfl, hb3⟩; obtain ⟨fc3, fg3, hc3, hf3, hz3⟩ := bget hb3; (try simp at hz3)))
  go_region_held3 (fun w' => w'.cell? ⟨w.heap.size, 0, none⟩ = some (.int .i64 (whi n)) ∧ w'.cell? ⟨w.heap.size, 1, none⟩ = some (.int .u64 (wlo n)) ∧ w'.cell? ⟨w2.heap.size, 0, none⟩ = some (.int .u64 (whi (m / d))) ∧ w'.cell? ⟨w2.heap.size, 1, none⟩ = some (.int .u64 (wlo (m / d)))) (first | (simp [hc1, hc2, hc3, go_sem, ↓IntWalk.iteOmega]; done) | (simp [hc1, hc2, hc3, hc5, go_sem, ↓IntWalk.iteOmega]; done) | (simp [hc1, hc2, hc3, hc5, hc6, go_sem, ↓IntWalk.iteOmega]; done) | (first | (simp [go_sem]; done) | (repeat' (first | (with_reducible assumption) | (with_reducible refine And.intro ?_ ?_) | (with_reducible refine cell_drew ?_) | (with_reducible refine cell_via (by with_reducible assumption) ?_ ?_) | (simp [*]; done) | (simp [go_sem]; done) | (with_reducible refine cell_alloc ?_ ?_) | (with_reducible refine cell_set_far ?_ ?_) | omega | (simp; omega))))) (first | (go_at_call 73; (with_reducible refine (C2.out _).mono ?_); rintro e w5 ⟨rfl, hb5⟩; obtain ⟨fc5, fg5, hc5, hf5, hz5⟩ := bget hb5; (try simp at hz5)) | (go_at_call 75; (with_reducible refine (C4.out _).mono ?_); rintro e w6 ⟨rfl, hb6⟩; obtain ⟨fc6, fg6, hc6, hf6, hz6⟩ := bget hb6; (try simp at hz6)))
  go_wp2
  all_goals
    refine bodyPost_ret (by simp [results, Try.results44, go_sem, ↓IntWalk.iteOmega, hc1, hc2, hc3, hc5, hc6]; try rfl) rfl ⟨rfl, ?_⟩
    (repeat' (first | (with_reducible exact Below.refl _ _) | (with_reducible assumption) | (with_reducible refine Below.alloc ?_ ?_ _) | (with_reducible refine Below.setCell ?_ ?_ _) | (with_reducible refine Below.drew ?_) | (with_reducible refine below_drewN ?_ _) | (with_reducible refine below_via ?_ (by with_reducible assumption) ?_) | omega | (simp; done) | (simp; omega)))
set_option maxRecDepth 100000 in
set_option maxHeartbeats 4000000 in
theorem wideDivNeg0 (n m d : Int) (w : World) (hn : In128 n) (hd : 0 < d) (hd1 : d ≤ 9223372036854775807) (hm : m = iabs n) (hsg : decide (n < 0) = true) (hm0 : 0 ≤ m) (hm1 : m ≤ 170141183460469231731687303715884105728) (hr : m % d = 0) :
    Calls Try.prog 44 #[(.agg #[.int .i64 (whi (n)), .int .u64 (wlo (n))]), .int .i64 d] w fun e w' => e = .returned (.tuple #[(.agg #[.int .i64 (whi (- (m / d))), .int .u64 (wlo (- (m / d)))]), .int .i64 (0), .int .i64 0]) ∧ Below w.heap.size w w' := by
  have hq := Int.ediv_le_self d hm0
  have hq0 : 0 ≤ m / d := Int.ediv_nonneg hm0 (by omega)
  have hi : In128 (- (m / d)) := by unfold In128; omega
  have c4 := fun W => wideSigned true (m / d) W (by omega) (by omega)
  rw [show wrap128 (sgn true (m / d)) = - (m / d) from by rw [show sgn true (m / d) = - (m / d) from rfl, wrap128_in hi]] at c4
  have C4 := Lib.hid c4
  have h2 := whi_i hn
  have L := long_div (m := m) (d := d) (by omega) hd
  have L1 := Lib.hid L.1
  have L2 := Lib.hid L.2.1
  have L3 := Lib.hid L.2.2
  have c1 := fun W => wideSize n W hn
  have c2 := fun W => wideBelow n W hn
  rw [← hm] at c1
  rw [hsg] at c2
  have C1 := Lib.hid c1
  have C2 := Lib.hid c2
  have hw := wlo_u m
  have hh : 0 ≤ whi m ∧ whi m ≤ 9223372036854775808 := (by unfold whi; omega)
  have hr0 := Int.emod_nonneg (whi m) (show d ≠ 0 by omega)
  have hr1 := Int.emod_lt_of_pos (whi m) hd
  have hR0 := Int.emod_nonneg m (show d ≠ 0 by omega)
  have hR1 := Int.emod_lt_of_pos m hd
  have d0 : (d == 0) = false := (by simp; omega)
  have d1 : ¬ d = 0 := (by omega)
  have d2 : decide (d < 0) = false := (by simp; omega)
  clear c1 c2 L hm
  rw [hr] at L3
  clear c4 hsg hR0 hR1 hr
  go_enter Try.func44, Try.ntmps44
  go_wp2_with (go_at_call 71; (with_reducible refine (C1.out _).mono ?_); rintro e w1 ⟨rfl, hb1⟩; obtain ⟨fc1, fg1, hc1, hf1, hz1⟩ := bget hb1; (try simp at hz1))
  go_quiet (fail)
  go_wp2_with (first | (go_at_call 72; (with_reducible refine (div64 (whi m % d) (wlo m) d _ hr0 hr1 (by omega) hw.1 hw.2).mono ?_); rintro e w2 ⟨rfl, hb2⟩; rw [L1.out, L2.out, L3.out]; obtain ⟨fc2, fg2, hc2, hf2, hz2⟩ := bget hb2; (try simp at hz2)) | (go_at_call 73; (with_reducible refine (C2.out _).mono ?_); rintro e w3 ⟨rfl, hb3⟩; obtain ⟨fc3, fg3, hc3, hf3, hz3⟩ := bget hb3; (try simp at hz3)))
  go_region_held3 (fun w' => w'.cell? ⟨w.heap.size, 0, none⟩ = some (.int .i64 (whi n)) ∧ w'.cell? ⟨w.heap.size, 1, none⟩ = some (.int .u64 (wlo n)) ∧ w'.cell? ⟨w2.heap.size, 0, none⟩ = some (.int .u64 (whi (m / d))) ∧ w'.cell? ⟨w2.heap.size, 1, none⟩ = some (.int .u64 (wlo (m / d)))) (first | (simp [hc1, hc2, hc3, go_sem, ↓IntWalk.iteOmega]; done) | (simp [hc1, hc2, hc3, hc5, go_sem, ↓IntWalk.iteOmega]; done) | (simp [hc1, hc2, hc3, hc5, hc6, go_sem, ↓IntWalk.iteOmega]; done) | (first | (simp [go_sem]; done) | (repeat' (first | (with_reducible assumption) | (with_reducible refine And.intro ?_ ?_) | (with_reducible refine cell_drew ?_) | (with_reducible refine cell_via (by with_reducible assumption) ?_ ?_) | (simp [*]; done) | (simp [go_sem]; done) | (with_reducible refine cell_alloc ?_ ?_) | (with_reducible refine cell_set_far ?_ ?_) | omega | (simp; omega))))) (first | (go_at_call 73; (with_reducible refine (C2.out _).mono ?_); rintro e w5 ⟨rfl, hb5⟩; obtain ⟨fc5, fg5, hc5, hf5, hz5⟩ := bget hb5; (try simp at hz5)) | (go_at_call 75; (with_reducible refine (C4.out _).mono ?_); rintro e w6 ⟨rfl, hb6⟩; obtain ⟨fc6, fg6, hc6, hf6, hz6⟩ := bget hb6; (try simp at hz6)))
  go_wp2
  all_goals
    refine bodyPost_ret (by simp [results, Try.results44, go_sem, ↓IntWalk.iteOmega, hc1, hc2, hc3, hc5, hc6]; try rfl) rfl ⟨rfl, ?_⟩
    (repeat' (first | (with_reducible exact Below.refl _ _) | (with_reducible assumption) | (with_reducible refine Below.alloc ?_ ?_ _) | (with_reducible refine Below.setCell ?_ ?_ _) | (with_reducible refine Below.drew ?_) | (with_reducible refine below_drewN ?_ _) | (with_reducible refine below_via ?_ (by with_reducible assumption) ?_) | omega | (simp; done) | (simp; omega)))
set_option maxRecDepth 100000 in
set_option maxHeartbeats 4000000 in
theorem wideDivNeg1 (n m d : Int) (w : World) (hn : In128 n) (hd : 0 < d) (hd1 : d ≤ 9223372036854775807) (hm : m = iabs n) (hsg : decide (n < 0) = true) (hm0 : 0 ≤ m) (hm1 : m ≤ 170141183460469231731687303715884105728) (hr : 0 < m % d) :
    Calls Try.prog 44 #[(.agg #[.int .i64 (whi (n)), .int .u64 (wlo (n))]), .int .i64 d] w fun e w' => e = .returned (.tuple #[(.agg #[.int .i64 (whi (- (m / d + 1))), .int .u64 (wlo (- (m / d + 1)))]), .int .i64 (d - m % d), .int .i64 0]) ∧ Below w.heap.size w w' := by
  have hq := Int.ediv_le_self d hm0
  have hq0 : 0 ≤ m / d := Int.ediv_nonneg hm0 (by omega)
  have hq2 : m / d + 1 ≤ 170141183460469231731687303715884105728 := by
    have e := Int.mul_ediv_add_emod m d
    have e2 : 1 * (m / d) ≤ d * (m / d) := Int.mul_le_mul_of_nonneg_right (by omega) hq0
    omega
  have hi : In128 (- (m / d + 1)) := by unfold In128; omega
  have hu := wlo_u (m / d)
  have e1 := add64 (wlo (m / d)) 1 0 hu.1 (by omega) (by omega) (by omega)
  have g1 : wlo (wlo (m / d) + 1) = wlo (m / d + 1) := by unfold wlo; omega
  have g2 : whi (m / d) + whi (wlo (m / d) + 1) = whi (m / d + 1) := by unfold wlo whi; omega
  have g3 : 0 ≤ whi (m / d) ∧ whi (m / d) ≤ 9223372036854775808 := by unfold whi; omega
  have g4 : 0 ≤ whi (wlo (m / d) + 1) ∧ whi (wlo (m / d) + 1) ≤ 1 := by unfold whi; omega
  simp only [Int.add_zero] at e1
  rw [g1] at e1
  obtain ⟨c, hc⟩ : ∃ c, c = whi (wlo (m / d) + 1) := ⟨_, rfl⟩
  rw [← hc] at e1 g2 g4
  clear hc g1
  have c4 := fun W => wideSigned true (m / d + 1) W (by omega) (by omega)
  rw [show wrap128 (sgn true (m / d + 1)) = - (m / d + 1) from by rw [show sgn true (m / d + 1) = - (m / d + 1) from rfl, wrap128_in hi]] at c4
  have C4 := Lib.hid c4
  have h2 := whi_i hn
  have L := long_div (m := m) (d := d) (by omega) hd
  have L1 := Lib.hid L.1
  have L2 := Lib.hid L.2.1
  have L3 := Lib.hid L.2.2
  have c1 := fun W => wideSize n W hn
  have c2 := fun W => wideBelow n W hn
  rw [← hm] at c1
  rw [hsg] at c2
  have C1 := Lib.hid c1
  have C2 := Lib.hid c2
  have hw := wlo_u m
  have hh : 0 ≤ whi m ∧ whi m ≤ 9223372036854775808 := (by unfold whi; omega)
  have hr0 := Int.emod_nonneg (whi m) (show d ≠ 0 by omega)
  have hr1 := Int.emod_lt_of_pos (whi m) hd
  have hR0 := Int.emod_nonneg m (show d ≠ 0 by omega)
  have hR1 := Int.emod_lt_of_pos m hd
  have d0 : (d == 0) = false := (by simp; omega)
  have d1 : ¬ d = 0 := (by omega)
  have d2 : decide (d < 0) = false := (by simp; omega)
  clear c1 c2 L hm
  clear c4 hsg
  go_enter Try.func44, Try.ntmps44
  go_wp2_with (go_at_call 71; (with_reducible refine (C1.out _).mono ?_); rintro e w1 ⟨rfl, hb1⟩; obtain ⟨fc1, fg1, hc1, hf1, hz1⟩ := bget hb1; (try simp at hz1))
  go_quiet (fail)
  go_wp2_with (first | (go_at_call 72; (with_reducible refine (div64 (whi m % d) (wlo m) d _ hr0 hr1 (by omega) hw.1 hw.2).mono ?_); rintro e w2 ⟨rfl, hb2⟩; rw [L1.out, L2.out, L3.out]; obtain ⟨fc2, fg2, hc2, hf2, hz2⟩ := bget hb2; (try simp at hz2)) | (go_at_call 73; (with_reducible refine (C2.out _).mono ?_); rintro e w3 ⟨rfl, hb3⟩; obtain ⟨fc3, fg3, hc3, hf3, hz3⟩ := bget hb3; (try simp at hz3)))
  go_region_held3 (fun w' => w'.cell? ⟨w.heap.size, 0, none⟩ = some (.int .i64 (whi n)) ∧ w'.cell? ⟨w.heap.size, 1, none⟩ = some (.int .u64 (wlo n)) ∧ w'.cell? ⟨w2.heap.size, 0, none⟩ = some (.int .u64 (whi (m / d + 1))) ∧ w'.cell? ⟨w2.heap.size, 1, none⟩ = some (.int .u64 (wlo (m / d + 1)))) (first | (simp [hc1, hc2, hc3, go_sem, ↓IntWalk.iteOmega]; done) | (simp [hc1, hc2, hc3, hc5, go_sem, ↓IntWalk.iteOmega]; done) | (simp [hc1, hc2, hc3, hc5, hc6, go_sem, ↓IntWalk.iteOmega]; done) | (first | (simp [go_sem]; done) | (repeat' (first | (with_reducible assumption) | (with_reducible refine And.intro ?_ ?_) | (with_reducible refine cell_drew ?_) | (with_reducible refine cell_via (by with_reducible assumption) ?_ ?_) | (simp [*]; done) | (simp [go_sem]; done) | (with_reducible refine cell_alloc ?_ ?_) | (with_reducible refine cell_set_far ?_ ?_) | omega | (simp; omega))))) (first | (go_at_call 73; (with_reducible refine (C2.out _).mono ?_); rintro e w5 ⟨rfl, hb5⟩; obtain ⟨fc5, fg5, hc5, hf5, hz5⟩ := bget hb5; (try simp at hz5)) | (go_at_call 75; (with_reducible refine (C4.out _).mono ?_); rintro e w6 ⟨rfl, hb6⟩; obtain ⟨fc6, fg6, hc6, hf6, hz6⟩ := bget hb6; (try simp at hz6)))
  go_wp2
  all_goals
    refine bodyPost_ret (by simp [results, Try.results44, go_sem, ↓IntWalk.iteOmega, hc1, hc2, hc3, hc5, hc6]; try rfl) rfl ⟨rfl, ?_⟩
    (repeat' (first | (with_reducible exact Below.refl _ _) | (with_reducible assumption) | (with_reducible refine Below.alloc ?_ ?_ _) | (with_reducible refine Below.setCell ?_ ?_ _) | (with_reducible refine Below.drew ?_) | (with_reducible refine below_drewN ?_ _) | (with_reducible refine below_via ?_ (by with_reducible assumption) ?_) | omega | (simp; done) | (simp; omega)))
theorem wideDiv (n d : Int) (w : World) (hn : In128 n) (hd : 0 < d) (hd1 : d ≤ 9223372036854775807) :
    Calls Try.prog 44 #[(.agg #[.int .i64 (whi (n)), .int .u64 (wlo (n))]), .int .i64 d] w fun e w' => e = .returned (.tuple #[(.agg #[.int .i64 (whi (n / d)), .int .u64 (wlo (n / d))]), .int .i64 (n % d), .int .i64 0]) ∧ Below w.heap.size w w' := by
  have hm : 0 ≤ iabs n ∧ iabs n ≤ 170141183460469231731687303715884105728 := by unfold In128 at hn; unfold iabs; split <;> omega
  by_cases h : n < 0
  · have hs := iabs_neg h
    have e2 := Int.emod_nonneg (iabs n) (show d ≠ 0 by omega)
    rcases (show iabs n % d = 0 ∨ 0 < iabs n % d by omega) with hr | hr
    · have hf := floor_neg0 hs hd hr
      rw [hf.1, hf.2]
      exact wideDivNeg0 n (iabs n) d w hn hd hd1 rfl (by simpa using h) hm.1 hm.2 hr
    · have hf := floor_neg1 hs hd hr
      rw [hf.1, hf.2]
      exact wideDivNeg1 n (iabs n) d w hn hd hd1 rfl (by simpa using h) hm.1 hm.2 hr
  · have hs := iabs_pos (show 0 ≤ n by omega)
    have hp := wideDivPos n (iabs n) d w hn hd hd1 rfl (by simpa using h) hm.1 hm.2
    rw [hs] at hp
    exact hp
set_option maxRecDepth 100000 in
set_option maxHeartbeats 1000000 in
theorem wideDivZero (n : Int) (w : World) :
    Calls Try.prog 44 #[(.agg #[.int .i64 (whi (n)), .int .u64 (wlo (n))]), .int .i64 0] w fun e w' => e = .returned (.tuple #[.agg #[.int .i64 0, .int .u64 0], .int .i64 0, .int .i64 8]) ∧ Below w.heap.size w w' := by
  go_enter Try.func44, Try.ntmps44
  go_wp2
  refine bodyPost_ret (by simp [results, Try.results44, go_sem, ]; try rfl) rfl ⟨rfl, ?_⟩
  (repeat' (first | (with_reducible exact Below.refl _ _) | (with_reducible assumption) | (with_reducible refine Below.alloc ?_ ?_ _) | (with_reducible refine Below.setCell ?_ ?_ _) | (with_reducible refine Below.drew ?_) | (with_reducible refine below_drewN ?_ _) | (with_reducible refine below_via ?_ (by with_reducible assumption) ?_) | omega | (simp; done) | (simp; omega)))
set_option maxRecDepth 100000 in
set_option maxHeartbeats 1000000 in
theorem wideDivNeg (n d : Int) (w : World) (hd : d < 0) :
    Calls Try.prog 44 #[(.agg #[.int .i64 (whi (n)), .int .u64 (wlo (n))]), .int .i64 d] w fun e w' => e = .returned (.tuple #[.agg #[.int .i64 0, .int .u64 0], .int .i64 0, .int .i64 2]) ∧ Below w.heap.size w w' := by
  have d0 : (d == 0) = false := by simp; omega
  have d2 : decide (d < 0) = true := by simpa using hd
  go_enter Try.func44, Try.ntmps44
  go_wp2
  refine bodyPost_ret (by simp [results, Try.results44, go_sem, ]; try rfl) rfl ⟨rfl, ?_⟩
  (repeat' (first | (with_reducible exact Below.refl _ _) | (with_reducible assumption) | (with_reducible refine Below.alloc ?_ ?_ _) | (with_reducible refine Below.setCell ?_ ?_ _) | (with_reducible refine Below.drew ?_) | (with_reducible refine below_drewN ?_ _) | (with_reducible refine below_via ?_ (by with_reducible assumption) ?_) | omega | (simp; done) | (simp; omega)))
end Go.Proofs.Ytenehpcliajdnaa
