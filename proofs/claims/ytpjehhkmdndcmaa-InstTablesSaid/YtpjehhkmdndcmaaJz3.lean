/- Joined: Wide7, Wide9, AssetT, Asset1, Wide4, Wide5, Fix1. -/
import Derived.Test.YtpjehhkmdndcmaaJz2
import Derived.Test.YtpjehhkmdndcmaaJz1
import Derived.Test.YtpjehhkmdndcmaaRows
import Derived.WalkKit
import Derived.WalkSpells
import Derived.WalkLawsBesides
import Derived.BigQuiet
import Derived.Deep.RegionHeld3
import Derived.Handy
/- The contract of wide.Div. -/
namespace Go.Proofs.Ytpjehhkmdndcmaa
open Go.RowKit
theorem long_div {m d : Int} (hm : 0 ≤ m) (hd : 0 < d) : whi m / d = whi (m / d) ∧ (whi m % d * 18446744073709551616 + wlo m) / d = wlo (m / d) ∧ (whi m % d * 18446744073709551616 + wlo m) % d = m % d := by
  have e0 := whi_wlo m
  have h1 : 0 ≤ whi m := by unfold whi; omega
  have h2 := wlo_u m
  generalize whi m = h at *
  generalize wlo m = l at *
  have e1 := Int.mul_ediv_add_emod h d
  have e2 := Int.emod_nonneg h (show d ≠ 0 by omega)
  have e3 := Int.emod_lt_of_pos h hd
  obtain ⟨p, hp⟩ : ∃ p, p = h / d := ⟨_, rfl⟩
  obtain ⟨r, hr⟩ : ∃ r, r = h % d := ⟨_, rfl⟩
  rw [← hp, ← hr] at e1
  rw [← hr] at e2 e3
  rw [← hp, ← hr]
  have e4 : m = r * 18446744073709551616 + l + p * 18446744073709551616 * d := by
    rw [← e0, ← e1, Int.add_mul, Int.mul_right_comm p, Int.mul_comm d p]; omega
  have e5 : 0 ≤ (r * 18446744073709551616 + l) / d := Int.ediv_nonneg (by omega) (by omega)
  have e6 : (r * 18446744073709551616 + l) / d < 18446744073709551616 := Int.ediv_lt_of_lt_mul hd (by omega)
  rw [e4, Int.add_mul_ediv_right _ _ (by omega), Int.add_mul_emod_self_right]
  unfold whi wlo
  omega
theorem floor_neg0 {n d m : Int} (hm : m = - n) (hd : 0 < d) (h : m % d = 0) : n / d = - (m / d) ∧ n % d = 0 := by
  have e := Int.mul_ediv_add_emod m d
  rw [h, Int.mul_comm] at e
  have h1 : n / d = - (m / d) := div_is (by rw [Int.neg_mul]; omega) (by rw [Int.add_mul, Int.neg_mul]; omega) hd
  refine ⟨h1, ?_⟩
  rw [Int.emod_def, h1, Int.mul_comm, Int.neg_mul]; omega
theorem floor_neg1 {n d m : Int} (hm : m = - n) (hd : 0 < d) (h : 0 < m % d) : n / d = - (m / d + 1) ∧ n % d = d - m % d := by
  have e := Int.mul_ediv_add_emod m d
  have e3 := Int.emod_lt_of_pos m hd
  rw [Int.mul_comm] at e
  have h1 : n / d = - (m / d + 1) := div_is (by rw [Int.neg_mul, Int.add_mul]; omega) (by rw [show - (m / d + 1) + 1 = - (m / d) by omega, Int.neg_mul]; omega) hd
  refine ⟨h1, ?_⟩
  rw [Int.emod_def, h1, Int.mul_comm, Int.neg_mul, Int.add_mul]; omega
set_option maxRecDepth 100000 in
set_option maxHeartbeats 4000000 in
theorem wideDivPos (n m d : Int) (w : World) (hn : In128 n) (hd : 0 < d) (hd1 : d ≤ 9223372036854775807) (hm : m = iabs n) (hsg : decide (n < 0) = false) (hm0 : 0 ≤ m) (hm1 : m ≤ 170141183460469231731687303715884105728) :
    Calls Try.prog 97 #[(.agg #[.int .i64 (whi (n)), .int .u64 (wlo (n))]), .int .i64 d] w fun e w' => e = .returned (.tuple #[(.agg #[.int .i64 (whi (m / d)), .int .u64 (wlo (m / d))]), .int .i64 (m % d), .int .i64 0]) ∧ Below w.heap.size w w' := by
  have hq := Int.ediv_le_self d hm0
  have hq0 : 0 ≤ m / d := Int.ediv_nonneg hm0 (by omega)
  have hi : In128 (m / d) := by unfold In128 at *; unfold iabs at hm; rw [if_neg (by simpa using hsg)] at hm; omega
  have c4 := fun W => wideSigned false (m / d) W (by omega) (by omega)
  rw [show wrap128 (sgn false (m / d)) = m / d from by rw [show sgn false (m / d) = m / d from rfl, wrap128_in hi]] at c4
  have C4 := Lib.hid c4
  have h2 := whi_i hn
  have L := long_div (m := m) (d := d) (by omega) hd
  have L1 := Lib.hid L.1
  have L2 := Lib.hid L.2.1
  have L3 := Lib.hid L.2.2
  have c1 := fun W => wideSize n W hn
  have c2 := fun W => wideBelow n W hn
  rw [← hm] at c1
  rw [hsg] at c2
  have C1 := Lib.hid c1
  have C2 := Lib.hid c2
  have hw := wlo_u m
  have hh : 0 ≤ whi m ∧ whi m ≤ 9223372036854775808 := (by unfold whi; omega)
  have hr0 := Int.emod_nonneg (whi m) (show d ≠ 0 by omega)
  have hr1 := Int.emod_lt_of_pos (whi m) hd
  have hR0 := Int.emod_nonneg m (show d ≠ 0 by omega)
  have hR1 := Int.emod_lt_of_pos m hd
  have d0 : (d == 0) = false := (by simp; omega)
  have d1 : ¬ d = 0 := (by omega)
  have d2 : decide (d < 0) = false := (by simp; omega)
  clear c1 c2 L hm
  clear c4 hsg
  go_enter Try.func97, Try.ntmps97
  go_wp2_with (go_at_call 91; (with_reducible refine (C1.out _).mono ?_); rintro e w1 ⟨rfl, hb1⟩; obtain ⟨fc1, fg1, hc1, hf1, hz1⟩ := bget hb1; (try simp at hz1))
  go_quiet (fail)
  go_wp2_with (first | (go_at_call 96; (with_reducible refine (div64 (whi m % d) (wlo m) d _ hr0 hr1 (by omega) hw.1 hw.2).mono ?_); rintro e w2 ⟨rfl, hb2⟩; rw [L1.out, L2.out, L3.out]; obtain ⟨fc2, fg2, hc2, hf2, hz2⟩ := bget hb2; (try simp at hz2)) | (go_at_call 93; (with_reducible refine (C2.out _).mono ?_); rintro e w3 ⟨rfl, hb3⟩; obtain ⟨fc3, fg3, hc3, hf3, hz3⟩ := bget hb3; (try simp at hz3)))
  go_region_held3 (fun w' => w'.cell? ⟨w.heap.size, 0, none⟩ = some (.int .i64 (whi n)) ∧ w'.cell? ⟨w.heap.size, 1, none⟩ = some (.int .u64 (wlo n)) ∧ w'.cell? ⟨w2.heap.size, 0, none⟩ = some (.int .u64 (whi (m / d))) ∧ w'.cell? ⟨w2.heap.size, 1, none⟩ = some (.int .u64 (wlo (m / d)))) (first | (simp [hc1, hc2, hc3, go_sem, ↓IntWalk.iteOmega]; done) | (simp [hc1, hc2, hc3, hc5, go_sem, ↓IntWalk.iteOmega]; done) | (simp [hc1, hc2, hc3, hc5, hc6, go_sem, ↓IntWalk.iteOmega]; done) | (first | (simp [go_sem]; done) | (repeat' (first | (with_reducible assumption) | (with_reducible refine And.intro ?_ ?_) | (with_reducible refine cell_drew ?_) | (with_reducible refine cell_via (by with_reducible assumption) ?_ ?_) | (simp [*]; done) | (simp [go_sem]; done) | (with_reducible refine cell_alloc ?_ ?_) | (with_reducible refine cell_set_far ?_ ?_) | omega | (simp; omega))))) (first | (go_at_call 93; (with_reducible refine (C2.out _).mono ?_); rintro e w5 ⟨rfl, hb5⟩; obtain ⟨fc5, fg5, hc5, hf5, hz5⟩ := bget hb5; (try simp at hz5)) | (go_at_call 92; (with_reducible refine (C4.out _).mono ?_); rintro e w6 ⟨rfl, hb6⟩; obtain ⟨fc6, fg6, hc6, hf6, hz6⟩ := bget hb6; (try simp at hz6)))
  go_wp2
  all_goals
    refine bodyPost_ret (by simp [results, Try.results97, go_sem, ↓IntWalk.iteOmega, hc1, hc2, hc3, hc5, hc6]; try rfl) rfl ⟨rfl, ?_⟩
    (repeat' (first | (with_reducible exact Below.refl _ _) | (with_reducible assumption) | (with_reducible refine Below.alloc ?_ ?_ _) | (with_reducible refine Below.setCell ?_ ?_ _) | (with_reducible refine Below.drew ?_) | (with_reducible refine below_drewN ?_ _) | (with_reducible refine below_via ?_ (by with_reducible assumption) ?_) | omega | (simp; done) | (simp; omega)))
set_option maxRecDepth 100000 in
set_option maxHeartbeats 4000000 in
theorem wideDivNeg0 (n m d : Int) (w : World) (hn : In128 n) (hd : 0 < d) (hd1 : d ≤ 9223372036854775807) (hm : m = iabs n) (hsg : decide (n < 0) = true) (hm0 : 0 ≤ m) (hm1 : m ≤ 170141183460469231731687303715884105728) (hr : m % d = 0) :
    Calls Try.prog 97 #[(.agg #[.int .i64 (whi (n)), .int .u64 (wlo (n))]), .int .i64 d] w fun e w' => e = .returned (.tuple #[(.agg #[.int .i64 (whi (- (m / d))), .int .u64 (wlo (- (m / d)))]), .int .i64 (0), .int .i64 0]) ∧ Below w.heap.size w w' := by
  have hq := Int.ediv_le_self d hm0
  have hq0 : 0 ≤ m / d := Int.ediv_nonneg hm0 (by omega)
  have hi : In128 (- (m / d)) := by unfold In128; omega
  have c4 := fun W => wideSigned true (m / d) W (by omega) (by omega)
  rw [show wrap128 (sgn true (m / d)) = - (m / d) from by rw [show sgn true (m / d) = - (m / d) from rfl, wrap128_in hi]] at c4
  have C4 := Lib.hid c4
  have h2 := whi_i hn
  have L := long_div (m := m) (d := d) (by omega) hd
  have L1 := Lib.hid L.1
  have L2 := Lib.hid L.2.1
  have L3 := Lib.hid L.2.2
  have c1 := fun W => wideSize n W hn
  have c2 := fun W => wideBelow n W hn
  rw [← hm] at c1
  rw [hsg] at c2
  have C1 := Lib.hid c1
  have C2 := Lib.hid c2
  have hw := wlo_u m
  have hh : 0 ≤ whi m ∧ whi m ≤ 9223372036854775808 := (by unfold whi; omega)
  have hr0 := Int.emod_nonneg (whi m) (show d ≠ 0 by omega)
  have hr1 := Int.emod_lt_of_pos (whi m) hd
  have hR0 := Int.emod_nonneg m (show d ≠ 0 by omega)
  have hR1 := Int.emod_lt_of_pos m hd
  have d0 : (d == 0) = false := (by simp; omega)
  have d1 : ¬ d = 0 := (by omega)
  have d2 : decide (d < 0) = false := (by simp; omega)
  clear c1 c2 L hm
  rw [hr] at L3
  clear c4 hsg hR0 hR1 hr
  go_enter Try.func97, Try.ntmps97
  go_wp2_with (go_at_call 91; (with_reducible refine (C1.out _).mono ?_); rintro e w1 ⟨rfl, hb1⟩; obtain ⟨fc1, fg1, hc1, hf1, hz1⟩ := bget hb1; (try simp at hz1))
  go_quiet (fail)
  go_wp2_with (first | (go_at_call 96; (with_reducible refine (div64 (whi m % d) (wlo m) d _ hr0 hr1 (by omega) hw.1 hw.2).mono ?_); rintro e w2 ⟨rfl, hb2⟩; rw [L1.out, L2.out, L3.out]; obtain ⟨fc2, fg2, hc2, hf2, hz2⟩ := bget hb2; (try simp at hz2)) | (go_at_call 93; (with_reducible refine (C2.out _).mono ?_); rintro e w3 ⟨rfl, hb3⟩; obtain ⟨fc3, fg3, hc3, hf3, hz3⟩ := bget hb3; (try simp at hz3)))
  go_region_held3 (fun w' => w'.cell? ⟨w.heap.size, 0, none⟩ = some (.int .i64 (whi n)) ∧ w'.cell? ⟨w.heap.size, 1, none⟩ = some (.int .u64 (wlo n)) ∧ w'.cell? ⟨w2.heap.size, 0, none⟩ = some (.int .u64 (whi (m / d))) ∧ w'.cell? ⟨w2.heap.size, 1, none⟩ = some (.int .u64 (wlo (m / d)))) (first | (simp [hc1, hc2, hc3, go_sem, ↓IntWalk.iteOmega]; done) | (simp [hc1, hc2, hc3, hc5, go_sem, ↓IntWalk.iteOmega]; done) | (simp [hc1, hc2, hc3, hc5, hc6, go_sem, ↓IntWalk.iteOmega]; done) | (first | (simp [go_sem]; done) | (repeat' (first | (with_reducible assumption) | (with_reducible refine And.intro ?_ ?_) | (with_reducible refine cell_drew ?_) | (with_reducible refine cell_via (by with_reducible assumption) ?_ ?_) | (simp [*]; done) | (simp [go_sem]; done) | (with_reducible refine cell_alloc ?_ ?_) | (with_reducible refine cell_set_far ?_ ?_) | omega | (simp; omega))))) (first | (go_at_call 93; (with_reducible refine (C2.out _).mono ?_); rintro e w5 ⟨rfl, hb5⟩; obtain ⟨fc5, fg5, hc5, hf5, hz5⟩ := bget hb5; (try simp at hz5)) | (go_at_call 92; (with_reducible refine (C4.out _).mono ?_); rintro e w6 ⟨rfl, hb6⟩; obtain ⟨fc6, fg6, hc6, hf6, hz6⟩ := bget hb6; (try simp at hz6)))
  go_wp2
  all_goals
    refine bodyPost_ret (by simp [results, Try.results97, go_sem, ↓IntWalk.iteOmega, hc1, hc2, hc3, hc5, hc6]; try rfl) rfl ⟨rfl, ?_⟩
    (repeat' (first | (with_reducible exact Below.refl _ _) | (with_reducible assumption) | (with_reducible refine Below.alloc ?_ ?_ _) | (with_reducible refine Below.setCell ?_ ?_ _) | (with_reducible refine Below.drew ?_) | (with_reducible refine below_drewN ?_ _) | (with_reducible refine below_via ?_ (by with_reducible assumption) ?_) | omega | (simp; done) | (simp; omega)))
set_option maxRecDepth 100000 in
set_option maxHeartbeats 4000000 in
theorem wideDivNeg1 (n m d : Int) (w : World) (hn : In128 n) (hd : 0 < d) (hd1 : d ≤ 9223372036854775807) (hm : m = iabs n) (hsg : decide (n < 0) = true) (hm0 : 0 ≤ m) (hm1 : m ≤ 170141183460469231731687303715884105728) (hr : 0 < m % d) :
    Calls Try.prog 97 #[(.agg #[.int .i64 (whi (n)), .int .u64 (wlo (n))]), .int .i64 d] w fun e w' => e = .returned (.tuple #[(.agg #[.int .i64 (whi (- (m / d + 1))), .int .u64 (wlo (- (m / d + 1)))]), .int .i64 (d - m % d), .int .i64 0]) ∧ Below w.heap.size w w' := by
  have hq := Int.ediv_le_self d hm0
  have hq0 : 0 ≤ m / d := Int.ediv_nonneg hm0 (by omega)
  have hq2 : m / d + 1 ≤ 170141183460469231731687303715884105728 := by
    have e := Int.mul_ediv_add_emod m d
    have e2 : 1 * (m / d) ≤ d * (m / d) := Int.mul_le_mul_of_nonneg_right (by omega) hq0
    omega
  have hi : In128 (- (m / d + 1)) := by unfold In128; omega
  have hu := wlo_u (m / d)
  have e1 := add64 (wlo (m / d)) 1 0 hu.1 (by omega) (by omega) (by omega)
  have g1 : wlo (wlo (m / d) + 1) = wlo (m / d + 1) := by unfold wlo; omega
  have g2 : whi (m / d) + whi (wlo (m / d) + 1) = whi (m / d + 1) := by unfold wlo whi; omega
  have g3 : 0 ≤ whi (m / d) ∧ whi (m / d) ≤ 9223372036854775808 := by unfold whi; omega
  have g4 : 0 ≤ whi (wlo (m / d) + 1) ∧ whi (wlo (m / d) + 1) ≤ 1 := by unfold whi; omega
  simp only [Int.add_zero] at e1
  rw [g1] at e1
  obtain ⟨c, hc⟩ : ∃ c, c = whi (wlo (m / d) + 1) := ⟨_, rfl⟩
  rw [← hc] at e1 g2 g4
  clear hc g1
  have c4 := fun W => wideSigned true (m / d + 1) W (by omega) (by omega)
  rw [show wrap128 (sgn true (m / d + 1)) = - (m / d + 1) from by rw [show sgn true (m / d + 1) = - (m / d + 1) from rfl, wrap128_in hi]] at c4
  have C4 := Lib.hid c4
  have h2 := whi_i hn
  have L := long_div (m := m) (d := d) (by omega) hd
  have L1 := Lib.hid L.1
  have L2 := Lib.hid L.2.1
  have L3 := Lib.hid L.2.2
  have c1 := fun W => wideSize n W hn
  have c2 := fun W => wideBelow n W hn
  rw [← hm] at c1
  rw [hsg] at c2
  have C1 := Lib.hid c1
  have C2 := Lib.hid c2
  have hw := wlo_u m
  have hh : 0 ≤ whi m ∧ whi m ≤ 9223372036854775808 := (by unfold whi; omega)
  have hr0 := Int.emod_nonneg (whi m) (show d ≠ 0 by omega)
  have hr1 := Int.emod_lt_of_pos (whi m) hd
  have hR0 := Int.emod_nonneg m (show d ≠ 0 by omega)
  have hR1 := Int.emod_lt_of_pos m hd
  have d0 : (d == 0) = false := (by simp; omega)
  have d1 : ¬ d = 0 := (by omega)
  have d2 : decide (d < 0) = false := (by simp; omega)
  clear c1 c2 L hm
  clear c4 hsg
  go_enter Try.func97, Try.ntmps97
  go_wp2_with (go_at_call 91; (with_reducible refine (C1.out _).mono ?_); rintro e w1 ⟨rfl, hb1⟩; obtain ⟨fc1, fg1, hc1, hf1, hz1⟩ := bget hb1; (try simp at hz1))
  go_quiet (fail)
  go_wp2_with (first | (go_at_call 96; (with_reducible refine (div64 (whi m % d) (wlo m) d _ hr0 hr1 (by omega) hw.1 hw.2).mono ?_); rintro e w2 ⟨rfl, hb2⟩; rw [L1.out, L2.out, L3.out]; obtain ⟨fc2, fg2, hc2, hf2, hz2⟩ := bget hb2; (try simp at hz2)) | (go_at_call 93; (with_reducible refine (C2.out _).mono ?_); rintro e w3 ⟨rfl, hb3⟩; obtain ⟨fc3, fg3, hc3, hf3, hz3⟩ := bget hb3; (try simp at hz3)))
  go_region_held3 (fun w' => w'.cell? ⟨w.heap.size, 0, none⟩ = some (.int .i64 (whi n)) ∧ w'.cell? ⟨w.heap.size, 1, none⟩ = some (.int .u64 (wlo n)) ∧ w'.cell? ⟨w2.heap.size, 0, none⟩ = some (.int .u64 (whi (m / d + 1))) ∧ w'.cell? ⟨w2.heap.size, 1, none⟩ = some (.int .u64 (wlo (m / d + 1)))) (first | (simp [hc1, hc2, hc3, go_sem, ↓IntWalk.iteOmega]; done) | (simp [hc1, hc2, hc3, hc5, go_sem, ↓IntWalk.iteOmega]; done) | (simp [hc1, hc2, hc3, hc5, hc6, go_sem, ↓IntWalk.iteOmega]; done) | (first | (simp [go_sem]; done) | (repeat' (first | (with_reducible assumption) | (with_reducible refine And.intro ?_ ?_) | (with_reducible refine cell_drew ?_) | (with_reducible refine cell_via (by with_reducible assumption) ?_ ?_) | (simp [*]; done) | (simp [go_sem]; done) | (with_reducible refine cell_alloc ?_ ?_) | (with_reducible refine cell_set_far ?_ ?_) | omega | (simp; omega))))) (first | (go_at_call 93; (with_reducible refine (C2.out _).mono ?_); rintro e w5 ⟨rfl, hb5⟩; obtain ⟨fc5, fg5, hc5, hf5, hz5⟩ := bget hb5; (try simp at hz5)) | (go_at_call 92; (with_reducible refine (C4.out _).mono ?_); rintro e w6 ⟨rfl, hb6⟩; obtain ⟨fc6, fg6, hc6, hf6, hz6⟩ := bget hb6; (try simp at hz6)))
  go_wp2
  all_goals
    refine bodyPost_ret (by simp [results, Try.results97, go_sem, ↓IntWalk.iteOmega, hc1, hc2, hc3, hc5, hc6]; try rfl) rfl ⟨rfl, ?_⟩
    (repeat' (first | (with_reducible exact Below.refl _ _) | (with_reducible assumption) | (with_reducible refine Below.alloc ?_ ?_ _) | (with_reducible refine Below.setCell ?_ ?_ _) | (with_reducible refine Below.drew ?_) | (with_reducible refine below_drewN ?_ _) | (with_reducible refine below_via ?_ (by with_reducible assumption) ?_) | omega | (simp; done) | (simp; omega)))
theorem wideDiv (n d : Int) (w : World) (hn : In128 n) (hd : 0 < d) (hd1 : d ≤ 9223372036854775807) :
    Calls Try.prog 97 #[(.agg #[.int .i64 (whi (n)), .int .u64 (wlo (n))]), .int .i64 d] w fun e w' => e = .returned (.tuple #[(.agg #[.int .i64 (whi (n / d)), .int .u64 (wlo (n / d))]), .int .i64 (n % d), .int .i64 0]) ∧ Below w.heap.size w w' := by
  have hm : 0 ≤ iabs n ∧ iabs n ≤ 170141183460469231731687303715884105728 := by unfold In128 at hn; unfold iabs; split <;> omega
  by_cases h : n < 0
  · have hs := iabs_neg h
    have e2 := Int.emod_nonneg (iabs n) (show d ≠ 0 by omega)
    rcases (show iabs n % d = 0 ∨ 0 < iabs n % d by omega) with hr | hr
    · have hf := floor_neg0 hs hd hr
      rw [hf.1, hf.2]
      exact wideDivNeg0 n (iabs n) d w hn hd hd1 rfl (by simpa using h) hm.1 hm.2 hr
    · have hf := floor_neg1 hs hd hr
      rw [hf.1, hf.2]
      exact wideDivNeg1 n (iabs n) d w hn hd hd1 rfl (by simpa using h) hm.1 hm.2 hr
  · have hs := iabs_pos (show 0 ≤ n by omega)
    have hp := wideDivPos n (iabs n) d w hn hd hd1 rfl (by simpa using h) hm.1 hm.2
    rw [hs] at hp
    exact hp
set_option maxRecDepth 100000 in
set_option maxHeartbeats 1000000 in
theorem wideDivZero (n : Int) (w : World) :
    Calls Try.prog 97 #[(.agg #[.int .i64 (whi (n)), .int .u64 (wlo (n))]), .int .i64 0] w fun e w' => e = .returned (.tuple #[.agg #[.int .i64 0, .int .u64 0], .int .i64 0, .int .i64 8]) ∧ Below w.heap.size w w' := by
  go_enter Try.func97, Try.ntmps97
  go_wp2
  refine bodyPost_ret (by simp [results, Try.results97, go_sem, ]; try rfl) rfl ⟨rfl, ?_⟩
  (repeat' (first | (with_reducible exact Below.refl _ _) | (with_reducible assumption) | (with_reducible refine Below.alloc ?_ ?_ _) | (with_reducible refine Below.setCell ?_ ?_ _) | (with_reducible refine Below.drew ?_) | (with_reducible refine below_drewN ?_ _) | (with_reducible refine below_via ?_ (by with_reducible assumption) ?_) | omega | (simp; done) | (simp; omega)))
set_option maxRecDepth 100000 in
set_option maxHeartbeats 1000000 in
theorem wideDivNeg (n d : Int) (w : World) (hd : d < 0) :
    Calls Try.prog 97 #[(.agg #[.int .i64 (whi (n)), .int .u64 (wlo (n))]), .int .i64 d] w fun e w' => e = .returned (.tuple #[.agg #[.int .i64 0, .int .u64 0], .int .i64 0, .int .i64 2]) ∧ Below w.heap.size w w' := by
  have d0 : (d == 0) = false := by simp; omega
  have d2 : decide (d < 0) = true := by simpa using hd
  go_enter Try.func97, Try.ntmps97
  go_wp2
  refine bodyPost_ret (by simp [results, Try.results97, go_sem, ]; try rfl) rfl ⟨rfl, ?_⟩
  (repeat' (first | (with_reducible exact Below.refl _ _) | (with_reducible assumption) | (with_reducible refine Below.alloc ?_ ?_ _) | (with_reducible refine Below.setCell ?_ ?_ _) | (with_reducible refine Below.drew ?_) | (with_reducible refine below_drewN ?_ _) | (with_reducible refine below_via ?_ (by with_reducible assumption) ?_) | omega | (simp; done) | (simp; omega)))
end Go.Proofs.Ytpjehhkmdndcmaa

/- The contract of wide.Times. -/
namespace Go.Proofs.Ytpjehhkmdndcmaa
open Go.RowKit
attribute [local go_sem] fieldSizeLo
set_option maxRecDepth 100000 in
set_option maxHeartbeats 8000000 in
theorem wideTimesYes (n k : Int) (w : World) (hn : In128 n) (hk : In64 k) (hr : In128 (n * k)) :
    Calls Try.prog 61 #[(.agg #[.int .i64 (whi (n)), .int .u64 (wlo (n))]), .int .i64 k] w fun e w' => e = .returned (.tuple #[(.agg #[.int .i64 (whi (n * k)), .int .u64 (wlo (n * k))]), .int .i64 0]) ∧ Below w.heap.size w w' := by
  have a128 := in128_of64 hk
  have ea := wlo_abs64 hk
  have hx : 0 ≤ iabs n ∧ iabs n ≤ 170141183460469231731687303715884105728 := (by unfold In128 at hn; unfold iabs; split <;> omega)
  have hy : 0 ≤ iabs k ∧ iabs k ≤ 9223372036854775808 := (by unfold In64 at hk; unfold iabs; split <;> omega)
  have T := times_words (iabs n) (iabs k) hx hy
  have hw := wlo_u (iabs n)
  have hh : 0 ≤ whi (iabs n) ∧ whi (iabs n) ≤ 18446744073709551615 := (by unfold whi; omega)
  have hp := iabs_mul n k
  have hsm := sgn_mul n k
  obtain ⟨over, hover⟩ : ∃ over, over = whi (whi (iabs n) * iabs k) := ⟨_, rfl⟩
  obtain ⟨high, hhigh⟩ : ∃ high, high = wlo (whi (iabs n) * iabs k) := ⟨_, rfl⟩
  obtain ⟨carried, hcarried⟩ : ∃ carried, carried = whi (wlo (iabs n) * iabs k) := ⟨_, rfl⟩
  obtain ⟨lo, hlo⟩ : ∃ lo, lo = wlo (wlo (iabs n) * iabs k) := ⟨_, rfl⟩
  have c3 := fun W => mul64 (whi (iabs n)) (iabs k) W hh.1 hh.2 hy.1 (by omega)
  have c4 := fun W => mul64 (wlo (iabs n)) (iabs k) W hw.1 hw.2 hy.1 (by omega)
  have b1 : 0 ≤ high ∧ high ≤ 18446744073709551615 := (by rw [hhigh]; exact wlo_u _)
  have b2 : 0 ≤ carried ∧ carried ≤ 18446744073709551615 := (by
    rw [hcarried]
    have m2 : 0 ≤ wlo (iabs n) * iabs k := Int.mul_nonneg hw.1 hy.1
    have m3 : wlo (iabs n) * iabs k ≤ 18446744073709551615 * 9223372036854775808 := Int.mul_le_mul hw.2 hy.2 hy.1 (by omega)
    unfold whi; omega)
  simp only at T
  rw [← hover, ← hhigh] at c3
  rw [← hcarried, ← hlo] at c4
  rw [← hover, ← hhigh, ← hcarried, ← hlo] at T
  have e1 := add64 high carried 0 b1.1 b2.1 (by omega) (by omega)
  simp only [Int.add_zero] at e1
  obtain ⟨hi, hhi⟩ : ∃ hi, hi = wlo (high + carried) := ⟨_, rfl⟩
  obtain ⟨carry, hcarry⟩ : ∃ carry, carry = whi (high + carried) := ⟨_, rfl⟩
  rw [← hhi, ← hcarry] at e1 T
  rw [hp] at T hsm
  have b3 : 0 ≤ hi ∧ hi ≤ 18446744073709551615 := (by rw [hhi]; exact wlo_u _)
  have b4 : 0 ≤ lo ∧ lo ≤ 18446744073709551615 := (by rw [hlo]; exact wlo_u _)
  have c1 := fun W => wideSize n W hn
  have c2 := fun W => wideOf k W hk
  have c5 := fun W => wideSize k W a128
  have c6 := fun W => wideBelow n W hn
  have C1 := Lib.hid c1
  have C2 := Lib.hid c2
  have C3 := Lib.hid c3
  have C4 := Lib.hid c4
  have C5 := Lib.hid c5
  have C6 := Lib.hid c6
  have EA := Lib.hid ea
  have HSM := Lib.hid hsm
  clear c1 c2 c3 c4 c5 c6 ea hsm hover hhigh hcarried hlo hhi hcarry hp
  have hP : 0 ≤ iabs (n * k) ∧ iabs (n * k) < 340282366920938463463374607431768211456 := by unfold In128 at hr; unfold iabs; split <;> omega
  have hz : over = 0 ∧ carry = 0 := Decidable.byContradiction fun h => by have := T.2 h; omega
  have ht := T.1 hz
  obtain ⟨rfl, rfl⟩ := hz
  obtain ⟨rfl, rfl, _⟩ := ht
  have c7 := fun W => wideSigned (!(decide (n < 0) == decide (k < 0))) (iabs (n * k)) W hP.1 hP.2
  rw [show sgn (!(decide (n < 0) == decide (k < 0))) (iabs (n * k)) = n * k from HSM.out, wrap128_in hr, in128_true hr] at c7
  have C7 := Lib.hid c7
  clear c7 T HSM
  go_enter Try.func61, Try.ntmps61
  go_wp2_with (first | (go_at_call 91; (with_reducible refine (C1.out _).mono ?_); rintro e w1 ⟨rfl, hb1⟩; obtain ⟨fc1, fg1, hc1, hf1, hz1⟩ := bget hb1; (try simp at hz1)) | (go_at_call 89; (with_reducible refine (C2.out _).mono ?_); rintro e w2 ⟨rfl, hb2⟩; obtain ⟨fc2, fg2, hc2, hf2, hz2⟩ := bget hb2; (try simp at hz2)) | (go_at_call 91; (with_reducible refine (C5.out _).mono ?_); rintro e w3 ⟨rfl, hb3⟩; rw [EA.out]; obtain ⟨fc3, fg3, hc3, hf3, hz3⟩ := bget hb3; (try simp at hz3)) | (go_at_call 90; (with_reducible refine (C3.out _).mono ?_); rintro e w4 ⟨rfl, rfl⟩) | (go_at_call 90; (with_reducible refine (C4.out _).mono ?_); rintro e w5 ⟨rfl, rfl⟩) | (go_at_call 93; (with_reducible refine (C6.out _).mono ?_); rintro e w6 ⟨rfl, hb6⟩; obtain ⟨fc6, fg6, hc6, hf6, hz6⟩ := bget hb6; (try simp at hz6)) | (go_at_call 92; (with_reducible refine (C7.out _).mono ?_); rintro e w7 ⟨rfl, hb7⟩; obtain ⟨fc7, fg7, hc7, hf7, hz7⟩ := bget hb7; (try simp at hz7)) | (go_at_call 95; (with_reducible refine (wideRangedYes (n * k) _).mono ?_); rintro e w8 ⟨rfl, hb8⟩; obtain ⟨fc8, fg8, hc8, hf8, hz8⟩ := bget hb8; (try simp at hz8)) | fail)
  refine bodyPost_ret (by simp [results, Try.results61, go_sem, ↓IntWalk.iteOmega, hc1, hc2, hc3, hc6, hc7, hc8]; try rfl) rfl ⟨rfl, ?_⟩
  (repeat' (first | (with_reducible exact Below.refl _ _) | (with_reducible assumption) | (with_reducible refine Below.alloc ?_ ?_ _) | (with_reducible refine Below.setCell ?_ ?_ _) | (with_reducible refine Below.drew ?_) | (with_reducible refine below_drewN ?_ _) | (with_reducible refine below_via ?_ (by with_reducible assumption) ?_) | omega | (simp; done) | (simp; omega)))
set_option maxRecDepth 100000 in
set_option maxHeartbeats 8000000 in
theorem wideTimesNoA (n k : Int) (w : World) (hn : In128 n) (hk : In64 k) (hr : ¬ In128 (n * k)) (hlt : iabs (n * k) < 340282366920938463463374607431768211456) :
    Calls Try.prog 61 #[(.agg #[.int .i64 (whi (n)), .int .u64 (wlo (n))]), .int .i64 k] w fun e w' => e = .returned (.tuple #[.agg #[.int .i64 0, .int .u64 0], .int .i64 7]) ∧ Below w.heap.size w w' := by
  have a128 := in128_of64 hk
  have ea := wlo_abs64 hk
  have hx : 0 ≤ iabs n ∧ iabs n ≤ 170141183460469231731687303715884105728 := (by unfold In128 at hn; unfold iabs; split <;> omega)
  have hy : 0 ≤ iabs k ∧ iabs k ≤ 9223372036854775808 := (by unfold In64 at hk; unfold iabs; split <;> omega)
  have T := times_words (iabs n) (iabs k) hx hy
  have hw := wlo_u (iabs n)
  have hh : 0 ≤ whi (iabs n) ∧ whi (iabs n) ≤ 18446744073709551615 := (by unfold whi; omega)
  have hp := iabs_mul n k
  have hsm := sgn_mul n k
  obtain ⟨over, hover⟩ : ∃ over, over = whi (whi (iabs n) * iabs k) := ⟨_, rfl⟩
  obtain ⟨high, hhigh⟩ : ∃ high, high = wlo (whi (iabs n) * iabs k) := ⟨_, rfl⟩
  obtain ⟨carried, hcarried⟩ : ∃ carried, carried = whi (wlo (iabs n) * iabs k) := ⟨_, rfl⟩
  obtain ⟨lo, hlo⟩ : ∃ lo, lo = wlo (wlo (iabs n) * iabs k) := ⟨_, rfl⟩
  have c3 := fun W => mul64 (whi (iabs n)) (iabs k) W hh.1 hh.2 hy.1 (by omega)
  have c4 := fun W => mul64 (wlo (iabs n)) (iabs k) W hw.1 hw.2 hy.1 (by omega)
  have b1 : 0 ≤ high ∧ high ≤ 18446744073709551615 := (by rw [hhigh]; exact wlo_u _)
  have b2 : 0 ≤ carried ∧ carried ≤ 18446744073709551615 := (by
    rw [hcarried]
    have m2 : 0 ≤ wlo (iabs n) * iabs k := Int.mul_nonneg hw.1 hy.1
    have m3 : wlo (iabs n) * iabs k ≤ 18446744073709551615 * 9223372036854775808 := Int.mul_le_mul hw.2 hy.2 hy.1 (by omega)
    unfold whi; omega)
  simp only at T
  rw [← hover, ← hhigh] at c3
  rw [← hcarried, ← hlo] at c4
  rw [← hover, ← hhigh, ← hcarried, ← hlo] at T
  have e1 := add64 high carried 0 b1.1 b2.1 (by omega) (by omega)
  simp only [Int.add_zero] at e1
  obtain ⟨hi, hhi⟩ : ∃ hi, hi = wlo (high + carried) := ⟨_, rfl⟩
  obtain ⟨carry, hcarry⟩ : ∃ carry, carry = whi (high + carried) := ⟨_, rfl⟩
  rw [← hhi, ← hcarry] at e1 T
  rw [hp] at T hsm
  have b3 : 0 ≤ hi ∧ hi ≤ 18446744073709551615 := (by rw [hhi]; exact wlo_u _)
  have b4 : 0 ≤ lo ∧ lo ≤ 18446744073709551615 := (by rw [hlo]; exact wlo_u _)
  have c1 := fun W => wideSize n W hn
  have c2 := fun W => wideOf k W hk
  have c5 := fun W => wideSize k W a128
  have c6 := fun W => wideBelow n W hn
  have C1 := Lib.hid c1
  have C2 := Lib.hid c2
  have C3 := Lib.hid c3
  have C4 := Lib.hid c4
  have C5 := Lib.hid c5
  have C6 := Lib.hid c6
  have EA := Lib.hid ea
  have HSM := Lib.hid hsm
  clear c1 c2 c3 c4 c5 c6 ea hsm hover hhigh hcarried hlo hhi hcarry hp
  have hP : 0 ≤ iabs (n * k) := by unfold iabs; split <;> omega
  have hz : over = 0 ∧ carry = 0 := Decidable.byContradiction fun h => by have := T.2 h; omega
  have ht := T.1 hz
  obtain ⟨rfl, rfl⟩ := hz
  obtain ⟨rfl, rfl, _⟩ := ht
  have c7 := fun W => wideSigned (!(decide (n < 0) == decide (k < 0))) (iabs (n * k)) W hP hlt
  rw [show sgn (!(decide (n < 0) == decide (k < 0))) (iabs (n * k)) = n * k from HSM.out, in128_false hr] at c7
  generalize wrap128 (n * k) = r at c7
  have C7 := Lib.hid c7
  clear c7 T HSM hr hlt
  go_enter Try.func61, Try.ntmps61
  go_wp2_with (first | (go_at_call 91; (with_reducible refine (C1.out _).mono ?_); rintro e w1 ⟨rfl, hb1⟩; obtain ⟨fc1, fg1, hc1, hf1, hz1⟩ := bget hb1; (try simp at hz1)) | (go_at_call 89; (with_reducible refine (C2.out _).mono ?_); rintro e w2 ⟨rfl, hb2⟩; obtain ⟨fc2, fg2, hc2, hf2, hz2⟩ := bget hb2; (try simp at hz2)) | (go_at_call 91; (with_reducible refine (C5.out _).mono ?_); rintro e w3 ⟨rfl, hb3⟩; rw [EA.out]; obtain ⟨fc3, fg3, hc3, hf3, hz3⟩ := bget hb3; (try simp at hz3)) | (go_at_call 90; (with_reducible refine (C3.out _).mono ?_); rintro e w4 ⟨rfl, rfl⟩) | (go_at_call 90; (with_reducible refine (C4.out _).mono ?_); rintro e w5 ⟨rfl, rfl⟩) | (go_at_call 93; (with_reducible refine (C6.out _).mono ?_); rintro e w6 ⟨rfl, hb6⟩; obtain ⟨fc6, fg6, hc6, hf6, hz6⟩ := bget hb6; (try simp at hz6)) | (go_at_call 92; (with_reducible refine (C7.out _).mono ?_); rintro e w7 ⟨rfl, hb7⟩; obtain ⟨fc7, fg7, hc7, hf7, hz7⟩ := bget hb7; (try simp at hz7)) | (go_at_call 95; (with_reducible refine (wideRangedNo _ _ _).mono ?_); rintro e w8 ⟨rfl, hb8⟩; obtain ⟨fc8, fg8, hc8, hf8, hz8⟩ := bget hb8; (try simp at hz8)) | fail)
  refine bodyPost_ret (by simp [results, Try.results61, go_sem, ↓IntWalk.iteOmega, hc1, hc2, hc3, hc6, hc7, hc8]; try rfl) rfl ⟨rfl, ?_⟩
  (repeat' (first | (with_reducible exact Below.refl _ _) | (with_reducible assumption) | (with_reducible refine Below.alloc ?_ ?_ _) | (with_reducible refine Below.setCell ?_ ?_ _) | (with_reducible refine Below.drew ?_) | (with_reducible refine below_drewN ?_ _) | (with_reducible refine below_via ?_ (by with_reducible assumption) ?_) | omega | (simp; done) | (simp; omega)))
set_option maxRecDepth 100000 in
set_option maxHeartbeats 8000000 in
theorem wideTimesNoB (n k : Int) (w : World) (hn : In128 n) (hk : In64 k)  (hge : 340282366920938463463374607431768211456 ≤ iabs (n * k)) :
    Calls Try.prog 61 #[(.agg #[.int .i64 (whi (n)), .int .u64 (wlo (n))]), .int .i64 k] w fun e w' => e = .returned (.tuple #[.agg #[.int .i64 0, .int .u64 0], .int .i64 7]) ∧ Below w.heap.size w w' := by
  have a128 := in128_of64 hk
  have ea := wlo_abs64 hk
  have hx : 0 ≤ iabs n ∧ iabs n ≤ 170141183460469231731687303715884105728 := (by unfold In128 at hn; unfold iabs; split <;> omega)
  have hy : 0 ≤ iabs k ∧ iabs k ≤ 9223372036854775808 := (by unfold In64 at hk; unfold iabs; split <;> omega)
  have T := times_words (iabs n) (iabs k) hx hy
  have hw := wlo_u (iabs n)
  have hh : 0 ≤ whi (iabs n) ∧ whi (iabs n) ≤ 18446744073709551615 := (by unfold whi; omega)
  have hp := iabs_mul n k
  have hsm := sgn_mul n k
  obtain ⟨over, hover⟩ : ∃ over, over = whi (whi (iabs n) * iabs k) := ⟨_, rfl⟩
  obtain ⟨high, hhigh⟩ : ∃ high, high = wlo (whi (iabs n) * iabs k) := ⟨_, rfl⟩
  obtain ⟨carried, hcarried⟩ : ∃ carried, carried = whi (wlo (iabs n) * iabs k) := ⟨_, rfl⟩
  obtain ⟨lo, hlo⟩ : ∃ lo, lo = wlo (wlo (iabs n) * iabs k) := ⟨_, rfl⟩
  have c3 := fun W => mul64 (whi (iabs n)) (iabs k) W hh.1 hh.2 hy.1 (by omega)
  have c4 := fun W => mul64 (wlo (iabs n)) (iabs k) W hw.1 hw.2 hy.1 (by omega)
  have b1 : 0 ≤ high ∧ high ≤ 18446744073709551615 := (by rw [hhigh]; exact wlo_u _)
  have b2 : 0 ≤ carried ∧ carried ≤ 18446744073709551615 := (by
    rw [hcarried]
    have m2 : 0 ≤ wlo (iabs n) * iabs k := Int.mul_nonneg hw.1 hy.1
    have m3 : wlo (iabs n) * iabs k ≤ 18446744073709551615 * 9223372036854775808 := Int.mul_le_mul hw.2 hy.2 hy.1 (by omega)
    unfold whi; omega)
  simp only at T
  rw [← hover, ← hhigh] at c3
  rw [← hcarried, ← hlo] at c4
  rw [← hover, ← hhigh, ← hcarried, ← hlo] at T
  have e1 := add64 high carried 0 b1.1 b2.1 (by omega) (by omega)
  simp only [Int.add_zero] at e1
  obtain ⟨hi, hhi⟩ : ∃ hi, hi = wlo (high + carried) := ⟨_, rfl⟩
  obtain ⟨carry, hcarry⟩ : ∃ carry, carry = whi (high + carried) := ⟨_, rfl⟩
  rw [← hhi, ← hcarry] at e1 T
  rw [hp] at T hsm
  have b3 : 0 ≤ hi ∧ hi ≤ 18446744073709551615 := (by rw [hhi]; exact wlo_u _)
  have b4 : 0 ≤ lo ∧ lo ≤ 18446744073709551615 := (by rw [hlo]; exact wlo_u _)
  have c1 := fun W => wideSize n W hn
  have c2 := fun W => wideOf k W hk
  have c5 := fun W => wideSize k W a128
  have c6 := fun W => wideBelow n W hn
  have C1 := Lib.hid c1
  have C2 := Lib.hid c2
  have C3 := Lib.hid c3
  have C4 := Lib.hid c4
  have C5 := Lib.hid c5
  have C6 := Lib.hid c6
  have EA := Lib.hid ea
  have HSM := Lib.hid hsm
  clear c1 c2 c3 c4 c5 c6 ea hsm hover hhigh hcarried hlo hhi hcarry hp
  have hz : ¬ (over = 0 ∧ carry = 0) := fun h => by have := (T.1 h).2.2; omega
  obtain ⟨m, hm⟩ : ∃ m, m = hi * 18446744073709551616 + lo := ⟨_, rfl⟩
  have hm1 : whi m = hi := by rw [hm]; unfold whi; omega
  have hm2 : wlo m = lo := by rw [hm]; unfold wlo; omega
  have c7 := fun W => wideSigned (!(decide (n < 0) == decide (k < 0))) m W (by omega) (by omega)
  rw [hm1, hm2] at c7
  generalize wrap128 (sgn (!(decide (n < 0) == decide (k < 0))) m) = r at c7
  generalize in128 (sgn (!(decide (n < 0) == decide (k < 0))) m) = ok at c7
  have C7 := Lib.hid c7
  clear c7 T HSM hge hm hm1 hm2
  have hzz : ((over == 0) = false) ∨ ((over == 0) = true ∧ (carry == 0) = false) := by
    by_cases h : over = 0
    · exact .inr ⟨by simpa using h, by simpa using fun h2 => hz ⟨h, h2⟩⟩
    · exact .inl (by simpa using h)
  clear hz
  rcases hzz with z1 | ⟨z1, z2⟩
  all_goals cases ok
  all_goals
    go_enter Try.func61, Try.ntmps61
    go_wp2_with (first | (go_at_call 91; (with_reducible refine (C1.out _).mono ?_); rintro e w1 ⟨rfl, hb1⟩; obtain ⟨fc1, fg1, hc1, hf1, hz1⟩ := bget hb1; (try simp at hz1)) | (go_at_call 89; (with_reducible refine (C2.out _).mono ?_); rintro e w2 ⟨rfl, hb2⟩; obtain ⟨fc2, fg2, hc2, hf2, hz2⟩ := bget hb2; (try simp at hz2)) | (go_at_call 91; (with_reducible refine (C5.out _).mono ?_); rintro e w3 ⟨rfl, hb3⟩; rw [EA.out]; obtain ⟨fc3, fg3, hc3, hf3, hz3⟩ := bget hb3; (try simp at hz3)) | (go_at_call 90; (with_reducible refine (C3.out _).mono ?_); rintro e w4 ⟨rfl, rfl⟩) | (go_at_call 90; (with_reducible refine (C4.out _).mono ?_); rintro e w5 ⟨rfl, rfl⟩) | (go_at_call 93; (with_reducible refine (C6.out _).mono ?_); rintro e w6 ⟨rfl, hb6⟩; obtain ⟨fc6, fg6, hc6, hf6, hz6⟩ := bget hb6; (try simp at hz6)) | (go_at_call 92; (with_reducible refine (C7.out _).mono ?_); rintro e w7 ⟨rfl, hb7⟩; obtain ⟨fc7, fg7, hc7, hf7, hz7⟩ := bget hb7; (try simp at hz7)) | (go_at_call 95; (with_reducible refine (wideRangedNo _ _ _).mono ?_); rintro e w8 ⟨rfl, hb8⟩; obtain ⟨fc8, fg8, hc8, hf8, hz8⟩ := bget hb8; (try simp at hz8)) | fail)
    refine bodyPost_ret (by simp [results, Try.results61, go_sem, ↓IntWalk.iteOmega, hc1, hc2, hc3, hc6, hc7, hc8]; try rfl) rfl ⟨rfl, ?_⟩
    (repeat' (first | (with_reducible exact Below.refl _ _) | (with_reducible assumption) | (with_reducible refine Below.alloc ?_ ?_ _) | (with_reducible refine Below.setCell ?_ ?_ _) | (with_reducible refine Below.drew ?_) | (with_reducible refine below_drewN ?_ _) | (with_reducible refine below_via ?_ (by with_reducible assumption) ?_) | omega | (simp; done) | (simp; omega)))
theorem wideTimesNo (n k : Int) (w : World) (hn : In128 n) (hk : In64 k) (hr : ¬ In128 (n * k)) :
    Calls Try.prog 61 #[(.agg #[.int .i64 (whi (n)), .int .u64 (wlo (n))]), .int .i64 k] w fun e w' => e = .returned (.tuple #[.agg #[.int .i64 0, .int .u64 0], .int .i64 7]) ∧ Below w.heap.size w w' := by
  by_cases h : iabs (n * k) < 340282366920938463463374607431768211456
  · exact wideTimesNoA n k w hn hk hr h
  · exact wideTimesNoB n k w hn hk (by omega)
end Go.Proofs.Ytpjehhkmdndcmaa

/- Assets: the type. -/
namespace Go.Proofs.Ytpjehhkmdndcmaa
open Go.RowKit
structure Asset where
  id : Int
  price : Int
  hair : Int
  deriving DecidableEq
def encAsset (x : Asset) : List Value := [.int .i64 x.id, .int .i64 x.price, .int .i64 x.hair]
def okAsset (x : Asset) : Prop := In64 x.id ∧ In64 x.price ∧ In64 x.hair
theorem rowsAsset (l : List Asset) : ∀ r ∈ l.map encAsset, r.length = 3 ∧ ∀ u ∈ r, u.oneCell' = true := by
  intro r hr
  obtain ⟨m, _, rfl⟩ := List.mem_map.1 hr
  refine ⟨rfl, ?_⟩
  simp only [encAsset, List.mem_cons, List.not_mem_nil, or_false, forall_eq_or_imp, forall_eq]
  exact ⟨rfl, rfl, rfl⟩
theorem encAsset_inj {x y : Asset} (h : encAsset x = encAsset y) : x = y := by
  unfold encAsset at h
  simp only [List.cons.injEq, Value.int.injEq, and_true, true_and] at h
  obtain ⟨h0, h1, h2⟩ := h
  obtain ⟨xid, xprice, xhair⟩ := x
  obtain ⟨yid, yprice, yhair⟩ := y
  simp only at h0 h1 h2
  subst h0 h1 h2
  rfl
theorem neqAsset {x y : Asset} (h : x ≠ y) : ((x.id == y.id) = false) ∨ ((x.price == y.price) = false) ∨ ((x.hair == y.hair) = false) := by
  cases h0 : (x.id == y.id)
  · simp
  cases h1 : (x.price == y.price)
  · simp
  cases h2 : (x.hair == y.hair)
  · simp
  · exfalso
    apply h
    obtain ⟨xid, xprice, xhair⟩ := x
    obtain ⟨yid, yprice, yhair⟩ := y
    simp_all
/-- Whether an asset may be. -/
def okA (x : Asset) : Prop := 1 ≤ x.id ∧ x.id ≤ 4 ∧ 0 ≤ x.price ∧ x.price ≤ 2147483647 ∧ 0 ≤ x.hair ∧ x.hair ≤ 10000
instance (x : Asset) : Decidable (okA x) := by unfold okA; infer_instance
/-- What counts of so many. -/
def countA (x : Asset) (q : Int) : Int := q * x.price * (10000 - x.hair) / 10000
/-- Parts counted one by one count as much as the whole, or one less. -/
theorem floor_parts (m a b d : Int) (hd : 0 < d) : a * m / d + b * m / d ≤ (a + b) * m / d ∧ (a + b) * m / d - a * m / d - b * m / d ≤ 1 := by
  have e1 := Int.mul_ediv_add_emod (a * m) d
  have e2 := Int.mul_ediv_add_emod (b * m) d
  have e3 := Int.mul_ediv_add_emod ((a + b) * m) d
  have r1 := Int.emod_nonneg (a * m) (show d ≠ 0 by omega)
  have r2 := Int.emod_nonneg (b * m) (show d ≠ 0 by omega)
  have r3 := Int.emod_nonneg ((a + b) * m) (show d ≠ 0 by omega)
  have s1 := Int.emod_lt_of_pos (a * m) hd
  have s2 := Int.emod_lt_of_pos (b * m) hd
  have s3 := Int.emod_lt_of_pos ((a + b) * m) hd
  have hs : (a + b) * m = a * m + b * m := Int.add_mul a b m
  generalize a * m / d = p at *
  generalize b * m / d = q at *
  generalize (a + b) * m / d = t at *
  have h1 : d * (t - p - q) < d * 2 := by rw [Int.mul_sub, Int.mul_sub]; omega
  have h2 : d * (-1) < d * (t - p - q) := by rw [Int.mul_sub, Int.mul_sub]; omega
  have h3 := Int.lt_of_mul_lt_mul_left h1 (by omega)
  have h4 := Int.lt_of_mul_lt_mul_left h2 (by omega)
  omega
theorem count_le {x : Asset} (h : okA x) {q : Int} (hq : 0 ≤ q) : 0 ≤ countA x q ∧ countA x q ≤ q * x.price := by
  obtain ⟨_, _, h1, _, h2, h3⟩ := h
  unfold countA
  have hw : 0 ≤ q * x.price := Int.mul_nonneg hq h1
  have hk : q * x.price * (10000 - x.hair) ≤ q * x.price * 10000 := Int.mul_le_mul_of_nonneg_left (by omega) hw
  have hk0 : 0 ≤ q * x.price * (10000 - x.hair) := Int.mul_nonneg hw (by omega)
  generalize q * x.price * (10000 - x.hair) = t at *
  generalize q * x.price = v at *
  omega
theorem count_mono {x : Asset} (h : okA x) {q r : Int} (hqr : q ≤ r) : countA x q ≤ countA x r := by
  obtain ⟨_, _, h1, _, h2, h3⟩ := h
  unfold countA
  have hk : q * x.price ≤ r * x.price := Int.mul_le_mul_of_nonneg_right hqr h1
  have hk2 : q * x.price * (10000 - x.hair) ≤ r * x.price * (10000 - x.hair) := Int.mul_le_mul_of_nonneg_right hk (by omega)
  generalize q * x.price * (10000 - x.hair) = t at *
  generalize r * x.price * (10000 - x.hair) = u at *
  omega
theorem count_parts (x : Asset) (a b : Int) : countA x a + countA x b ≤ countA x (a + b) ∧ countA x (a + b) - countA x a - countA x b ≤ 1 := by
  have h := floor_parts (x.price * (10000 - x.hair)) a b 10000 (by omega)
  unfold countA
  rw [Int.mul_assoc, Int.mul_assoc, Int.mul_assoc]
  exact h
/-- The least whose worth is not below. -/
theorem up_worth {a p : Int} (hp : 0 < p) : a ≤ (if 0 < a % p then a / p + 1 else a / p) * p ∧ (if 0 < a % p then a / p + 1 else a / p) * p - p < a := by
  have e := Int.mul_ediv_add_emod a p
  have r0 := Int.emod_nonneg a (show p ≠ 0 by omega)
  have r1 := Int.emod_lt_of_pos a hp
  rw [Int.mul_comm] at e
  split
  · rw [Int.add_mul]; omega
  · omega
end Go.Proofs.Ytpjehhkmdndcmaa

/- Assets: contracts of asset.Check and the reference's Is. -/
namespace Go.Proofs.Ytpjehhkmdndcmaa
open Go.RowKit
def pricedA (p : Int) : Bool := decide (0 ≤ p) && decide (p ≤ 2147483647)
set_option maxRecDepth 100000 in
set_option maxHeartbeats 2000000 in
theorem assetPriced (p : Int) (w : World) : Calls Try.prog 84 #[.int .i64 p] w fun e w' => e = .returned (.bool (pricedA p)) ∧ Below w.heap.size w w' := by
  by_cases h : 0 ≤ p
  · have d1 : decide (0 ≤ p) = true := by simpa using h
    have HP := Lib.hid (show pricedA p = decide (p ≤ 2147483647) from by unfold pricedA; rw [d1]; rfl)
    go_enter Try.func84, Try.ntmps84
    go_wp2_with fail
    go_ret
    exact ⟨by rw [HP.out]; first | done | rfl, by (repeat' (first | (with_reducible exact Below.refl _ _) | (with_reducible assumption) | (with_reducible refine Below.alloc ?_ ?_ _) | (with_reducible refine Below.setCell ?_ ?_ _) | (with_reducible refine Below.drew ?_) | (with_reducible refine below_drewN ?_ _) | (with_reducible refine below_via ?_ (by with_reducible assumption) ?_) | omega | (simp; done) | (simp; omega)))⟩
  · have d1 : decide (0 ≤ p) = false := by simpa using h
    have HP := Lib.hid (show pricedA p = false from by unfold pricedA; rw [d1]; rfl)
    go_enter Try.func84, Try.ntmps84
    go_wp2_with fail
    go_ret
    exact ⟨by rw [HP.out]; first | done | rfl, by (repeat' (first | (with_reducible exact Below.refl _ _) | (with_reducible assumption) | (with_reducible refine Below.alloc ?_ ?_ _) | (with_reducible refine Below.setCell ?_ ?_ _) | (with_reducible refine Below.drew ?_) | (with_reducible refine below_drewN ?_ _) | (with_reducible refine below_via ?_ (by with_reducible assumption) ?_) | omega | (simp; done) | (simp; omega)))⟩
def codeA (x : Asset) : Int := if okA x then 0 else 2
theorem codeA_yes {x : Asset} (h : okA x) : codeA x = 0 := by unfold codeA; rw [if_pos h]
theorem codeA_no {x : Asset} (h : ¬ okA x) : codeA x = 2 := by unfold codeA; rw [if_neg h]
set_option maxRecDepth 100000 in
set_option maxHeartbeats 4000000 in
theorem assetCheck (x : Asset) (w : World) : Calls Try.prog 47 #[.agg #[.int .i64 x.id, .int .i64 x.price, .int .i64 x.hair]] w fun e w' => e = .returned (.int .i64 (codeA x)) ∧ Below w.heap.size w w' := by
  obtain ⟨c, hc⟩ : ∃ c, c = codeA x := ⟨_, rfl⟩
  have HD := Lib.hid hc
  rw [← hc]
  clear hc
  obtain ⟨pb, hpb⟩ : ∃ pb, pb = pricedA x.price := ⟨_, rfl⟩
  have HPB := Lib.hid hpb
  have c1 := fun W => assetPriced x.price W
  rw [← hpb] at c1
  have C1 := Lib.hid c1
  clear c1 hpb
  cases pb
  all_goals
    go_enter Try.func47, Try.ntmps47
    go_wp2_with (first | (go_at_call 84; (with_reducible refine (C1.out _).mono ?_); rintro e w1 ⟨rfl, hb1⟩; obtain ⟨fc1, fg1, hc1, hf1, hz1⟩ := bget hb1; try simp at hz1) | fail)
  all_goals
    go_ret
    refine ⟨?_, by (repeat' (first | (with_reducible exact Below.refl _ _) | (with_reducible assumption) | (with_reducible refine Below.alloc ?_ ?_ _) | (with_reducible refine Below.setCell ?_ ?_ _) | (with_reducible refine Below.drew ?_) | (with_reducible refine below_drewN ?_ _) | (with_reducible refine below_via ?_ (by with_reducible assumption) ?_) | omega | (simp; done) | (simp; omega)))⟩
    have h1 := HPB.out
    unfold pricedA at h1
    simp at h1
    rw [HD.out]
    first
      | (rw [codeA_no (fun hk => by unfold okA at hk; omega)]; rfl)
      | (rw [codeA_yes (by unfold okA; omega)]; rfl)
      | fail
set_option maxRecDepth 100000 in
set_option maxHeartbeats 4000000 in
theorem ref12Is (x : Asset) (w : World) : Calls Try.prog 28 #[.agg #[.int .i64 x.id, .int .i64 x.price, .int .i64 x.hair]] w fun e w' => e = .returned (.bool (decide (okA x))) ∧ Below w.heap.size w w' := by
  obtain ⟨c, hc⟩ : ∃ c, c = decide (okA x) := ⟨_, rfl⟩
  have HD := Lib.hid hc
  rw [← hc]
  clear hc
  go_enter Try.func28, Try.ntmps28
  go_wp2_with fail
  all_goals
    go_ret
    refine ⟨?_, by (repeat' (first | (with_reducible exact Below.refl _ _) | (with_reducible assumption) | (with_reducible refine Below.alloc ?_ ?_ _) | (with_reducible refine Below.setCell ?_ ?_ _) | (with_reducible refine Below.drew ?_) | (with_reducible refine below_drewN ?_ _) | (with_reducible refine below_via ?_ (by with_reducible assumption) ?_) | omega | (simp; done) | (simp; omega)))⟩
    rw [HD.out]
    first
      | (rw [decide_eq_false (p := okA x) (fun hk => by unfold okA at hk; omega)]; rfl)
      | (rw [decide_eq_true (p := okA x) (by unfold okA; omega)]; rfl)
      | (refine Eq.trans (b := Ending.returned (.bool (decide (x.hair < 10001)))) rfl ?_; refine ret_bool ?_; unfold okA; omega)
      | fail
end Go.Proofs.Ytpjehhkmdndcmaa

/- Contracts of wide.total's add and done. -/
namespace Go.Proofs.Ytpjehhkmdndcmaa
open Go.RowKit

/-- The cells of a sum of 192 bits. -/
def tot (s : Int) : Array Value := #[.int .i64 (s / 340282366920938463463374607431768211456), .int .i64 (whi (wrap128 s)), .int .u64 (wlo s)]
def InT (s : Int) : Prop := -1532495540865888858358347027150309183618739122183602176 ≤ s ∧ s ≤ 1532495540865888858358347027150309183618739122183602176
theorem shr63 (a : Int) (h : -9223372036854775808 ≤ a ∧ a ≤ 9223372036854775807) : a / 9223372036854775808 = if a < 0 then -1 else 0 := by split <;> omega
theorem word_hi (s : Int) : whi (wrap128 s) % 18446744073709551616 = (s % 340282366920938463463374607431768211456) / 18446744073709551616 := by unfold whi wrap128; omega
theorem word_lo (s : Int) : wlo s = (s % 340282366920938463463374607431768211456) % 18446744073709551616 := by unfold wlo; omega
theorem carry128 (a b : Int) : whi (a / 18446744073709551616 + b / 18446744073709551616 + whi (a % 18446744073709551616 + b % 18446744073709551616)) = (a + b) / 340282366920938463463374607431768211456 := by unfold whi; omega
theorem low128 (a b : Int) : (a / 18446744073709551616 + b / 18446744073709551616 + whi (a % 18446744073709551616 + b % 18446744073709551616)) = (a + b) / 18446744073709551616 := by unfold whi; omega
theorem whi_in (n : Int) (h : In128 n) : whi n = whi (wrap128 n) := by rw [wrap128_in h]
/-- The carry out of the second word. -/
theorem tot_carry (s n : Int) (hn : In128 n) : whi (IntKind.u64.wrap (whi (wrap128 s)) + IntKind.u64.wrap (whi n) + whi (wlo s + wlo n)) = (s % 340282366920938463463374607431768211456 + n % 340282366920938463463374607431768211456) / 340282366920938463463374607431768211456 := by
  rw [IntKind.wrap_u64, IntKind.wrap_u64, whi_in n hn, word_hi, word_hi, word_lo s, word_lo n]
  exact carry128 _ _
theorem tot_over (s n : Int) (hn : In128 n) : s / 340282366920938463463374607431768211456 + (whi n / 9223372036854775808 + whi (IntKind.u64.wrap (whi (wrap128 s)) + IntKind.u64.wrap (whi n) + whi (wlo s + wlo n))) = (s + n) / 340282366920938463463374607431768211456 := by
  rw [tot_carry s n hn]
  have : whi n / 9223372036854775808 = n / 340282366920938463463374607431768211456 := by unfold In128 at hn; unfold whi; omega
  rw [this]; clear this hn
  omega
theorem tot_hi (s n : Int) (hn : In128 n) : IntKind.i64.wrap (wlo (IntKind.u64.wrap (whi (wrap128 s)) + IntKind.u64.wrap (whi n) + whi (wlo s + wlo n))) = whi (wrap128 (s + n)) := by
  rw [IntKind.wrap_u64, IntKind.wrap_u64, whi_in n hn, word_hi, word_hi, word_lo s, word_lo n, low128, IntKind.wrap_i64]
  clear hn
  unfold wlo whi wrap128
  omega
set_option maxRecDepth 100000 in
set_option maxHeartbeats 1000000 in
theorem totalAdd (s n : Int) (g : Nat) (w : World) (hs : InT s) (hn : In128 n) (hg : Blk w g 137 (tot s)) :
    Calls Try.prog 110 #[.pointer (some ⟨g, 0, none⟩), (.agg #[.int .i64 (whi (n)), .int .u64 (wlo (n))])] w fun e w' => e = .returned (.tuple #[]) ∧ Blk w' g 137 (tot (s + n)) ∧ Only g w w' := by
  have c0 := hg.cell 0
  have c1 := hg.cell 1
  have c2 := hg.cell 2
  have z0 := hg.frozen 0
  have z1 := hg.frozen 1
  have z2 := hg.frozen 2
  have hlt := hg.lt
  simp [tot] at c0 c1 c2
  have h1 := whi_i hn
  have h2 := wlo_u n
  have h3 := wlo_u s
  have h4 := whi_i (wrap128_is s)
  have e1 := add64 (wlo s) (wlo n) 0 h3.1 h2.1 (by omega) (by omega)
  simp only [Int.add_zero] at e1
  have s1 : wlo (wlo s + wlo n) = wlo (s + n) := by unfold wlo; omega
  rw [s1] at e1
  have h5 : 0 ≤ whi (wlo s + wlo n) ∧ whi (wlo s + wlo n) ≤ 1 := by unfold whi; omega
  have h6 : 0 ≤ IntKind.u64.wrap (whi (wrap128 s)) ∧ IntKind.u64.wrap (whi (wrap128 s)) ≤ 18446744073709551615 := by rw [IntKind.wrap_u64]; omega
  have h7 : 0 ≤ IntKind.u64.wrap (whi n) ∧ IntKind.u64.wrap (whi n) ≤ 18446744073709551615 := by rw [IntKind.wrap_u64]; omega
  have e2 := add64 (IntKind.u64.wrap (whi (wrap128 s))) (IntKind.u64.wrap (whi n)) (whi (wlo s + wlo n)) h6.1 h7.1 h5.1 h5.2
  obtain ⟨c, hc⟩ : ∃ c, c = whi (wlo s + wlo n) := ⟨_, rfl⟩
  rw [← hc] at e1 e2 h5
  have s2 : IntKind.i64.wrap (wlo (IntKind.u64.wrap (whi (wrap128 s)) + IntKind.u64.wrap (whi n) + c)) = whi (wrap128 (s + n)) := by
    rw [hc]; exact tot_hi s n hn
  have h8 := wlo_u (IntKind.u64.wrap (whi (wrap128 s)) + IntKind.u64.wrap (whi n) + c)
  obtain ⟨d, hd⟩ : ∃ d, d = whi (IntKind.u64.wrap (whi (wrap128 s)) + IntKind.u64.wrap (whi n) + c) := ⟨_, rfl⟩
  have h9 : 0 ≤ d ∧ d ≤ 1 := by rw [hd]; rw [IntKind.wrap_u64, IntKind.wrap_u64]; unfold whi; omega
  have s3 : s / 340282366920938463463374607431768211456 + (whi n / 9223372036854775808 + d) = (s + n) / 340282366920938463463374607431768211456 := by
    rw [hd, hc]; exact tot_over s n hn
  have h10 : -9007199254740992 ≤ s / 340282366920938463463374607431768211456 ∧ s / 340282366920938463463374607431768211456 ≤ 9007199254740992 := by unfold InT at hs; omega
  rw [← hd] at e2
  obtain ⟨lo, hlo⟩ : ∃ lo, lo = wlo (IntKind.u64.wrap (whi (wrap128 s)) + IntKind.u64.wrap (whi n) + c) := ⟨_, rfl⟩
  rw [← hlo] at e2 s2 h8
  clear hlo hd hc s1
  have Hg := Lib.hid hg
  clear hg
  go_enter Try.func110, Try.ntmps110
  go_wp2
  go_region
  all_goals (go_wp2; go_region)
  all_goals (go_wp2; go_region)
  all_goals
    go_wp2
    go_end0
    exact ⟨rfl, by simpa [tot] using ((((Hg.out.set 0 _).set 1 _).set 2 _).alloc _).drew.drew.drew, (((((Only.refl g w).set (.inl rfl) _).set (.inl rfl) _).set (.inl rfl) _).alloc _).drew.drew.drew⟩
set_option maxRecDepth 100000 in
set_option maxHeartbeats 1000000 in
theorem totalDoneYes (s : Int) (g : Nat) (w : World) (hs : In128 s) (hg : Blk w g 137 (tot s)) :
    Calls Try.prog 111 #[.pointer (some ⟨g, 0, none⟩)] w fun e w' => e = .returned (.tuple #[(.agg #[.int .i64 (whi (s)), .int .u64 (wlo (s))]), .int .i64 0]) ∧ Below w.heap.size w w' := by
  have c0 := hg.cell 0
  have c1 := hg.cell 1
  have c2 := hg.cell 2
  have hlt := hg.lt
  simp [tot, wrap128_in hs] at c0 c1 c2
  have h1 := whi_i hs
  have e1 : (s / 340282366920938463463374607431768211456 == whi s / 9223372036854775808) = true := by
    rw [beq_iff_eq]; unfold In128 at hs; unfold whi; omega
  clear hg
  go_enter Try.func111, Try.ntmps111
  go_wp2
  go_region_held3 (fun w' => w'.cell? ⟨g, 0, none⟩ = some (.int .i64 (s / 340282366920938463463374607431768211456)) ∧ w'.cell? ⟨g, 1, none⟩ = some (.int .i64 (whi s)) ∧ w'.cell? ⟨g, 2, none⟩ = some (.int .u64 (wlo s))) (first | (simp [go_sem]; done) | (repeat' (first | (with_reducible assumption) | (with_reducible refine And.intro ?_ ?_) | (with_reducible refine cell_drew ?_) | (with_reducible refine cell_via (by with_reducible assumption) ?_ ?_) | (simp [*]; done) | (simp [go_sem]; done) | (with_reducible refine cell_alloc ?_ ?_) | (with_reducible refine cell_set_far ?_ ?_) | omega | (simp; omega)))) (first | (go_at_call 95; (with_reducible refine (wideRangedYes _ _).mono ?_); rintro e w1 ⟨rfl, hb1⟩; obtain ⟨fc1, fg1, hc1, hf1, hz1⟩ := bget hb1; try simp at hz1))
  go_wp2
  all_goals
    refine bodyPost_ret (by simp [*, results, Try.results111, go_sem]; try rfl) rfl ⟨rfl, ?_⟩
    (repeat' (first | (with_reducible exact Below.refl _ _) | (with_reducible assumption) | (with_reducible refine Below.alloc ?_ ?_ _) | (with_reducible refine Below.setCell ?_ ?_ _) | (with_reducible refine Below.drew ?_) | (with_reducible refine below_drewN ?_ _) | (with_reducible refine below_via ?_ (by with_reducible assumption) ?_) | omega | (simp; done) | (simp; omega)))
set_option maxRecDepth 100000 in
set_option maxHeartbeats 1000000 in
theorem totalDoneNo (s : Int) (g : Nat) (w : World) (hs : ¬ In128 s) (hg : Blk w g 137 (tot s)) :
    Calls Try.prog 111 #[.pointer (some ⟨g, 0, none⟩)] w fun e w' => e = .returned (.tuple #[.agg #[.int .i64 0, .int .u64 0], .int .i64 7]) ∧ Below w.heap.size w w' := by
  have c0 := hg.cell 0
  have c1 := hg.cell 1
  have c2 := hg.cell 2
  have hlt := hg.lt
  simp [tot] at c0 c1 c2
  have h1 := whi_i (wrap128_is s)
  have e1 : (s / 340282366920938463463374607431768211456 == whi (wrap128 s) / 9223372036854775808) = false := by
    rw [beq_eq_false_iff_ne]; unfold In128 at hs; unfold whi wrap128; omega
  clear hg hs
  go_enter Try.func111, Try.ntmps111
  go_wp2
  go_region_held3 (fun w' => w'.cell? ⟨g, 0, none⟩ = some (.int .i64 (s / 340282366920938463463374607431768211456)) ∧ w'.cell? ⟨g, 1, none⟩ = some (.int .i64 (whi (wrap128 s))) ∧ w'.cell? ⟨g, 2, none⟩ = some (.int .u64 (wlo s))) (first | (simp [go_sem]; done) | (repeat' (first | (with_reducible assumption) | (with_reducible refine And.intro ?_ ?_) | (with_reducible refine cell_drew ?_) | (with_reducible refine cell_via (by with_reducible assumption) ?_ ?_) | (simp [*]; done) | (simp [go_sem]; done) | (with_reducible refine cell_alloc ?_ ?_) | (with_reducible refine cell_set_far ?_ ?_) | omega | (simp; omega)))) (first | (go_at_call 95; (with_reducible refine (wideRangedNo _ _ _).mono ?_); rintro e w1 ⟨rfl, hb1⟩; obtain ⟨fc1, fg1, hc1, hf1, hz1⟩ := bget hb1; try simp at hz1))
  go_wp2
  all_goals
    refine bodyPost_ret (by simp [*, results, Try.results111, go_sem]; try rfl) rfl ⟨rfl, ?_⟩
    (repeat' (first | (with_reducible exact Below.refl _ _) | (with_reducible assumption) | (with_reducible refine Below.alloc ?_ ?_ _) | (with_reducible refine Below.setCell ?_ ?_ _) | (with_reducible refine Below.drew ?_) | (with_reducible refine below_drewN ?_ _) | (with_reducible refine below_via ?_ (by with_reducible assumption) ?_) | omega | (simp; done) | (simp; omega)))
end Go.Proofs.Ytpjehhkmdndcmaa

/- Contracts of wide.Sub, Add. -/
namespace Go.Proofs.Ytpjehhkmdndcmaa
open Go.RowKit
theorem tot_zero : tot 0 = #[.int .i64 0, .int .i64 0, .int .u64 0] := by simp [tot, whi, wlo, wrap128]
theorem not_u64 (x : Int) (h : 0 ≤ x) (h' : x ≤ 18446744073709551615) : bits .xor .u64 IntKind.u64.max x = 18446744073709551615 - x := by
  obtain ⟨x, rfl⟩ := Int.eq_ofNat_of_zero_le h
  show IntKind.u64.wrap ((BitVec.ofInt 64 IntKind.u64.max ^^^ BitVec.ofInt 64 (x : Int)).toNat : Int) = _
  have e : BitVec.ofInt 64 IntKind.u64.max = BitVec.allOnes 64 := by decide
  rw [e, BitVec.allOnes_xor, BitVec.toNat_not, BitVec.ofInt_natCast, BitVec.toNat_ofNat, IntKind.wrap_u64]
  omega
theorem not_i64 (x : Int) (h : -9223372036854775808 ≤ x) (h' : x ≤ 9223372036854775807) : bits .xor .i64 (-1) x = - x - 1 := by
  show IntKind.i64.wrap ((BitVec.ofInt 64 (-1) ^^^ BitVec.ofInt 64 x).toNat : Int) = _
  have e : BitVec.ofInt 64 (-1) = BitVec.allOnes 64 := by decide
  rw [e, BitVec.allOnes_xor, BitVec.toNat_not, BitVec.toNat_ofInt, IntKind.wrap_i64]
  omega
theorem not_hi (b : Int) (hb : In128 b) : bits .xor .i64 (-1) (whi b) = whi (- b - 1) := by
  have h := whi_i hb
  rw [not_i64 _ h.1 h.2]; unfold whi; omega
theorem not_lo (b : Int) : bits .xor .u64 IntKind.u64.max (wlo b) = wlo (- b - 1) := by
  have h := wlo_u b
  rw [not_u64 _ h.1 h.2]; unfold wlo; omega
end Go.Proofs.Ytpjehhkmdndcmaa

/- Contracts of fix.narrow, Sub, Abs, Least, Most, Clip. -/
namespace Go.Proofs.Ytpjehhkmdndcmaa
open Go.RowKit
set_option maxHeartbeats 400000 in
theorem narrowYes (n : Int) (w : World) (h : In64 n) :
    Calls Try.prog 98 #[(.agg #[.int .i64 (whi (n)), .int .u64 (wlo (n))]), .int .i64 0] w fun e w' => e = .returned (.tuple #[.int .i64 n, .int .i64 0]) ∧ Below w.heap.size w w' := by
  go_enter Try.func98, Try.ntmps98
  go_wp2_with (go_at_call 62; (with_reducible refine (wideIntYes _ _ h).mono ?_); rintro e w1 ⟨rfl, hb1⟩; obtain ⟨fc1, fg1, hc1, hf1, hz1⟩ := bget hb1; try simp at hz1)
  go_ret2
  exact ⟨rfl, by (repeat' (first | (with_reducible exact Below.refl _ _) | (with_reducible assumption) | (with_reducible refine Below.alloc ?_ ?_ _) | (with_reducible refine Below.setCell ?_ ?_ _) | (with_reducible refine Below.drew ?_) | (with_reducible refine below_drewN ?_ _) | (with_reducible refine below_via ?_ (by with_reducible assumption) ?_) | omega | (simp; done) | (simp; omega)))⟩
set_option maxHeartbeats 400000 in
theorem narrowNo (n : Int) (w : World) (h : In128 n) (h' : ¬ In64 n) :
    Calls Try.prog 98 #[(.agg #[.int .i64 (whi (n)), .int .u64 (wlo (n))]), .int .i64 0] w fun e w' => e = .returned (.tuple #[.int .i64 0, .int .i64 7]) ∧ Below w.heap.size w w' := by
  go_enter Try.func98, Try.ntmps98
  go_wp2_with (go_at_call 62; (with_reducible refine (wideIntNo _ _ h h').mono ?_); rintro e w1 ⟨rfl, hb1⟩; obtain ⟨fc1, fg1, hc1, hf1, hz1⟩ := bget hb1; try simp at hz1)
  go_ret2
  exact ⟨rfl, by (repeat' (first | (with_reducible exact Below.refl _ _) | (with_reducible assumption) | (with_reducible refine Below.alloc ?_ ?_ _) | (with_reducible refine Below.setCell ?_ ?_ _) | (with_reducible refine Below.drew ?_) | (with_reducible refine below_drewN ?_ _) | (with_reducible refine below_via ?_ (by with_reducible assumption) ?_) | omega | (simp; done) | (simp; omega)))⟩
set_option maxHeartbeats 400000 in
theorem narrowErr (a b e : Int) (w : World) (h : (e != 0) = true) :
    Calls Try.prog 98 #[.agg #[.int .i64 a, .int .u64 b], .int .i64 e] w fun e' w' => e' = .returned (.tuple #[.int .i64 0, .int .i64 e]) ∧ Below w.heap.size w w' := by
  go_enter Try.func98, Try.ntmps98
  go_wp2
  go_ret2
  exact ⟨rfl, by (repeat' (first | (with_reducible exact Below.refl _ _) | (with_reducible assumption) | (with_reducible refine Below.alloc ?_ ?_ _) | (with_reducible refine Below.setCell ?_ ?_ _) | (with_reducible refine Below.drew ?_) | (with_reducible refine below_drewN ?_ _) | (with_reducible refine below_via ?_ (by with_reducible assumption) ?_) | omega | (simp; done) | (simp; omega)))⟩
def minL (a : Int) (l : List Int) : Int := l.foldl min a
def maxL (a : Int) (l : List Int) : Int := l.foldl max a
theorem foldl_take (f : Int → Int → Int) (a : Int) (l : List Int) (k : Nat) (h : k < l.length) : (l.take (k + 1)).foldl f a = f ((l.take k).foldl f a) l[k] := by
  rw [List.take_succ_eq_append_getElem h, List.foldl_append]; rfl
def clip (a lo hi : Int) : Int := max lo (min a hi)
theorem maxL_one (a b : Int) : maxL a [b] = max a b := rfl
theorem minL_one (a b : Int) : minL a [b] = min a b := rfl
theorem rd_int1 {w : World} {g o : Nat} {b : Int} (hg : g < w.heap.size) (h0 : w.cell? ⟨g, o, none⟩ = some (.int .i64 b)) : Rd w (some ⟨g, o, none⟩) 1 ([b].map encI) := by
  intro i r hr
  match i, hr with
  | 0, hr =>
    simp at hr
    subst hr
    refine ⟨g, o, rfl, hg, fun j v hv => ?_⟩
    match j, hv with
    | 0, hv => simp [encI] at hv; subst hv; simpa using h0
end Go.Proofs.Ytpjehhkmdndcmaa
