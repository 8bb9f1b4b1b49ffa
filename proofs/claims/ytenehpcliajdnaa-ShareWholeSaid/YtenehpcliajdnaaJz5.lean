/- Joined: Wide7, Shr1, Shr4, Bits0, Big1, Big2. -/
import Derived.Test.YtenehpcliajdnaaJz4
import Derived.Test.YtenehpcliajdnaaJz2
import Derived.Test.YtenehpcliajdnaaJz3
import Derived.Test.YtenehpcliajdnaaJz1
import Derived.Test.YtenehpcliajdnaaRows
import Derived.WalkKit
import Derived.WalkSpells
import Derived.WalkLawsBesides
import Derived.BigQuiet
import Derived.Deep.RegionHeld3
import Derived.Handy
/- The contract of wide.Div. -/
namespace Go.Proofs.Ytenehpcliajdnaa
open Go.RowKit
theorem long_div {m d : Int} (hm : 0 ≤ m) (hd : 0 < d) : whi m / d = whi (m / d) ∧ (whi m % d * 18446744073709551616 + wlo m) / d = wlo (m / d) ∧ (whi m % d * 18446744073709551616 + wlo m) % d = m % d := by
  have e0 := whi_wlo m
  have h1 : 0 ≤ whi m := by unfold whi; omega
  have h2 := wlo_u m
  generalize whi m = h at *
  generalize wlo m = l at *
  have e1 := Int.mul_ediv_add_emod h d
  have e2 := Int.emod_nonneg h (show d ≠ 0 by omega)
  have e3 := Int.emod_lt_of_pos h hd
  obtain ⟨p, hp⟩ : ∃ p, p = h / d := ⟨_, rfl⟩
  obtain ⟨r, hr⟩ : ∃ r, r = h % d := ⟨_, rfl⟩
  rw [← hp, ← hr] at e1
  rw [← hr] at e2 e3
  rw [← hp, ← hr]
  have e4 : m = r * 18446744073709551616 + l + p * 18446744073709551616 * d := by
    rw [← e0, ← e1, Int.add_mul, Int.mul_right_comm p, Int.mul_comm d p]; omega
  have e5 : 0 ≤ (r * 18446744073709551616 + l) / d := Int.ediv_nonneg (by omega) (by omega)
  have e6 : (r * 18446744073709551616 + l) / d < 18446744073709551616 := Int.ediv_lt_of_lt_mul hd (by omega)
  rw [e4, Int.add_mul_ediv_right _ _ (by omega), Int.add_mul_emod_self_right]
  unfold whi wlo
  omega
theorem floor_neg0 {n d m : Int} (hm : m = - n) (hd : 0 < d) (h : m % d = 0) : n / d = - (m / d) ∧ n % d = 0 := by
  have e := Int.mul_ediv_add_emod m d
  rw [h, Int.mul_comm] at e
  have h1 : n / d = - (m / d) := div_is (by rw [Int.neg_mul]; omega) (by rw [Int.add_mul, Int.neg_mul]; omega) hd
  refine ⟨h1, ?_⟩
  rw [Int.emod_def, h1, Int.mul_comm, Int.neg_mul]; omega
theorem floor_neg1 {n d m : Int} (hm : m = - n) (hd : 0 < d) (h : 0 < m % d) : n / d = - (m / d + 1) ∧ n % d = d - m % d := by
  have e := Int.mul_ediv_add_emod m d
  have e3 := Int.emod_lt_of_pos m hd
  rw [Int.mul_comm] at e
  have h1 : n / d = - (m / d + 1) := div_is (by rw [Int.neg_mul, Int.add_mul]; omega) (by rw [show - (m / d + 1) + 1 = - (m / d) by omega, Int.neg_mul]; omega) hd
  refine ⟨h1, ?_⟩
  rw [Int.emod_def, h1, Int.mul_comm, Int.neg_mul, Int.add_mul]; omega
set_option maxRecDepth 100000 in
set_option maxHeartbeats 4000000 in
theorem wideDivPos (n m d : Int) (w : World) (hn : In128 n) (hd : 0 < d) (hd1 : d ≤ 9223372036854775807) (hm : m = iabs n) (hsg : decide (n < 0) = false) (hm0 : 0 ≤ m) (hm1 : m ≤ 170141183460469231731687303715884105728) :
    Calls Try.prog 44 #[(.agg #[.int .i64 (whi (n)), .int .u64 (wlo (n))]), .int .i64 d] w fun e w' => e = .returned (.tuple #[(.agg #[.int .i64 (whi (m / d)), .int .u64 (wlo (m / d))]), .int .i64 (m % d), .int .i64 0]) ∧ Below w.heap.size w w' := by
  have hq := Int.ediv_le_self d hm0
  have hq0 : 0 ≤ m / d := Int.ediv_nonneg hm0 (by omega)
  have hi : In128 (m / d) := by unfold In128 at *; unfold iabs at hm; rw [if_neg (by simpa using hsg)] at hm; omega
  have c4 := fun W => wideSigned false (m / d) W (by omega) (by omega)
  rw [show wrap128 (sgn false (m / d)) = m / d from by rw [show sgn false (m / d) = m / d from rfl, wrap128_in hi]] at c4
  have C4 := Lib.hid c4
  have h2 := whi_i hn
  have L := long_div (m := m) (d := d) (by omega) hd
  have L1 := Lib.hid L.1
  have L2 := Lib.hid L.2.1
  have L3 := Lib.hid L.2.2
  have c1 := fun W => wideSize n W hn
  have c2 := fun W => wideBelow n W hn
  rw [← hm] at c1
  rw [hsg] at c2
  have C1 := Lib.hid c1
  have C2 := Lib.hid c2
  have hw := wlo_u m
  have hh : 0 ≤ whi m ∧ whi m ≤ 9223372036854775808 := (by unfold whi; omega)
  have hr0 := Int.emod_nonneg (whi m) (show d ≠ 0 by omega)
  have hr1 := Int.emod_lt_of_pos (whi m) hd
  have hR0 := Int.emod_nonneg m (show d ≠ 0 by omega)
  have hR1 := Int.emod_lt_of_pos m hd
  have d0 : (d == 0) = false := (by simp; omega)
  have d1 : ¬ d = 0 := (by omega)
  have d2 : decide (d < 0) = false := (by simp; omega)
  clear c1 c2 L hm
  clear c4 hsg
  go_enter Try.func44, Try.ntmps44
  go_wp2_with (go_at_call 71; (with_reducible refine (C1.out _).mono ?_); rintro e w1 ⟨rfl, hb1⟩; obtain ⟨fc1, fg1, hc1, hf1, hz1⟩ := bget hb1; (try simp at hz1))
  go_quiet (fail)
  go_wp2_with (first | (go_at_call 72; (with_reducible refine (div64 (whi m % d) (wlo m) d _ hr0 hr1 (by omega) hw.1 hw.2).mono ?_); rintro e w2 ⟨rfl, hb2⟩; rw [L1.out, L2.out, L3.out]; obtain ⟨fc2, fg2, hc2, hf2, hz2⟩ := bget hb2; (try simp at hz2)) | (go_at_call 73; (with_reducible refine (C2.out _).mono ?_); rintro e w3 ⟨rfl, hb3⟩; obtain ⟨fc3, fg3, hc3, hf3, hz3⟩ := bget hb3; (try simp at hz3)))
  go_region_held3 (fun w' => w'.cell? ⟨w.heap.size, 0, none⟩ = some (.int .i64 (whi n)) ∧ w'.cell? ⟨w.heap.size, 1, none⟩ = some (.int .u64 (wlo n)) ∧ w'.cell? ⟨w2.heap.size, 0, none⟩ = some (.int .u64 (whi (m / d))) ∧ w'.cell? ⟨w2.heap.size, 1, none⟩ = some (.int .u64 (wlo (m / d)))) (first | (simp [hc1, hc2, hc3, go_sem, ↓IntWalk.iteOmega]; done) | (simp [hc1, hc2, hc3, hc5, go_sem, ↓IntWalk.iteOmega]; done) | (simp [hc1, hc2, hc3, hc5, hc6, go_sem, ↓IntWalk.iteOmega]; done) | (first | (simp [go_sem]; done) | (repeat' (first | (with_reducible assumption) | (with_reducible refine And.intro ?_ ?_) | (with_reducible refine cell_drew ?_) | (with_reducible refine cell_via (by with_reducible assumption) ?_ ?_) | (simp [*]; done) | (simp [go_sem]; done) | (with_reducible refine cell_alloc ?_ ?_) | (with_reducible refine cell_set_far ?_ ?_) | omega | (simp; omega))))) (first | (go_at_call 73; (with_reducible refine (C2.out _).mono ?_); rintro e w5 ⟨rfl, hb5⟩; obtain ⟨fc5, fg5, hc5, hf5, hz5⟩ := bget hb5; (try simp at hz5)) | (go_at_call 75; (with_reducible refine (C4.out _).mono ?_); rintro e w6 ⟨rfl, hb6⟩; obtain ⟨fc6, fg6, hc6, hf6, hz6⟩ := bget hb6; (try simp at hz6)))
  go_wp2
  all_goals
    refine bodyPost_ret (by simp [results, Try.results44, go_sem, ↓IntWalk.iteOmega, hc1, hc2, hc3, hc5, hc6]; try rfl) rfl ⟨rfl, ?_⟩
    (repeat' (first | (with_reducible exact Below.refl _ _) | (with_reducible assumption) | (with_reducible refine Below.alloc ?_ ?_ _) | (with_reducible refine Below.setCell ?_ ?_ _) | (with_reducible refine Below.drew ?_) | (with_reducible refine below_drewN ?_ _) | (with_reducible refine below_via ?_ (by with_reducible assumption) ?_) | omega | (simp; done) | (simp; omega)))
set_option maxRecDepth 100000 in
set_option maxHeartbeats 4000000 in
theorem wideDivNeg0 (n m d : Int) (w : World) (hn : In128 n) (hd : 0 < d) (hd1 : d ≤ 9223372036854775807) (hm : m = iabs n) (hsg : decide (n < 0) = true) (hm0 : 0 ≤ m) (hm1 : m ≤ 170141183460469231731687303715884105728) (hr : m % d = 0) :
    Calls Try.prog 44 #[(.agg #[.int .i64 (whi (n)), .int .u64 (wlo (n))]), .int .i64 d] w fun e w' => e = .returned (.tuple #[(.agg #[.int .i64 (whi (- (m / d))), .int .u64 (wlo (- (m / d)))]), .int .i64 (0), .int .i64 0]) ∧ Below w.heap.size w w' := by
  have hq := Int.ediv_le_self d hm0
  have hq0 : 0 ≤ m / d := Int.ediv_nonneg hm0 (by omega)
  have hi : In128 (- (m / d)) := by unfold In128; omega
  have c4 := fun W => wideSigned true (m / d) W (by omega) (by omega)
  rw [show wrap128 (sgn true (m / d)) = - (m / d) from by rw [show sgn true (m / d) = - (m / d) from rfl, wrap128_in hi]] at c4
  have C4 := Lib.hid c4
  have h2 := whi_i hn
  have L := long_div (m := m) (d := d) (by omega) hd
  have L1 := Lib.hid L.1
  have L2 := Lib.hid L.2.1
  have L3 := Lib.hid L.2.2
  have c1 := fun W => wideSize n W hn
  have c2 := fun W => wideBelow n W hn
  rw [← hm] at c1
  rw [hsg] at c2
  have C1 := Lib.hid c1
  have C2 := Lib.hid c2
  have hw := wlo_u m
  have hh : 0 ≤ whi m ∧ whi m ≤ 9223372036854775808 := (by unfold whi; omega)
  have hr0 := Int.emod_nonneg (whi m) (show d ≠ 0 by omega)
  have hr1 := Int.emod_lt_of_pos (whi m) hd
  have hR0 := Int.emod_nonneg m (show d ≠ 0 by omega)
  have hR1 := Int.emod_lt_of_pos m hd
  have d0 : (d == 0) = false := (by simp; omega)
  have d1 : ¬ d = 0 := (by omega)
  have d2 : decide (d < 0) = false := (by simp; omega)
  clear c1 c2 L hm
  rw [hr] at L3
  clear c4 hsg hR0 hR1 hr
  go_enter Try.func44, Try.ntmps44
  go_wp2_with (go_at_call 71; (with_reducible refine (C1.out _).mono ?_); rintro e w1 ⟨rfl, hb1⟩; obtain ⟨fc1, fg1, hc1, hf1, hz1⟩ := bget hb1; (try simp at hz1))
  go_quiet (fail)
  go_wp2_with (first | (go_at_call 72; (with_reducible refine (div64 (whi m % d) (wlo m) d _ hr0 hr1 (by omega) hw.1 hw.2).mono ?_); rintro e w2 ⟨rfl, hb2⟩; rw [L1.out, L2.out, L3.out]; obtain ⟨fc2, fg2, hc2, hf2, hz2⟩ := bget hb2; (try simp at hz2)) | (go_at_call 73; (with_reducible refine (C2.out _).mono ?_); rintro e w3 ⟨rfl, hb3⟩; obtain ⟨fc3, fg3, hc3, hf3, hz3⟩ := bget hb3; (try simp at hz3)))
  go_region_held3 (fun w' => w'.cell? ⟨w.heap.size, 0, none⟩ = some (.int .i64 (whi n)) ∧ w'.cell? ⟨w.heap.size, 1, none⟩ = some (.int .u64 (wlo n)) ∧ w'.cell? ⟨w2.heap.size, 0, none⟩ = some (.int .u64 (whi (m / d))) ∧ w'.cell? ⟨w2.heap.size, 1, none⟩ = some (.int .u64 (wlo (m / d)))) (first | (simp [hc1, hc2, hc3, go_sem, ↓IntWalk.iteOmega]; done) | (simp [hc1, hc2, hc3, hc5, go_sem, ↓IntWalk.iteOmega]; done) | (simp [hc1, hc2, hc3, hc5, hc6, go_sem, ↓IntWalk.iteOmega]; done) | (first | (simp [go_sem]; done) | (repeat' (first | (with_reducible assumption) | (with_reducible refine And.intro ?_ ?_) | (with_reducible refine cell_drew ?_) | (with_reducible refine cell_via (by with_reducible assumption) ?_ ?_) | (simp [*]; done) | (simp [go_sem]; done) | (with_reducible refine cell_alloc ?_ ?_) | (with_reducible refine cell_set_far ?_ ?_) | omega | (simp; omega))))) (first | (go_at_call 73; (with_reducible refine (C2.out _).mono ?_); rintro e w5 ⟨rfl, hb5⟩; obtain ⟨fc5, fg5, hc5, hf5, hz5⟩ := bget hb5; (try simp at hz5)) | (go_at_call 75; (with_reducible refine (C4.out _).mono ?_); rintro e w6 ⟨rfl, hb6⟩; obtain ⟨fc6, fg6, hc6, hf6, hz6⟩ := bget hb6; (try simp at hz6)))
  go_wp2
  all_goals
    refine bodyPost_ret (by simp [results, Try.results44, go_sem, ↓IntWalk.iteOmega, hc1, hc2, hc3, hc5, hc6]; try rfl) rfl ⟨rfl, ?_⟩
    (repeat' (first | (with_reducible exact Below.refl _ _) | (with_reducible assumption) | (with_reducible refine Below.alloc ?_ ?_ _) | (with_reducible refine Below.setCell ?_ ?_ _) | (with_reducible refine Below.drew ?_) | (with_reducible refine below_drewN ?_ _) | (with_reducible refine below_via ?_ (by with_reducible assumption) ?_) | omega | (simp; done) | (simp; omega)))
set_option maxRecDepth 100000 in
set_option maxHeartbeats 4000000 in
theorem wideDivNeg1 (n m d : Int) (w : World) (hn : In128 n) (hd : 0 < d) (hd1 : d ≤ 9223372036854775807) (hm : m = iabs n) (hsg : decide (n < 0) = true) (hm0 : 0 ≤ m) (hm1 : m ≤ 170141183460469231731687303715884105728) (hr : 0 < m % d) :
    Calls Try.prog 44 #[(.agg #[.int .i64 (whi (n)), .int .u64 (wlo (n))]), .int .i64 d] w fun e w' => e = .returned (.tuple #[(.agg #[.int .i64 (whi (- (m / d + 1))), .int .u64 (wlo (- (m / d + 1)))]), .int .i64 (d - m % d), .int .i64 0]) ∧ Below w.heap.size w w' := by
  have hq := Int.ediv_le_self d hm0
  have hq0 : 0 ≤ m / d := Int.ediv_nonneg hm0 (by omega)
  have hq2 : m / d + 1 ≤ 170141183460469231731687303715884105728 := by
    have e := Int.mul_ediv_add_emod m d
    have e2 : 1 * (m / d) ≤ d * (m / d) := Int.mul_le_mul_of_nonneg_right (by omega) hq0
    omega
  have hi : In128 (- (m / d + 1)) := by unfold In128; omega
  have hu := wlo_u (m / d)
  have e1 := add64 (wlo (m / d)) 1 0 hu.1 (by omega) (by omega) (by omega)
  have g1 : wlo (wlo (m / d) + 1) = wlo (m / d + 1) := by unfold wlo; omega
  have g2 : whi (m / d) + whi (wlo (m / d) + 1) = whi (m / d + 1) := by unfold wlo whi; omega
  have g3 : 0 ≤ whi (m / d) ∧ whi (m / d) ≤ 9223372036854775808 := by unfold whi; omega
  have g4 : 0 ≤ whi (wlo (m / d) + 1) ∧ whi (wlo (m / d) + 1) ≤ 1 := by unfold whi; omega
  simp only [Int.add_zero] at e1
  rw [g1] at e1
  obtain ⟨c, hc⟩ : ∃ c, c = whi (wlo (m / d) + 1) := ⟨_, rfl⟩
  rw [← hc] at e1 g2 g4
  clear hc g1
  have c4 := fun W => wideSigned true (m / d + 1) W (by omega) (by omega)
  rw [show wrap128 (sgn true (m / d + 1)) = - (m / d + 1) from by rw [show sgn true (m / d + 1) = - (m / d + 1) from rfl, wrap128_in hi]] at c4
  have C4 := Lib.hid c4
  have h2 := whi_i hn
  have L := long_div (m := m) (d := d) (by omega) hd
  have L1 := Lib.hid L.1
  have L2 := Lib.hid L.2.1
  have L3 := Lib.hid L.2.2
  have c1 := fun W => wideSize n W hn
  have c2 := fun W => wideBelow n W hn
  rw [← hm] at c1
  rw [hsg] at c2
  have C1 := Lib.hid c1
  have C2 := Lib.hid c2
  have hw := wlo_u m
  have hh : 0 ≤ whi m ∧ whi m ≤ 9223372036854775808 := (by unfold whi; omega)
  have hr0 := Int.emod_nonneg (whi m) (show d ≠ 0 by omega)
  have hr1 := Int.emod_lt_of_pos (whi m) hd
  have hR0 := Int.emod_nonneg m (show d ≠ 0 by omega)
  have hR1 := Int.emod_lt_of_pos m hd
  have d0 : (d == 0) = false := (by simp; omega)
  have d1 : ¬ d = 0 := (by omega)
  have d2 : decide (d < 0) = false := (by simp; omega)
  clear c1 c2 L hm
  clear c4 hsg
  go_enter Try.func44, Try.ntmps44
  go_wp2_with (go_at_call 71; (with_reducible refine (C1.out _).mono ?_); rintro e w1 ⟨rfl, hb1⟩; obtain ⟨fc1, fg1, hc1, hf1, hz1⟩ := bget hb1; (try simp at hz1))
  go_quiet (fail)
  go_wp2_with (first | (go_at_call 72; (with_reducible refine (div64 (whi m % d) (wlo m) d _ hr0 hr1 (by omega) hw.1 hw.2).mono ?_); rintro e w2 ⟨rfl, hb2⟩; rw [L1.out, L2.out, L3.out]; obtain ⟨fc2, fg2, hc2, hf2, hz2⟩ := bget hb2; (try simp at hz2)) | (go_at_call 73; (with_reducible refine (C2.out _).mono ?_); rintro e w3 ⟨rfl, hb3⟩; obtain ⟨fc3, fg3, hc3, hf3, hz3⟩ := bget hb3; (try simp at hz3)))
  go_region_held3 (fun w' => w'.cell? ⟨w.heap.size, 0, none⟩ = some (.int .i64 (whi n)) ∧ w'.cell? ⟨w.heap.size, 1, none⟩ = some (.int .u64 (wlo n)) ∧ w'.cell? ⟨w2.heap.size, 0, none⟩ = some (.int .u64 (whi (m / d + 1))) ∧ w'.cell? ⟨w2.heap.size, 1, none⟩ = some (.int .u64 (wlo (m / d + 1)))) (first | (simp [hc1, hc2, hc3, go_sem, ↓IntWalk.iteOmega]; done) | (simp [hc1, hc2, hc3, hc5, go_sem, ↓IntWalk.iteOmega]; done) | (simp [hc1, hc2, hc3, hc5, hc6, go_sem, ↓IntWalk.iteOmega]; done) | (first | (simp [go_sem]; done) | (repeat' (first | (with_reducible assumption) | (with_reducible refine And.intro ?_ ?_) | (with_reducible refine cell_drew ?_) | (with_reducible refine cell_via (by with_reducible assumption) ?_ ?_) | (simp [*]; done) | (simp [go_sem]; done) | (with_reducible refine cell_alloc ?_ ?_) | (with_reducible refine cell_set_far ?_ ?_) | omega | (simp; omega))))) (first | (go_at_call 73; (with_reducible refine (C2.out _).mono ?_); rintro e w5 ⟨rfl, hb5⟩; obtain ⟨fc5, fg5, hc5, hf5, hz5⟩ := bget hb5; (try simp at hz5)) | (go_at_call 75; (with_reducible refine (C4.out _).mono ?_); rintro e w6 ⟨rfl, hb6⟩; obtain ⟨fc6, fg6, hc6, hf6, hz6⟩ := bget hb6; (try simp at hz6)))
  go_wp2
  all_goals
    refine bodyPost_ret (by simp [results, Try.results44, go_sem, ↓IntWalk.iteOmega, hc1, hc2, hc3, hc5, hc6]; try rfl) rfl ⟨rfl, ?_⟩
    (repeat' (first | (with_reducible exact Below.refl _ _) | (with_reducible assumption) | (with_reducible refine Below.alloc ?_ ?_ _) | (with_reducible refine Below.setCell ?_ ?_ _) | (with_reducible refine Below.drew ?_) | (with_reducible refine below_drewN ?_ _) | (with_reducible refine below_via ?_ (by with_reducible assumption) ?_) | omega | (simp; done) | (simp; omega)))
theorem wideDiv (n d : Int) (w : World) (hn : In128 n) (hd : 0 < d) (hd1 : d ≤ 9223372036854775807) :
    Calls Try.prog 44 #[(.agg #[.int .i64 (whi (n)), .int .u64 (wlo (n))]), .int .i64 d] w fun e w' => e = .returned (.tuple #[(.agg #[.int .i64 (whi (n / d)), .int .u64 (wlo (n / d))]), .int .i64 (n % d), .int .i64 0]) ∧ Below w.heap.size w w' := by
  have hm : 0 ≤ iabs n ∧ iabs n ≤ 170141183460469231731687303715884105728 := by unfold In128 at hn; unfold iabs; split <;> omega
  by_cases h : n < 0
  · have hs := iabs_neg h
    have e2 := Int.emod_nonneg (iabs n) (show d ≠ 0 by omega)
    rcases (show iabs n % d = 0 ∨ 0 < iabs n % d by omega) with hr | hr
    · have hf := floor_neg0 hs hd hr
      rw [hf.1, hf.2]
      exact wideDivNeg0 n (iabs n) d w hn hd hd1 rfl (by simpa using h) hm.1 hm.2 hr
    · have hf := floor_neg1 hs hd hr
      rw [hf.1, hf.2]
      exact wideDivNeg1 n (iabs n) d w hn hd hd1 rfl (by simpa using h) hm.1 hm.2 hr
  · have hs := iabs_pos (show 0 ≤ n by omega)
    have hp := wideDivPos n (iabs n) d w hn hd hd1 rfl (by simpa using h) hm.1 hm.2
    rw [hs] at hp
    exact hp
set_option maxRecDepth 100000 in
set_option maxHeartbeats 1000000 in
theorem wideDivZero (n : Int) (w : World) :
    Calls Try.prog 44 #[(.agg #[.int .i64 (whi (n)), .int .u64 (wlo (n))]), .int .i64 0] w fun e w' => e = .returned (.tuple #[.agg #[.int .i64 0, .int .u64 0], .int .i64 0, .int .i64 8]) ∧ Below w.heap.size w w' := by
  go_enter Try.func44, Try.ntmps44
  go_wp2
  refine bodyPost_ret (by simp [results, Try.results44, go_sem, ]; try rfl) rfl ⟨rfl, ?_⟩
  (repeat' (first | (with_reducible exact Below.refl _ _) | (with_reducible assumption) | (with_reducible refine Below.alloc ?_ ?_ _) | (with_reducible refine Below.setCell ?_ ?_ _) | (with_reducible refine Below.drew ?_) | (with_reducible refine below_drewN ?_ _) | (with_reducible refine below_via ?_ (by with_reducible assumption) ?_) | omega | (simp; done) | (simp; omega)))
set_option maxRecDepth 100000 in
set_option maxHeartbeats 1000000 in
theorem wideDivNeg (n d : Int) (w : World) (hd : d < 0) :
    Calls Try.prog 44 #[(.agg #[.int .i64 (whi (n)), .int .u64 (wlo (n))]), .int .i64 d] w fun e w' => e = .returned (.tuple #[.agg #[.int .i64 0, .int .u64 0], .int .i64 0, .int .i64 2]) ∧ Below w.heap.size w w' := by
  have d0 : (d == 0) = false := by simp; omega
  have d2 : decide (d < 0) = true := by simpa using hd
  go_enter Try.func44, Try.ntmps44
  go_wp2
  refine bodyPost_ret (by simp [results, Try.results44, go_sem, ]; try rfl) rfl ⟨rfl, ?_⟩
  (repeat' (first | (with_reducible exact Below.refl _ _) | (with_reducible assumption) | (with_reducible refine Below.alloc ?_ ?_ _) | (with_reducible refine Below.setCell ?_ ?_ _) | (with_reducible refine Below.drew ?_) | (with_reducible refine below_drewN ?_ _) | (with_reducible refine below_via ?_ (by with_reducible assumption) ?_) | omega | (simp; done) | (simp; omega)))
end Go.Proofs.Ytenehpcliajdnaa

/- Shares: contracts of fix.Scale, share.right, quotas, Takes. -/
namespace Go.Proofs.Ytenehpcliajdnaa
open Go.RowKit
set_option maxRecDepth 100000 in
set_option maxHeartbeats 4000000 in
theorem fixScaleOk (a n d : Int) (w : World) (ha : In64 a) (hn : In64 n) (hd : 0 < d) (hd1 : d ≤ 9223372036854775807) (h : In64 (a * n / d)) :
    Calls Try.prog 82 #[.int .i64 a, .int .i64 n, .int .i64 d] w fun e w' => e = .returned (.tuple #[.int .i64 (a * n / d), .int .i64 (a * n % d), .int .i64 0]) ∧ Below w.heap.size w w' := by
  have hm := mul64_128 ha hn
  go_enter Try.func82, Try.ntmps82
  go_wp2_with (first | (go_at_call 69; (with_reducible refine (wideMul a n _ ha hn).mono ?_); rintro e w1 ⟨rfl, hb1⟩; obtain ⟨fc1, fg1, hc1, hf1, hz1⟩ := bget hb1; (try simp at hz1)) | (go_at_call 44; (with_reducible refine (wideDiv (a * n) d _ hm hd hd1).mono ?_); rintro e w2 ⟨rfl, hb2⟩; obtain ⟨fc2, fg2, hc2, hf2, hz2⟩ := bget hb2; (try simp at hz2)) | (go_at_call 80; (with_reducible refine (narrowYes (a * n / d) _ h).mono ?_); rintro e w3 ⟨rfl, hb3⟩; obtain ⟨fc3, fg3, hc3, hf3, hz3⟩ := bget hb3; (try simp at hz3)) | fail)
  refine bodyPost_ret (by simp [results, Try.results82, go_sem, ]; try rfl) rfl ⟨rfl, ?_⟩
  (repeat' (first | (with_reducible exact Below.refl _ _) | (with_reducible assumption) | (with_reducible refine Below.alloc ?_ ?_ _) | (with_reducible refine Below.setCell ?_ ?_ _) | (with_reducible refine Below.drew ?_) | (with_reducible refine below_drewN ?_ _) | (with_reducible refine below_via ?_ (by with_reducible assumption) ?_) | omega | (simp; done) | (simp; omega)))
/-- No number is below 0. -/
def rightS (T : Int) (l : List Int) : Bool := decide (0 ≤ T) && l.all (fun x => decide (0 ≤ x))
theorem minL_nonneg : ∀ (l : List Int) (a : Int), decide (0 ≤ minL a l) = (decide (0 ≤ a) && l.all (fun x => decide (0 ≤ x)))
  | [], a => by
    show decide (0 ≤ a) = (decide (0 ≤ a) && true)
    rw [Bool.and_true]
  | x :: t, a => by
    have h := minL_nonneg t (min a x)
    have hm : decide (0 ≤ min a x) = (decide (0 ≤ a) && decide (0 ≤ x)) := by
      rw [Bool.eq_iff_iff, Bool.and_eq_true, decide_eq_true_eq, decide_eq_true_eq, decide_eq_true_eq]; omega
    show decide (0 ≤ minL (min a x) t) = _
    rw [h, List.all_cons, hm, Bool.and_assoc]
set_option maxRecDepth 100000 in
set_option maxHeartbeats 4000000 in
theorem shrRight (T : Int) (l : List Int) (A : Option Addr) (c : Nat) (w : World) (hl : l.length ≤ 1000000) (hr : Rd w A 1 (l.map encI)) :
    Calls Try.prog 61 #[.int .i64 T, .slice A l.length c] w fun e w' => e = .returned (.bool (rightS T l)) ∧ Below w.heap.size w w' := by
  have HR := Lib.hid hr
  have HM := Lib.hid (minL_nonneg l T)
  clear hr
  obtain ⟨m, hm⟩ : ∃ m, minL T l = m := ⟨_, rfl⟩
  have C1 := Lib.hid (fun W (h : Rd W A 1 (l.map encI)) => show Calls Try.prog 81 #[.int .i64 T, .slice A l.length c] W (fun e w' => e = .returned (.int .i64 m) ∧ W = w') from by rw [← hm]; exact fixLeast T l A c W (by omega) h)
  rw [hm] at HM
  clear hm
  go_enter Try.func61, Try.ntmps61
  go_wp2_with (first | (go_at_call 81; (with_reducible refine (C1.out _ (HR.out.keep (by (repeat' (first | (with_reducible exact Below.refl _ _) | (with_reducible assumption) | (with_reducible refine Below.alloc ?_ ?_ _) | (with_reducible refine Below.setCell ?_ ?_ _) | (with_reducible refine Below.drew ?_) | (with_reducible refine below_drewN ?_ _) | (with_reducible refine below_via ?_ (by with_reducible assumption) ?_) | omega | (simp; done) | (simp; omega)))))).mono ?_); rintro e w1 ⟨rfl, rfl⟩) | fail)
  go_ret
  exact ⟨by unfold rightS; rw [← HM.out]; first | done | rfl, by (repeat' (first | (with_reducible exact Below.refl _ _) | (with_reducible assumption) | (with_reducible refine Below.alloc ?_ ?_ _) | (with_reducible refine Below.setCell ?_ ?_ _) | (with_reducible refine Below.drew ?_) | (with_reducible refine below_drewN ?_ _) | (with_reducible refine below_via ?_ (by with_reducible assumption) ?_) | omega | (simp; done) | (simp; omega)))⟩
theorem right_iff {T : Int} {l : List Int} : rightS T l = true ↔ 0 ≤ T ∧ ∀ x ∈ l, 0 ≤ x := by
  unfold rightS; simp
theorem elQuo : Elem Try.prog 97 101 3 24 := elem_of Try.underlying97 (z := .agg #[.int .i64 0, .int .i64 0, .int .i64 0]) (by kernel_rfl) rfl (by omega)
theorem quoF_snoc (T S : Int) : ∀ (l : List Int) (k n : Nat) (h : n < l.length), (quoF T S k l).take (n + 1) = (quoF T S k l).take n ++ [⟨(k + n : Nat), T * l[n] / S, T * l[n] % S⟩]
  | x :: t, k, 0, _ => by simp [quoF]
  | x :: t, k, n + 1, h => by
    have := quoF_snoc T S t (k + 1) n (by simpa using h)
    simp only [quoF, List.take_succ_cons, List.getElem_cons_succ, List.cons_append] at this ⊢
    rw [this, show k + 1 + n = k + (n + 1) from by omega]
theorem partL_take (T S : Int) {l : List Int} {n : Nat} (h : n < l.length) : (partL T S (l.take (n + 1))).sum = (partL T S (l.take n)).sum + T * l[n] / S := by
  unfold partL
  rw [List.take_succ_eq_append_getElem h, List.map_append, List.sum_append]; simp
theorem quota_bound {T S x : Int} (hT : 0 ≤ T) (hS : 0 < S) (h0 : 0 ≤ x) (h1 : x ≤ S) : 0 ≤ T * x / S ∧ T * x / S ≤ T := by
  refine ⟨Int.ediv_nonneg (Int.mul_nonneg hT h0) (by omega), ?_⟩
  exact Int.ediv_le_of_le_mul hS (Int.mul_le_mul_of_nonneg_left h1 hT)
/-- No quotas are more than there is. -/
theorem parts_le {T S : Int} (hT : 0 ≤ T) (hS : 0 < S) {l : List Int} (h0 : ∀ x ∈ l, 0 ≤ x) (hs : l.sum ≤ S) : 0 ≤ (partL T S l).sum ∧ (partL T S l).sum ≤ T := by
  have h1 := quoF_all T S l
  have h2 := sum_nonneg' fun z hz => (leftL_bound hS T l z hz).1
  have h3 : T * l.sum ≤ T * S := Int.mul_le_mul_of_nonneg_left hs hT
  refine ⟨sum_nonneg' fun z hz => ?_, ?_⟩
  · unfold partL at hz
    obtain ⟨x, hx, rfl⟩ := List.mem_map.1 hz
    exact Int.ediv_nonneg (Int.mul_nonneg hT (h0 x hx)) (by omega)
  · exact Int.le_of_mul_le_mul_right (by omega) hS
theorem sum_take_le {l : List Int} (h0 : ∀ x ∈ l, 0 ≤ x) (k : Nat) : (l.take k).sum ≤ l.sum := by
  have h := congrArg List.sum (List.take_append_drop k l)
  rw [List.sum_append] at h
  have := sum_nonneg' fun z hz => h0 z (List.mem_of_mem_drop (i := k) hz)
  omega
theorem mem_le_sum {l : List Int} (h0 : ∀ x ∈ l, 0 ≤ x) {x : Int} (hx : x ∈ l) : x ≤ l.sum := by
  induction l with
  | nil => simp at hx
  | cons a t ih =>
    have h1 := sum_nonneg' fun z hz => h0 z (List.mem_cons_of_mem a hz)
    have h2 := h0 a (by simp)
    simp only [List.sum_cons]
    rcases List.mem_cons.1 hx with rfl | hx
    · omega
    · have := ih (fun z hz => h0 z (by simp [hz])) hx; omega
set_option maxRecDepth 100000 in
set_option maxHeartbeats 8000000 in
theorem shrQuotas (T S : Int) (l : List Int) (A : Option Addr) (c : Nat) (w : World) (hl : l.length ≤ 1000000) (hT : 0 ≤ T) (hT1 : T ≤ 9223372036854775807) (hS : 0 < S) (hS1 : S ≤ 9223372036854775807) (hs : l.sum = S) (h0 : ∀ x ∈ l, 0 ≤ x) (hr : Rd w A 1 (l.map encI)) :
    Calls Try.prog 62 #[.int .i64 T, .int .i64 S, .slice A l.length c] w fun e w' => ∃ v, e = .returned (.tuple #[v, .int .i64 (partL T S l).sum]) ∧ Own w' w.heap.size 101 3 v ((quoF T S 0 l).map encQuo) ∧ Below w.heap.size w w' := by
  have HR := Lib.hid hr
  have H0 := Lib.hid h0
  have HSM := Lib.hid hs
  clear hr h0 hs
  go_enter Try.func62, Try.ntmps62
  go_wp2_with (at_make; refine wpList_mk rfl _ _ _ rfl elQuo w.heap.size _ _ _ l.length rfl rfl (by omega) (by omega) (by unfold maxLen; omega) (Nat.le_refl _) ?_; intro w1 hown1 hb1)
  have Hown1 := Lib.hid hown1
  have Hb1 := Lib.hid hb1
  clear hown1 hb1
  go_loopw [8, 9, 20] (fun v g i wr => ∃ k : Nat, k ≤ l.length ∧ i = .int .i64 k ∧ g = .int .i64 (partL T S (l.take k)).sum ∧ Own wr w.heap.size 101 3 v (((quoF T S 0 l).take k).map encQuo) ∧ Below w.heap.size w wr) (fun _ _ i _ => l.length - (intOf i).toNat)
  case atStart => exact ⟨0, Nat.zero_le _, rfl, rfl, by simpa using Hown1.out, Hb1.out⟩
  case round =>
    obtain ⟨k, hk, rfl, rfl, hown, hbl⟩ := hrel
    have Hown := Lib.hid hown
    have Hbl := Lib.hid hbl
    have hz := hbl.size
    clear hown hbl
    by_cases hlt : k < l.length
    · have kl : (k : Int) < (l.length : Int) := by omega
      have dl : decide ((k : Int) < (l.length : Int)) = true := by simpa using hlt
      obtain ⟨b, o, rfl, hb, hc⟩ := HR.out k (encI l[k]) (by simp [hlt])
      have e0 := (Hbl.out.cell (p := ⟨b, o + k * 1 + 0, none⟩) hb).trans (hc 0 _ rfl)
      simp only [Nat.add_zero, Nat.mul_one] at e0
      have hbw : b < wr.heap.size := by omega
      have hx0 := H0.out l[k] (List.getElem_mem hlt)
      have hx1 : l[k] ≤ S := by rw [← HSM.out]; exact mem_le_sum H0.out (List.getElem_mem hlt)
      have hq := quota_bound hT hS hx0 hx1
      have hp1 := parts_le hT hS (l := l.take k) (fun x hx => H0.out x (List.mem_of_mem_take hx)) (by have := sum_take_le H0.out k; rw [HSM.out] at this; exact this)
      have hp2 := parts_le hT hS (l := l.take (k + 1)) (fun x hx => H0.out x (List.mem_of_mem_take hx)) (by have := sum_take_le H0.out (k + 1); rw [HSM.out] at this; exact this)
      have HP := Lib.hid (partL_take T S hlt)
      rw [HP.out] at hp2
      have HQ := Lib.hid (quoF_snoc T S l 0 k hlt)
      rw [Nat.zero_add] at HQ
      have hlq : (((quoF T S 0 l).take k).map encQuo).length ≤ 1000000 := by rw [List.length_map, List.length_take]; omega
      obtain ⟨x, hxe⟩ : ∃ x, x = l[k] := ⟨_, rfl⟩
      rw [← hxe] at e0 hx0 hx1 hq hp2 HP HQ
      have C1 := Lib.hid (fun W => fixScaleOk T x S W (by unfold In64; omega) (by unfold In64; omega) hS hS1 (by unfold In64; omega))
      clear hc hxe
      generalize T * x / S = qq at *
      generalize T * x % S = rr at *
      generalize (partL T S (l.take k)).sum = gv at *
      generalize (quoF T S 0 l).take k = qs at *
      go_wp2_with (first | (go_at_call 82; (with_reducible refine (C1.out _).mono ?_); rintro e w2 ⟨rfl, hb2⟩; obtain ⟨fc2, fg2, hc2, hf2, hz2⟩ := bget hb2; (try simp at hz2)) | (at_builtin; refine wpList_app rfl _ _ _ rfl elQuo w.heap.size _ _ rfl ((Hown.out.keep (by (repeat' (first | (with_reducible exact Below.refl _ _) | (with_reducible assumption) | (with_reducible refine Below.alloc ?_ ?_ _) | (with_reducible refine Below.setCell ?_ ?_ _) | (with_reducible refine Below.drew ?_) | (with_reducible refine below_drewN ?_ _) | (with_reducible refine below_via ?_ (by with_reducible assumption) ?_) | omega | (simp; done) | (simp; omega))))).alloc _) (some ⟨_, 0, none⟩) 1 1 rfl [encQuo ⟨k, qq, rr⟩] rfl (fun h => by cases h) (rd_oneN (by simp)) (rowsQuo [⟨k, qq, rr⟩]) (by unfold maxLen; first | (simp; done) | omega | (simp; omega)) (by first | (simp; done) | omega | (simp; omega)) (by first | omega | (simp; done) | (simp; omega)) ?_; intro v3 w3 hown3 hb3; obtain ⟨fc3, fg3, hc3, hf3, hz3⟩ := bget hb3; (try simp at hz3)) | fail)
      go_roundw
      case rel => exact ⟨k + 1, by omega, by go_num, by rw [HP.out], by rw [HQ.out, List.map_append]; exact hown3, by have hbl := Hbl.out; (repeat' (first | (with_reducible exact Below.refl _ _) | (with_reducible assumption) | (with_reducible refine Below.alloc ?_ ?_ _) | (with_reducible refine Below.setCell ?_ ?_ _) | (with_reducible refine Below.drew ?_) | (with_reducible refine below_drewN ?_ _) | (with_reducible refine below_via ?_ (by with_reducible assumption) ?_) | omega | (simp; done) | (simp; omega)))⟩
      case measure => simp [intOf]; omega
    · have dl : decide ((k : Int) < (l.length : Int)) = false := by simpa using hlt
      have HT := Lib.hid (show l.take k = l from List.take_of_length_le (by omega))
      have HT2 := Lib.hid (show (quoF T S 0 l).take k = quoF T S 0 l from List.take_of_length_le (by rw [quoF_len]; omega))
      rw [HT.out]
      go_wp2_with fail
      go_ret2
      exact ⟨_, rfl, by have := Hown.out; rw [HT2.out] at this; exact this, Hbl.out⟩
end Go.Proofs.Ytenehpcliajdnaa

/- Shares: slices.SortFunc at quotas: the same ones, who is ahead first. -/
namespace Go.Proofs.Ytenehpcliajdnaa
open Go.RowKit
theorem sort_only {α : Type} [Inhabited α] (enc : α → List Value) (k : Nat) (w : World) (g o n : Nat) (d : Array α) (os : Array Obj) : Only g w (Go.Proofs.sortWorldK enc k w g o n d os) := by
  refine ⟨rfl, rfl, rfl, ?_, fun i hi hne => ?_⟩
  · show w.heap.size ≤ (w.heap.modify g _ ++ os).size
    simp
  · show (w.heap.modify g _ ++ os)[i]? = w.heap[i]?
    rw [Array.getElem?_append_left (by simpa using hi), Array.getElem?_modify, if_neg (fun h => hne h.symm)]
theorem own_holds {w : World} {base E g c : Nat} {L : List Quo} (h : Own w base E 3 (.slice (some ⟨g, 0, none⟩) L.length c) (L.map encQuo)) : Go.Sort.HoldsK encQuo 3 w g 0 L.toArray := by
  obtain ⟨cur, hblk⟩ := h.blk rfl
  intro j hj
  rw [Go.Sort.size_flatK] at hj
  simp only [List.size_toArray] at hj
  have hq : j / 3 < L.length := by omega
  obtain ⟨b', o', e', hb', hcc⟩ := (h.rd).1 (j / 3) (encQuo L[j / 3]) (by simp [hq])
  injection e' with e'
  injection e' with e1 e2 _
  subst e1 e2
  refine ⟨?_, hblk.frozen _⟩
  have hr : j % 3 < (encQuo L[j / 3]).length := by unfold encQuo; simp; omega
  have := hcc (j % 3) _ (List.getElem?_eq_getElem hr)
  rw [Go.Sort.get_flatK _ _ _ _ (by simpa using hj), show 0 + j = 0 + j / 3 * 3 + j % 3 from by omega, this]
  congr 1
  show _ = id ((encQuo L.toArray[j / 3]!)[j % 3]!)
  rw [getElem!_pos L.toArray (j / 3) (by simpa using hq)]
  simp only [List.getElem_toArray, id]
  rw [getElem!_pos (encQuo L[j / 3]) (j % 3) hr]
set_option maxHeartbeats 2000000 in
theorem sortQuo (L : List Quo) (g c base E : Nat) (w : World) (hl : L.length ≤ 1000000) (hown : Own w base E 3 (.slice (some ⟨g, 0, none⟩) L.length c) (L.map encQuo)) :
    Calls Try.prog 63 #[.slice (some ⟨g, 0, none⟩) L.length c, .func (Fn.func 64) #[] #[]] w fun e w' => e = .returned (.tuple #[]) ∧ ∃ M : List Quo, M.Perm L ∧ M.Pairwise (fun x y => aheadQ y x = false) ∧ Rd w' (some ⟨g, 0, none⟩) 3 (M.map encQuo) ∧ Only g w w' := by
  have hgl := (hown.block g rfl).2
  have hH := own_holds hown
  have eg : ∀ args w, (callFunc 64 args).run Try.prog w = .ok (.enter 64 args) w := enters_of Try.func64 (by kernel_rfl) rfl
  have hcon := Go.Proofs.AnyQ.slices_SortFunc Try.sortQuo 3 Try.isAgg101 Try.sizeOf101 encQuo (fun _ => rfl) (fun x v hv => by simp [encQuo] at hv; rcases hv with rfl | rfl | rfl <;> rfl) cfQ cfQ_swo 64 #[] g 0 c L.toArray w eg (shrLays g 0 L.toArray.size w) hH hgl (by simp; omega)
  change Calls Try.prog 63 _ _ _ at hcon
  simp only [List.size_toArray] at hcon
  refine hcon.mono ?_
  rintro e w' ⟨rfl, d', n, os, hp, hs, rfl⟩
  obtain ⟨hp1, _, hp3⟩ := hp
  simp only [List.size_toArray] at hp1
  have hpe : d'.toList.Perm L := by
    rw [show L.length = d'.size from hp1.symm] at hp3
    rw [Array.extract_size] at hp3
    have h2 : (L.toArray.extract 0 d'.size).toList = L := by
      rw [hp1, show L.length = L.toArray.size from by simp, Array.extract_size]
    rw [h2] at hp3
    exact hp3
  have hH2 : Go.Sort.HoldsK encQuo 3 (Go.Proofs.sortWorldK encQuo 3 w g 0 n d' os) g 0 d' := by
    unfold Go.Proofs.sortWorldK
    refine Go.Sort.holdsK_grow encQuo 3 _ os g 0 d' ?_ (Go.Sort.holdsK_putRowK encQuo 3 _ g 0 L.toArray d' (Go.Sort.holdsK_ahead encQuo 3 w n g 0 _ hH) (by simp [hp1]))
    show g < (w.heap.modify g _).size
    simpa using hgl
  have hsz := (sort_only encQuo 3 w g 0 n d' os).size
  refine ⟨rfl, d'.toList, hpe, ?_, ?_, sort_only encQuo 3 w g 0 n d' os⟩
  · rw [List.pairwise_iff_getElem]
    intro i j hi hj hij
    have := hs i j (Nat.zero_le _) hij (by simpa [hp1] using hj)
    rw [cfQ_lt] at this
    simp only [Array.length_toList] at hi hj
    rw [getElem!_pos d' j hj, getElem!_pos d' i hi] at this
    simpa using this
  · intro i r hr
    obtain ⟨x, hx, rfl⟩ : ∃ x, d'.toList[i]? = some x ∧ r = encQuo x := by
      rw [List.getElem?_map] at hr
      cases hx : d'.toList[i]? with
      | none => rw [hx] at hr; simp at hr
      | some x => rw [hx] at hr; simp at hr; exact ⟨x, rfl, hr.symm⟩
    obtain ⟨hi, hxe⟩ := List.getElem?_eq_some_iff.1 hx
    simp only [Array.length_toList] at hi
    refine ⟨g, 0, rfl, by omega, fun j v hv => ?_⟩
    obtain ⟨hj, hve⟩ := List.getElem?_eq_some_iff.1 hv
    have hj3 : j < 3 := by unfold encQuo at hj; simpa using hj
    have := (hH2.cell hi hj3).1
    rw [this]
    congr 1
    rw [getElem!_pos d' i hi, show d'[i] = x from by simpa using hxe, getElem!_pos (encQuo x) j hj]
    exact hve
end Go.Proofs.Ytenehpcliajdnaa

/- Rows of bits, the lowest first: plain arithmetic. -/
namespace Go.Proofs.Ytenehpcliajdnaa
def val : List Int → Int
  | [] => 0
  | b :: l => b + 2 * val l
def Bit (l : List Int) : Prop := ∀ b ∈ l, 0 ≤ b ∧ b ≤ 1
/-- The last one is 1. -/
def Top (l : List Int) : Prop := ∀ b, l.getLast? = some b → b = 1
def pw (k : Nat) : Int := 2 ^ k
theorem pw_zero : pw 0 = 1 := rfl
theorem pw_succ (k : Nat) : pw (k + 1) = 2 * pw k := by unfold pw; rw [Int.pow_succ, Int.mul_comm]
theorem pw_pos (k : Nat) : 0 < pw k := Int.pow_pos (by omega)
theorem pw_le {j k : Nat} (h : j ≤ k) : pw j ≤ pw k := by
  induction k with
  | zero => have : j = 0 := by omega
            subst this; exact Int.le_refl _
  | succ k ih =>
    rcases Nat.lt_or_ge j (k + 1) with h1 | h1
    · have := ih (by omega); have := pw_pos k; rw [pw_succ]; omega
    · have : j = k + 1 := by omega
      subst this; exact Int.le_refl _
theorem val_nonneg : ∀ {l : List Int}, Bit l → 0 ≤ val l
  | [], _ => Int.le_refl _
  | b :: l, h => by
    have h1 := h b (by simp)
    have h2 := val_nonneg (l := l) (fun x hx => h x (by simp [hx]))
    simp only [val]; omega
theorem val_lt : ∀ {l : List Int}, Bit l → val l < pw l.length
  | [], _ => by simp [val, pw]
  | b :: l, h => by
    have h1 := h b (by simp)
    have h2 := val_lt (l := l) (fun x hx => h x (by simp [hx]))
    simp only [val, List.length_cons, pw_succ]; omega
theorem val_append : ∀ (a b : List Int), val (a ++ b) = val a + pw a.length * val b
  | [], b => by simp [val, pw]
  | x :: a, b => by
    have := val_append a b
    simp only [List.cons_append, val, this, List.length_cons, pw_succ]
    rw [Int.mul_assoc, Int.mul_add]; omega
theorem val_snoc (a : List Int) (x : Int) : val (a ++ [x]) = val a + pw a.length * x := by rw [val_append]; simp [val]
theorem bit_snoc {a : List Int} {x : Int} (h : Bit a) (h0 : 0 ≤ x) (h1 : x ≤ 1) : Bit (a ++ [x]) := by
  intro b hb
  rcases List.mem_append.1 hb with h2 | h2
  · exact h b h2
  · simp at h2; subst h2; exact ⟨h0, h1⟩
theorem bit_take {a : List Int} (h : Bit a) (k : Nat) : Bit (a.take k) := fun b hb => h b (List.mem_of_mem_take hb)
theorem bit_drop {a : List Int} (h : Bit a) (k : Nat) : Bit (a.drop k) := fun b hb => h b (List.mem_of_mem_drop hb)
theorem bit_get {a : List Int} (h : Bit a) (i : Nat) : 0 ≤ a.getD i 0 ∧ a.getD i 0 ≤ 1 := by
  rcases Nat.lt_or_ge i a.length with h1 | h1
  · rw [List.getD_eq_getElem?_getD, List.getElem?_eq_getElem h1]; exact h _ (List.getElem_mem h1)
  · rw [List.getD_eq_getElem?_getD, List.getElem?_eq_none h1]; simp
theorem take_succD (l : List Int) (i : Nat) : val (l.take (i + 1)) = val (l.take i) + pw i * l.getD i 0 := by
  rcases Nat.lt_or_ge i l.length with h1 | h1
  · rw [List.take_succ_eq_append_getElem h1, val_snoc, List.length_take, Nat.min_eq_left (by omega), List.getD_eq_getElem?_getD, List.getElem?_eq_getElem h1]; rfl
  · rw [List.take_of_length_le (by omega), List.take_of_length_le h1, List.getD_eq_getElem?_getD, List.getElem?_eq_none h1]; simp
theorem top_ge {l : List Int} (h : Bit l) (ht : Top l) {k : Nat} (hl : l.length = k + 1) : pw k ≤ val l := by
  have hne : l ≠ [] := by intro e; subst e; simp at hl
  have e := List.dropLast_concat_getLast hne
  have h1 := ht (l.getLast hne) (List.getLast?_eq_some_getLast hne)
  have h2 : val l = val l.dropLast + pw l.dropLast.length * l.getLast hne := by rw [← val_snoc, e]
  rw [List.length_dropLast, hl, h1] at h2
  have h3 : 0 ≤ val l.dropLast := val_nonneg (fun b hb => h b ((List.dropLast_subset _) hb))
  simp at h2
  omega
theorem top_of_ge {l : List Int} (h : Bit l) {k : Nat} (hl : l.length = k + 1) (hv : pw k ≤ val l) : Top l := by
  intro b hb
  have hne : l ≠ [] := by intro e; subst e; simp at hl
  have e := List.dropLast_concat_getLast hne
  rw [List.getLast?_eq_some_getLast hne] at hb
  injection hb with hb
  have h1 := h b (by rw [← hb]; exact List.getLast_mem hne)
  have h2 : val l = val l.dropLast + pw l.dropLast.length * b := by rw [← hb, ← val_snoc, e]
  have h3 := val_lt (l := l.dropLast) (fun b hb => h b ((List.dropLast_subset _) hb))
  rw [List.length_dropLast, hl] at h2 h3
  simp at h2 h3
  rcases (show b = 0 ∨ b = 1 from by omega) with h0 | h0
  · subst h0; simp at h2; omega
  · exact h0
theorem len_le {l : List Int} (h : Bit l) (ht : Top l) {k : Nat} (hv : val l < pw k) : l.length ≤ k := by
  rcases Nat.lt_or_ge k l.length with h1 | h1
  · obtain ⟨m, hm⟩ : ∃ m, l.length = m + 1 := ⟨l.length - 1, by omega⟩
    have h2 := top_ge h ht hm
    have h3 := pw_le (j := k) (k := m) (by omega)
    omega
  · exact h1
theorem top_nil : Top [] := fun b hb => by simp at hb
theorem bit_nil : Bit [] := fun b hb => by simp at hb
theorem val_zero_top {l : List Int} (h : Bit l) (ht : Top l) (hv : val l = 0) : l = [] := by
  have := len_le h ht (k := 0) (by rw [hv]; exact pw_pos 0)
  exact List.eq_nil_of_length_eq_zero (by omega)
theorem top_pos {l : List Int} (h : Bit l) (ht : Top l) (hne : l ≠ []) : 0 < val l := by
  obtain ⟨m, hm⟩ : ∃ m, l.length = m + 1 := ⟨l.length - 1, by have := List.length_pos_iff.2 hne; omega⟩
  have := top_ge h ht hm; have := pw_pos m; omega
/-- Which of two without noughts on top is below: by length first. -/
theorem lt_of_len {a b : List Int} (ha : Bit a) (hb : Bit b) (tb : Top b) (h : a.length < b.length) : val a < val b := by
  obtain ⟨m, hm⟩ : ∃ m, b.length = m + 1 := ⟨b.length - 1, by omega⟩
  have h1 := top_ge hb tb hm
  have h2 := val_lt ha
  have h3 := pw_le (j := a.length) (k := m) (by omega)
  omega
theorem val_split (l : List Int) (i : Nat) (h : i ≤ l.length) : val l = val (l.take i) + pw i * val (l.drop i) := by
  have := val_append (l.take i) (l.drop i)
  rw [List.take_append_drop, List.length_take, Nat.min_eq_left h] at this
  exact this
/-- .. and, the lengths alike, by the highest bit that parts them. -/
theorem cmp_at {a b : List Int} (ha : Bit a) (hb : Bit b) (hl : a.length = b.length) {i : Nat} (hi : i < a.length) (hd : a.drop (i + 1) = b.drop (i + 1)) (h : a.getD i 0 < b.getD i 0) : val a < val b := by
  rw [val_split a (i + 1) (by omega), val_split b (i + 1) (by omega), hd, take_succD, take_succD]
  have h1 := val_lt (bit_take ha i)
  have h2 := val_nonneg (bit_take hb i)
  have h3 := bit_get ha i
  have h4 := bit_get hb i
  have e1 : a.getD i 0 = 0 := by omega
  have e2 : b.getD i 0 = 1 := by omega
  have h5 : (a.take i).length = i := by rw [List.length_take]; omega
  rw [h5] at h1
  rw [e1, e2]
  have := pw_pos i
  simp
  omega
theorem digit_step (P s : Int) : P * (s % 2) + 2 * P * (s / 2) = P * s := by
  have e : s % 2 + 2 * (s / 2) = s := by omega
  calc P * (s % 2) + 2 * P * (s / 2) = P * (s % 2 + 2 * (s / 2)) := by rw [Int.mul_add, Int.mul_comm 2 P, Int.mul_assoc]
    _ = P * s := by rw [e]
/-- One place of a sum. -/
theorem plus_step {l : List Int} {k : Nat} {q x y va vb va' vb' : Int} (hl : l.length = k) (hv : val l + pw k * q = va + vb) (ea : va' = va + pw k * x) (eb : vb' = vb + pw k * y) :
    val (l ++ [(q + x + y) % 2]) + pw (k + 1) * ((q + x + y) / 2) = va' + vb' := by
  rw [val_snoc, hl, pw_succ, Int.add_assoc, digit_step, ea, eb, Int.mul_add, Int.mul_add]
  omega
/-- One place of a difference. -/
theorem minus_step {l : List Int} {k : Nat} {q q' x y va vb va' vb' : Int} (hl : l.length = k) (hv : val l = va - vb + pw k * q) (ea : va' = va + pw k * x) (eb : vb' = vb + pw k * y) (hq : (x + 2 - (q + y)) % 2 = x - q - y + 2 * q') :
    val (l ++ [(x + 2 - (q + y)) % 2]) = va' - vb' + pw (k + 1) * q' := by
  rw [val_snoc, hl, pw_succ, hq, ea, eb, hv, Int.mul_add, Int.mul_sub, Int.mul_sub, ← Int.mul_assoc, Int.mul_comm (pw k) 2]
  omega
theorem drop_pred {a b : List Int} {k : Nat} (h0 : 0 < k) (ha : k ≤ a.length) (hb : k ≤ b.length) (hx : a.getD (k - 1) 0 = b.getD (k - 1) 0) (hd : a.drop k = b.drop k) : a.drop (k - 1) = b.drop (k - 1) := by
  rw [List.drop_eq_getElem_cons (l := a) (i := k - 1) (by omega), List.drop_eq_getElem_cons (l := b) (i := k - 1) (by omega), show k - 1 + 1 = k from by omega, hd]
  rw [List.getD_eq_getElem?_getD, List.getD_eq_getElem?_getD, List.getElem?_eq_getElem (by omega), List.getElem?_eq_getElem (by omega)] at hx
  simp at hx
  rw [hx]
end Go.Proofs.Ytenehpcliajdnaa

/- Contracts of the reference's rows of bits: plus, trim, Nat. -/
namespace Go.Proofs.Ytenehpcliajdnaa
open Go.RowKit
def encB (b : Int) : List Value := [.int .u8 b]
theorem elB : Elem Try.prog 28 5 1 1 := elem_of Try.underlying28 (z := .int .u8 0) (by kernel_rfl) rfl (by omega)
/-- A row of bits in memory. -/
theorem bit_cell {w wr : World} {B : Nat} {A : Option Addr} {l : List Int} {i : Nat} (hr : Rd w A 1 (l.map encB)) (hb : Below B w wr) (hB : w.heap.size ≤ B) (hi : i < l.length) :
    ∃ b o, A = some ⟨b, o, none⟩ ∧ b < w.heap.size ∧ wr.cell? ⟨b, o + i, none⟩ = some (.int .u8 (l.getD i 0)) := by
  obtain ⟨b, o, hA, hlt, hc⟩ := hr i (encB l[i]) (by simp [hi])
  refine ⟨b, o, hA, hlt, ?_⟩
  have := (hb.cell (p := ⟨b, o + i * 1 + 0, none⟩) (by exact Nat.lt_of_lt_of_le hlt hB)).trans (hc 0 _ rfl)
  simpa [List.getD_eq_getElem?_getD, List.getElem?_eq_getElem hi] using this
def PlusPost (w : World) (la lb : List Int) (e : Ending) (w' : World) : Prop :=
  ∃ v l, e = .returned v ∧ Own w' w.heap.size 5 1 v (l.map encB) ∧ Below w.heap.size w w' ∧ Bit l ∧ val l = val la + val lb ∧ (l.length = max la.length lb.length ∨ (l.length = max la.length lb.length + 1 ∧ Top l))
set_option maxRecDepth 100000 in
set_option maxHeartbeats 2000000 in
theorem bigPlus (la lb : List Int) (A B : Option Addr) (c d : Nat) (w : World) (hla : la.length ≤ 1048576) (hlb : lb.length ≤ 1048576) (ha : Rd w A 1 (la.map encB)) (hb : Rd w B 1 (lb.map encB)) (ba : Bit la) (bb : Bit lb) :
    Calls Try.prog 47 #[.slice A la.length c, .slice B lb.length d] w (PlusPost w la lb) := by
  have Ha := Lib.hid ha
  have Hb := Lib.hid hb
  have Ba := Lib.hid ba
  have Bb := Lib.hid bb
  clear ha hb ba bb
  go_enter Try.func47, Try.ntmps47
  go_wp2_with fail
  go_loopw [5, 6, 7] (fun v cc i wr => ∃ (k : Nat) (l : List Int) (q : Int), k ≤ max la.length lb.length ∧ i = .int .i64 k ∧ cc = .int .u8 q ∧ 0 ≤ q ∧ q ≤ 1 ∧ Own wr w.heap.size 5 1 v (l.map encB) ∧ Below w.heap.size w wr ∧ l.length = k ∧ Bit l ∧ val l + pw k * q = val (la.take k) + val (lb.take k))
    (fun _ _ i _ => max la.length lb.length - (intOf i).toNat)
  case atStart => exact ⟨0, [], 0, Nat.zero_le _, rfl, rfl, by omega, by omega, Own.nil _ _ _ _, Below.refl _ _, rfl, bit_nil, by simp [val]⟩
  case round =>
    obtain ⟨k, l, q, hk, rfl, rfl, q0, q1, hown, hbl, hl, hbit, hval⟩ := hrel
    have Hown := Lib.hid hown
    have Hbl := Lib.hid hbl
    have Hl := Lib.hid hl
    have Hbit := Lib.hid hbit
    have Hval := Lib.hid hval
    have hz := hbl.size
    have ga := bit_get Ba.out k
    have gb := bit_get Bb.out k
    have ea := take_succD la k
    have eb := take_succD lb k
    have Ea := Lib.hid ea
    have Eb := Lib.hid eb
    clear hown hbl hl hbit hval ea eb
    obtain ⟨x, hx⟩ : ∃ x, x = la.getD k 0 := ⟨_, rfl⟩
    obtain ⟨y, hy⟩ : ∃ y, y = lb.getD k 0 := ⟨_, rfl⟩
    by_cases h1 : k < la.length
    · obtain ⟨b1, o1, rfl, hb1, c1⟩ := bit_cell Ha.out Hbl.out (Nat.le_refl _) h1
      rw [← hx] at ga c1 Ea
      rw [← hy] at gb Eb
      have Hx := Lib.hid hx
      clear hx
      have d1 : decide ((k : Int) < (la.length : Int)) = true := by simpa using h1
      by_cases h2 : k < lb.length
      · obtain ⟨b2, o2, rfl, hb2, c2⟩ := bit_cell Hb.out Hbl.out (Nat.le_refl _) h2
        rw [← hy] at c2
        have Hy := Lib.hid hy
        clear hy
        go_wp2_with (at_builtin; refine wpList_app rfl _ _ _ rfl elB w.heap.size _ _ rfl (Hown.out.alloc _) (some ⟨wr.heap.size, 0, none⟩) 1 1 rfl [encB ((q + x + y) % 2)] rfl (fun h => by cases h) rd_one (by simp [encB]; rfl) (by have := Hl.out; unfold maxLen; simp; omega) (by have := Hl.out; simp; omega) (by simp; omega) ?_; intro v' w3 hown3 hb3)
        go_roundw
        case rel => exact ⟨k + 1, l ++ [(q + x + y) % 2], (q + x + y) / 2, by omega, by go_num, rfl, by omega, by omega, by simpa using hown3, (Hbl.out.alloc hz _).trans hb3, by simp [Hl.out], bit_snoc Hbit.out (by omega) (by omega), plus_step Hl.out Hval.out Ea.out Eb.out⟩
        case measure => simp [intOf]; omega
      · have hy0 : y = 0 := by rw [hy, List.getD_eq_getElem?_getD, List.getElem?_eq_none (by omega)]; rfl
        subst hy0
        clear hy
        go_wp2_with (at_builtin; refine wpList_app rfl _ _ _ rfl elB w.heap.size _ _ rfl (Hown.out.alloc _) (some ⟨wr.heap.size, 0, none⟩) 1 1 rfl [encB ((q + x) % 2)] rfl (fun h => by cases h) rd_one (by simp [encB]; rfl) (by have := Hl.out; unfold maxLen; simp; omega) (by have := Hl.out; simp; omega) (by simp; omega) ?_; intro v' w3 hown3 hb3)
        go_roundw
        case rel => exact ⟨k + 1, l ++ [(q + x + 0) % 2], (q + x + 0) / 2, by omega, by go_num, by simp, by omega, by omega, by simpa using hown3, (Hbl.out.alloc hz _).trans hb3, by simp [Hl.out], bit_snoc Hbit.out (by omega) (by omega), plus_step Hl.out Hval.out Ea.out Eb.out⟩
        case measure => simp [intOf]; omega
    · have hx0 : x = 0 := by rw [hx, List.getD_eq_getElem?_getD, List.getElem?_eq_none (by omega)]; rfl
      rw [← hx, hx0] at Ea
      rw [← hy] at gb Eb
      clear hx hx0 ga
      have d1 : decide ((k : Int) < (la.length : Int)) = false := by simpa using h1
      by_cases h2 : k < lb.length
      · obtain ⟨b2, o2, rfl, hb2, c2⟩ := bit_cell Hb.out Hbl.out (Nat.le_refl _) h2
        rw [← hy] at c2
        have Hy := Lib.hid hy
        clear hy
        have d2 : decide ((k : Int) < (lb.length : Int)) = true := by simpa using h2
        go_wp2_with (at_builtin; refine wpList_app rfl _ _ _ rfl elB w.heap.size _ _ rfl (Hown.out.alloc _) (some ⟨wr.heap.size, 0, none⟩) 1 1 rfl [encB ((q + y) % 2)] rfl (fun h => by cases h) rd_one (by simp [encB]; rfl) (by have := Hl.out; unfold maxLen; simp; omega) (by have := Hl.out; simp; omega) (by simp; omega) ?_; intro v' w3 hown3 hb3)
        go_roundw
        case rel => exact ⟨k + 1, l ++ [(q + 0 + y) % 2], (q + 0 + y) / 2, by omega, by go_num, by simp, by omega, by omega, by simpa using hown3, (Hbl.out.alloc hz _).trans hb3, by simp [Hl.out], bit_snoc Hbit.out (by omega) (by omega), plus_step Hl.out Hval.out Ea.out Eb.out⟩
        case measure => simp [intOf]; omega
      · have d2 : decide ((k : Int) < (lb.length : Int)) = false := by simpa using h2
        clear hy gb
        have hkm : k = max la.length lb.length := by omega
        have hv := Hval.out
        rw [List.take_of_length_le (by omega), List.take_of_length_le (by omega)] at hv
        have HV := Lib.hid hv
        have HK := Lib.hid hkm
        clear hv hkm
        rcases (show q = 0 ∨ q = 1 from by omega) with h0 | h0
        · subst h0
          go_wp2_with fail
          go_ret
          exact ⟨u5, l, rfl, Hown.out, Hbl.out, Hbit.out, by have := HV.out; simpa using this, .inl (by rw [Hl.out, HK.out])⟩
        · subst h0
          go_wp2_with (at_builtin; refine wpList_app rfl _ _ _ rfl elB w.heap.size _ _ rfl (Hown.out.alloc _) (some ⟨wr.heap.size, 0, none⟩) 1 1 rfl [encB 1] rfl (fun h => by cases h) rd_one (by simp [encB]; rfl) (by have := Hl.out; unfold maxLen; simp; omega) (by have := Hl.out; simp; omega) (by simp; omega) ?_; intro v' w3 hown3 hb3)
          go_ret
          exact ⟨v', l ++ [1], rfl, by simpa using hown3, (Hbl.out.alloc hz _).trans hb3, bit_snoc Hbit.out (by omega) (by omega), by rw [val_snoc, Hl.out]; exact HV.out, .inr ⟨by simp [Hl.out, ← HK.out], fun b hb => by simpa using hb.symm⟩⟩
end Go.Proofs.Ytenehpcliajdnaa

/- Contracts of the reference's trim, Nat, Of. -/
namespace Go.Proofs.Ytenehpcliajdnaa
open Go.RowKit
/-- A whole number without bounds, as it lies in memory. -/
structure IsBig (w : World) (n : Int) (s : Bool) (A : Option Addr) (l : List Int) (c : Nat) : Prop where
  rd : Rd w A 1 (l.map encB)
  bit : Bit l
  top : Top l
  val : val l = iabs n
  cap : l.length ≤ c
  room : c ≤ maxLen
  sgn : s = decide (n < 0)
theorem IsBig.keep {w w' : World} {n : Int} {s : Bool} {A : Option Addr} {l : List Int} {c : Nat} (h : IsBig w n s A l c) (hb : Below w.heap.size w w') : IsBig w' n s A l c := ⟨h.rd.keep hb, h.bit, h.top, h.val, h.cap, h.room, h.sgn⟩
theorem IsBig.far {w : World} {n : Int} {s : Bool} {A : Option Addr} {l : List Int} {c : Nat} (h : IsBig w n s A l c) {p : Addr} {v0 : Value} (hp : w.cell? p = some v0) (hne : ∀ k x, v0 ≠ .int k x) (u : Value) : IsBig (w.setCell p u) n s A l c :=
  ⟨h.rd.far hp (fun r hr hm => by
    obtain ⟨b, _, rfl⟩ := List.mem_map.1 hr
    simp [encB] at hm
    exact hne _ _ hm) u, h.bit, h.top, h.val, h.cap, h.room, h.sgn⟩
def BigPost (w : World) (n : Int) (L : Nat) (e : Ending) (w' : World) : Prop :=
  ∃ s A l c, e = .returned (.agg #[.bool s, .slice A l.length c]) ∧ IsBig w' n s A l c ∧ l.length ≤ L ∧ Below w.heap.size w w'
def TrimPost (w : World) (A : Option Addr) (c : Nat) (s : Bool) (l : List Int) (e : Ending) (w' : World) : Prop :=
  ∃ l2, e = .returned (.agg #[.bool (s && decide (0 < val l)), .slice A l2.length c]) ∧ (∃ k, l2 = l.take k) ∧ Top l2 ∧ val l2 = val l ∧ Below w.heap.size w w'
theorem Rd.take {w : World} {A : Option Addr} {l : List Int} (h : Rd w A 1 (l.map encB)) (k : Nat) : Rd w A 1 ((l.take k).map encB) := by
  intro i r hr
  rw [List.map_take, List.getElem?_take] at hr
  split at hr
  · exact h i r hr
  · cases hr
theorem trim_big {w : World} {n : Int} {s : Bool} {A : Option Addr} {l l2 : List Int} {c : Nat} (hr : Rd w A 1 (l.map encB)) (hb : Bit l) (hk : ∃ k, l2 = l.take k) (ht : Top l2) (hv : val l2 = val l) (hn : val l = iabs n) (hc : l.length ≤ c) (hm : c ≤ maxLen) (hs : s = decide (n < 0)) : IsBig w n s A l2 c := by
  obtain ⟨k, rfl⟩ := hk
  exact ⟨hr.take k, bit_take hb k, ht, hv.trans hn, by rw [List.length_take]; omega, hm, hs⟩
theorem trim_len {l l2 : List Int} (hk : ∃ k, l2 = l.take k) : l2.length ≤ l.length := by
  obtain ⟨k, rfl⟩ := hk
  rw [List.length_take]; omega
theorem take_pred_zero {l : List Int} {k : Nat} (h0 : 0 < k) (hx : l.getD (k - 1) 0 = 0) : val (l.take (k - 1)) = val (l.take k) := by
  have := take_succD l (k - 1)
  rw [show k - 1 + 1 = k from by omega, hx] at this
  simp at this
  exact this.symm
theorem top_take {l : List Int} {k : Nat} (h0 : 0 < k) (hk : k ≤ l.length) (hx : l.getD (k - 1) 0 = 1) : Top (l.take k) := by
  intro b hb
  rw [List.getLast?_eq_getElem?, List.length_take, Nat.min_eq_left hk, List.getElem?_take, if_pos (by omega)] at hb
  rw [List.getD_eq_getElem?_getD, hb] at hx
  exact hx
set_option maxRecDepth 100000 in
set_option maxHeartbeats 1000000 in
theorem bigTrim (s : Bool) (l : List Int) (A : Option Addr) (c : Nat) (w : World) (_hl : l.length ≤ 1048576) (hr : Rd w A 1 (l.map encB)) (hb : Bit l) (hc : l.length ≤ c) (hm : c ≤ maxLen) :
    Calls Try.prog 46 #[.bool s, .slice A l.length c] w (TrimPost w A c s l) := by
  unfold maxLen at hm
  have Hr := Lib.hid hr
  have Hb := Lib.hid hb
  clear hr hb
  go_enter Try.func46, Try.ntmps46
  go_wp2_with fail
  go_loop [5] (fun i => ∃ k : Nat, k ≤ l.length ∧ i = .int .i64 k ∧ val (l.take k) = val l) (fun i => (intOf i).toNat)
  case atStart => exact ⟨l.length, Nat.le_refl _, rfl, by rw [List.take_length]⟩
  case round =>
    obtain ⟨k, hk, rfl, hv⟩ := hrel
    have Hv := Lib.hid hv
    clear hv
    by_cases h0 : k = 0
    · subst h0
      have hz := Hv.out
      simp [val] at hz
      have hf : decide (0 < val l) = false := by rw [← hz]; rfl
      have HF := Lib.hid hf
      clear hz hf
      cases s
      all_goals
        go_wp2_with fail
        refine bodyPost_ret (v := .agg #[.bool false, .slice A 0 c]) (by simp [results, Try.results46, go_sem]) rfl ⟨l.take 0, ?_, ⟨0, rfl⟩, ?_, ?_, ?_⟩
        · rw [HF.out]; simp
        · simpa using top_nil
        · exact Hv.out
        · (repeat' (first | (with_reducible exact Below.refl _ _) | (with_reducible assumption) | (with_reducible refine Below.alloc ?_ ?_ _) | (with_reducible refine Below.setCell ?_ ?_ _) | (with_reducible refine Below.drew ?_) | (with_reducible refine below_drewN ?_ _) | (with_reducible refine below_via ?_ (by with_reducible assumption) ?_) | omega | (simp; done) | (simp; omega)))
    · have d0 : decide ((0 : Int) < (k : Int)) = true := by simpa using (show (0 : Int) < k from by omega)
      have k0 : 0 < k := by omega
      obtain ⟨b1, o1, rfl, hb1, c1⟩ := bit_cell Hr.out (Below.refl w.heap.size w) (Nat.le_refl _) (show k - 1 < l.length from by omega)
      have gx := bit_get Hb.out (k - 1)
      obtain ⟨x, hx⟩ : ∃ x, x = l.getD (k - 1) 0 := ⟨_, rfl⟩
      rw [← hx] at c1 gx
      have Hx := Lib.hid hx
      clear hx
      rcases (show x = 0 ∨ x = 1 from by omega) with h1 | h1
      · subst h1
        go_wp2_with fail
        go_round
        case rel => exact ⟨k - 1, by omega, by go_num, by rw [take_pred_zero k0 Hx.out.symm]; exact Hv.out⟩
        case measure => simp [intOf]; omega
      · subst h1
        have ht := top_take k0 hk Hx.out.symm
        have hlen : (l.take k).length = k := by rw [List.length_take]; omega
        have hp : 0 < val l := by
          rw [← Hv.out]
          exact top_pos (bit_take Hb.out k) ht (fun e => by rw [e] at hlen; simp at hlen; omega)
        have HP := Lib.hid hp
        have HT := Lib.hid ht
        have HL := Lib.hid hlen
        clear hp ht hlen
        cases s
        · go_wp2_with fail
          refine bodyPost_ret (v := .agg #[.bool false, .slice (some ⟨b1, o1, none⟩) k c]) (by simp [results, Try.results46, go_sem]) rfl ⟨l.take k, ?_, ⟨k, rfl⟩, HT.out, Hv.out, ?_⟩
          · rw [HL.out]; simp
          · (repeat' (first | (with_reducible exact Below.refl _ _) | (with_reducible assumption) | (with_reducible refine Below.alloc ?_ ?_ _) | (with_reducible refine Below.setCell ?_ ?_ _) | (with_reducible refine Below.drew ?_) | (with_reducible refine below_drewN ?_ _) | (with_reducible refine below_via ?_ (by with_reducible assumption) ?_) | omega | (simp; done) | (simp; omega)))
        · go_wp2_with fail
          refine bodyPost_ret (v := .agg #[.bool true, .slice (some ⟨b1, o1, none⟩) k c]) (by simp [results, Try.results46, go_sem]) rfl ⟨l.take k, ?_, ⟨k, rfl⟩, HT.out, Hv.out, ?_⟩
          · rw [HL.out]; simp [HP.out]
          · (repeat' (first | (with_reducible exact Below.refl _ _) | (with_reducible assumption) | (with_reducible refine Below.alloc ?_ ?_ _) | (with_reducible refine Below.setCell ?_ ?_ _) | (with_reducible refine Below.drew ?_) | (with_reducible refine below_drewN ?_ _) | (with_reducible refine below_via ?_ (by with_reducible assumption) ?_) | omega | (simp; done) | (simp; omega)))
end Go.Proofs.Ytenehpcliajdnaa
