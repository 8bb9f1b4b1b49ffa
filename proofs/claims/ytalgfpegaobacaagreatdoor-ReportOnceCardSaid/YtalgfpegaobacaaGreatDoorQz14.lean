/- Joined. -/
import Derived.Test.YtalgfpegaobacaaGreatDoorQz6
import Derived.Test.YtalgfpegaobacaaGreatDoorQz8
import Derived.Outline
import Derived.Deep.RegionWith
import Derived.Laws.IdiomStrings
namespace Go.Proofs.YtalgfpegaobacaaGreatDoor
set_option linter.all false
set_option maxHeartbeats 8000000
set_option maxRecDepth 100000
open Go.RowKit
open Lib (hid)
/- The contract of wide.Div. -/
theorem long_div {m d : Int} (hm : 0 ≤ m) (hd : 0 < d) : whi m / d = whi (m / d) ∧ (whi m % d * 18446744073709551616 + wlo m) / d = wlo (m / d) ∧ (whi m % d * 18446744073709551616 + wlo m) % d = m % d := by
 have e0 := whi_wlo m
 have h1 : 0 ≤ whi m := by unfold whi; omega
 have h2 := wlo_u m
 generalize whi m = h at *
 generalize wlo m = l at *
 have e1 := Int.mul_ediv_add_emod h d
 have e2 := Int.emod_nonneg h (show d ≠ 0 by omega)
 have e3 := Int.emod_lt_of_pos h hd
 obtain ⟨p, hp⟩ : ∃ p, p = h / d := ⟨_, rfl⟩
 obtain ⟨r, hr⟩ : ∃ r, r = h % d := ⟨_, rfl⟩
 rw [← hp, ← hr] at e1
 rw [← hr] at e2 e3
 rw [← hp, ← hr]
 have e4 : m = r * 18446744073709551616 + l + p * 18446744073709551616 * d := by
  rw [← e0, ← e1, Int.add_mul, Int.mul_right_comm p, Int.mul_comm d p]; omega
 have e5 : 0 ≤ (r * 18446744073709551616 + l) / d := Int.ediv_nonneg (by omega) (by omega)
 have e6 : (r * 18446744073709551616 + l) / d < 18446744073709551616 := Int.ediv_lt_of_lt_mul hd (by omega)
 rw [e4, Int.add_mul_ediv_right _ _ (by omega), Int.add_mul_emod_self_right]
 unfold whi wlo
 omega
theorem floor_neg0 {n d m : Int} (hm : m = - n) (hd : 0 < d) (h : m % d = 0) : n / d = - (m / d) ∧ n % d = 0 := by
 have e := Int.mul_ediv_add_emod m d
 rw [h, Int.mul_comm] at e
 have h1 : n / d = - (m / d) := div_is (by rw [Int.neg_mul]; omega) (by rw [Int.add_mul, Int.neg_mul]; omega) hd
 refine ⟨h1, ?_⟩
 rw [Int.emod_def, h1, Int.mul_comm, Int.neg_mul]; omega
theorem floor_neg1 {n d m : Int} (hm : m = - n) (hd : 0 < d) (h : 0 < m % d) : n / d = - (m / d + 1) ∧ n % d = d - m % d := by
 have e := Int.mul_ediv_add_emod m d
 have e3 := Int.emod_lt_of_pos m hd
 rw [Int.mul_comm] at e
 have h1 : n / d = - (m / d + 1) := div_is (by rw [Int.neg_mul, Int.add_mul]; omega) (by rw [show - (m / d + 1) + 1 = - (m / d) by omega, Int.neg_mul]; omega) hd
 refine ⟨h1, ?_⟩
 rw [Int.emod_def, h1, Int.mul_comm, Int.neg_mul, Int.add_mul]; omega
theorem wideDivPos (n m d : Int) (w : World) (hn : In128 n) (hd : 0 < d) (hd1 : d ≤ 9223372036854775807) (hm : m = iabs n) (hsg : decide (n < 0) = false) (hm0 : 0 ≤ m) (hm1 : m ≤ 170141183460469231731687303715884105728) :
  Calls Tryz.prog 216 #[(.agg #[.int .i64 (whi (n)), .int .u64 (wlo (n))]), .int .i64 d] w fun e w' => e = .returned (.tuple #[(.agg #[.int .i64 (whi (m / d)), .int .u64 (wlo (m / d))]), .int .i64 (m % d), .int .i64 0]) ∧ Below w.heap.size w w' := by
 have hq := Int.ediv_le_self d hm0
 have hq0 : 0 ≤ m / d := Int.ediv_nonneg hm0 (by omega)
 have hi : In128 (m / d) := by unfold In128 at *; unfold iabs at hm; rw [if_neg (by simpa using hsg)] at hm; omega
 have c4 := fun W => wideSigned false (m / d) W (by omega) (by omega)
 rw [show wrap128 (sgn false (m / d)) = m / d from by rw [show sgn false (m / d) = m / d from rfl, wrap128_in hi]] at c4
 have C4 := hid c4
 have h2 := whi_i hn
 have L := long_div (m := m) (d := d) (by omega) hd
 have L1 := hid L.1
 have L2 := hid L.2.1
 have L3 := hid L.2.2
 have c1 := fun W => wideSize n W hn
 have c2 := fun W => wideBelow n W hn
 rw [← hm] at c1
 rw [hsg] at c2
 have C1 := hid c1
 have C2 := hid c2
 have hw := wlo_u m
 have hh : 0 ≤ whi m ∧ whi m ≤ 9223372036854775808 := (by unfold whi; omega)
 have hr0 := Int.emod_nonneg (whi m) (show d ≠ 0 by omega)
 have hr1 := Int.emod_lt_of_pos (whi m) hd
 have hR0 := Int.emod_nonneg m (show d ≠ 0 by omega)
 have hR1 := Int.emod_lt_of_pos m hd
 have d0 : (d == 0) = false := (by simp; omega)
 have d1 : ¬ d = 0 := (by omega)
 have d2 : decide (d < 0) = false := (by simp; omega)
 clear c1 c2 L hm
 clear c4 hsg
 go_enter Tryz.func216, Tryz.ntmps216
 go_wp2_with (go_at_call 221; (with_reducible refine cM (C1.out _) fun w1 hb1 fc1 fg1 hc1 hf1 hz1 => ?_); (try simp at hz1))
 go_quiet (fail)
 go_wp2_with (first | (go_at_call 227; (with_reducible refine (div64 (whi m % d) (wlo m) d _ hr0 hr1 (by omega) hw.1 hw.2).mono ?_); rintro e w2 ⟨rfl, hb2⟩; rw [L1.out, L2.out, L3.out]; obtain ⟨fc2, fg2, hc2, hf2, hz2⟩ := bget hb2; (try simp at hz2)) | (go_at_call 223; (with_reducible refine cM (C2.out _) fun w3 hb3 fc3 fg3 hc3 hf3 hz3 => ?_); (try simp at hz3)))
 go_region_held3 (fun w' => w'.cell? ⟨w.heap.size, 0, none⟩ = some (.int .i64 (whi n)) ∧ w'.cell? ⟨w.heap.size, 1, none⟩ = some (.int .u64 (wlo n)) ∧ w'.cell? ⟨w2.heap.size, 0, none⟩ = some (.int .u64 (whi (m / d))) ∧ w'.cell? ⟨w2.heap.size, 1, none⟩ = some (.int .u64 (wlo (m / d)))) (first | (simp [hc1, hc2, hc3, go_sem, ↓IntWalk.iteOmega]; done) | (simp [hc1, hc2, hc3, hc5, go_sem, ↓IntWalk.iteOmega]; done) | (simp [hc1, hc2, hc3, hc5, hc6, go_sem, ↓IntWalk.iteOmega]; done) | (exact tK)) (first | (go_at_call 223; (with_reducible refine cM (C2.out _) fun w5 hb5 fc5 fg5 hc5 hf5 hz5 => ?_); (try simp at hz5)) | (go_at_call 222; (with_reducible refine cM (C4.out _) fun w6 hb6 fc6 fg6 hc6 hf6 hz6 => ?_); (try simp at hz6)))
 go_wp2
 all_goals
  refine bodyPost_ret (by simp [results, Tryz.results216, go_sem, ↓IntWalk.iteOmega, hc1, hc2, hc3, hc5, hc6]; try rfl) rfl ⟨rfl, ?_⟩
  exact tB
theorem wideDivNeg0 (n m d : Int) (w : World) (hn : In128 n) (hd : 0 < d) (hd1 : d ≤ 9223372036854775807) (hm : m = iabs n) (hsg : decide (n < 0) = true) (hm0 : 0 ≤ m) (hm1 : m ≤ 170141183460469231731687303715884105728) (hr : m % d = 0) :
  Calls Tryz.prog 216 #[(.agg #[.int .i64 (whi (n)), .int .u64 (wlo (n))]), .int .i64 d] w fun e w' => e = .returned (.tuple #[(.agg #[.int .i64 (whi (- (m / d))), .int .u64 (wlo (- (m / d)))]), .int .i64 (0), .int .i64 0]) ∧ Below w.heap.size w w' := by
 have hq := Int.ediv_le_self d hm0
 have hq0 : 0 ≤ m / d := Int.ediv_nonneg hm0 (by omega)
 have hi : In128 (- (m / d)) := by unfold In128; omega
 have c4 := fun W => wideSigned true (m / d) W (by omega) (by omega)
 rw [show wrap128 (sgn true (m / d)) = - (m / d) from by rw [show sgn true (m / d) = - (m / d) from rfl, wrap128_in hi]] at c4
 have C4 := hid c4
 have h2 := whi_i hn
 have L := long_div (m := m) (d := d) (by omega) hd
 have L1 := hid L.1
 have L2 := hid L.2.1
 have L3 := hid L.2.2
 have c1 := fun W => wideSize n W hn
 have c2 := fun W => wideBelow n W hn
 rw [← hm] at c1
 rw [hsg] at c2
 have C1 := hid c1
 have C2 := hid c2
 have hw := wlo_u m
 have hh : 0 ≤ whi m ∧ whi m ≤ 9223372036854775808 := (by unfold whi; omega)
 have hr0 := Int.emod_nonneg (whi m) (show d ≠ 0 by omega)
 have hr1 := Int.emod_lt_of_pos (whi m) hd
 have hR0 := Int.emod_nonneg m (show d ≠ 0 by omega)
 have hR1 := Int.emod_lt_of_pos m hd
 have d0 : (d == 0) = false := (by simp; omega)
 have d1 : ¬ d = 0 := (by omega)
 have d2 : decide (d < 0) = false := (by simp; omega)
 clear c1 c2 L hm
 rw [hr] at L3
 clear c4 hsg hR0 hR1 hr
 go_enter Tryz.func216, Tryz.ntmps216
 go_wp2_with (go_at_call 221; (with_reducible refine cM (C1.out _) fun w1 hb1 fc1 fg1 hc1 hf1 hz1 => ?_); (try simp at hz1))
 go_quiet (fail)
 go_wp2_with (first | (go_at_call 227; (with_reducible refine (div64 (whi m % d) (wlo m) d _ hr0 hr1 (by omega) hw.1 hw.2).mono ?_); rintro e w2 ⟨rfl, hb2⟩; rw [L1.out, L2.out, L3.out]; obtain ⟨fc2, fg2, hc2, hf2, hz2⟩ := bget hb2; (try simp at hz2)) | (go_at_call 223; (with_reducible refine cM (C2.out _) fun w3 hb3 fc3 fg3 hc3 hf3 hz3 => ?_); (try simp at hz3)))
 go_region_held3 (fun w' => w'.cell? ⟨w.heap.size, 0, none⟩ = some (.int .i64 (whi n)) ∧ w'.cell? ⟨w.heap.size, 1, none⟩ = some (.int .u64 (wlo n)) ∧ w'.cell? ⟨w2.heap.size, 0, none⟩ = some (.int .u64 (whi (m / d))) ∧ w'.cell? ⟨w2.heap.size, 1, none⟩ = some (.int .u64 (wlo (m / d)))) (first | (simp [hc1, hc2, hc3, go_sem, ↓IntWalk.iteOmega]; done) | (simp [hc1, hc2, hc3, hc5, go_sem, ↓IntWalk.iteOmega]; done) | (simp [hc1, hc2, hc3, hc5, hc6, go_sem, ↓IntWalk.iteOmega]; done) | (exact tK)) (first | (go_at_call 223; (with_reducible refine cM (C2.out _) fun w5 hb5 fc5 fg5 hc5 hf5 hz5 => ?_); (try simp at hz5)) | (go_at_call 222; (with_reducible refine cM (C4.out _) fun w6 hb6 fc6 fg6 hc6 hf6 hz6 => ?_); (try simp at hz6)))
 go_wp2
 all_goals
  refine bodyPost_ret (by simp [results, Tryz.results216, go_sem, ↓IntWalk.iteOmega, hc1, hc2, hc3, hc5, hc6]; try rfl) rfl ⟨rfl, ?_⟩
  exact tB
theorem wideDivNeg1 (n m d : Int) (w : World) (hn : In128 n) (hd : 0 < d) (hd1 : d ≤ 9223372036854775807) (hm : m = iabs n) (hsg : decide (n < 0) = true) (hm0 : 0 ≤ m) (hm1 : m ≤ 170141183460469231731687303715884105728) (hr : 0 < m % d) :
  Calls Tryz.prog 216 #[(.agg #[.int .i64 (whi (n)), .int .u64 (wlo (n))]), .int .i64 d] w fun e w' => e = .returned (.tuple #[(.agg #[.int .i64 (whi (- (m / d + 1))), .int .u64 (wlo (- (m / d + 1)))]), .int .i64 (d - m % d), .int .i64 0]) ∧ Below w.heap.size w w' := by
 have hq := Int.ediv_le_self d hm0
 have hq0 : 0 ≤ m / d := Int.ediv_nonneg hm0 (by omega)
 have hq2 : m / d + 1 ≤ 170141183460469231731687303715884105728 := by
  have e := Int.mul_ediv_add_emod m d
  have e2 : 1 * (m / d) ≤ d * (m / d) := Int.mul_le_mul_of_nonneg_right (by omega) hq0
  omega
 have hi : In128 (- (m / d + 1)) := by unfold In128; omega
 have hu := wlo_u (m / d)
 have e1 := add64 (wlo (m / d)) 1 0 hu.1 (by omega) (by omega) (by omega)
 have g1 : wlo (wlo (m / d) + 1) = wlo (m / d + 1) := by unfold wlo; omega
 have g2 : whi (m / d) + whi (wlo (m / d) + 1) = whi (m / d + 1) := by unfold wlo whi; omega
 have g3 : 0 ≤ whi (m / d) ∧ whi (m / d) ≤ 9223372036854775808 := by unfold whi; omega
 have g4 : 0 ≤ whi (wlo (m / d) + 1) ∧ whi (wlo (m / d) + 1) ≤ 1 := by unfold whi; omega
 simp only [Int.add_zero] at e1
 rw [g1] at e1
 obtain ⟨c, hc⟩ : ∃ c, c = whi (wlo (m / d) + 1) := ⟨_, rfl⟩
 rw [← hc] at e1 g2 g4
 clear hc g1
 have c4 := fun W => wideSigned true (m / d + 1) W (by omega) (by omega)
 rw [show wrap128 (sgn true (m / d + 1)) = - (m / d + 1) from by rw [show sgn true (m / d + 1) = - (m / d + 1) from rfl, wrap128_in hi]] at c4
 have C4 := hid c4
 have h2 := whi_i hn
 have L := long_div (m := m) (d := d) (by omega) hd
 have L1 := hid L.1
 have L2 := hid L.2.1
 have L3 := hid L.2.2
 have c1 := fun W => wideSize n W hn
 have c2 := fun W => wideBelow n W hn
 rw [← hm] at c1
 rw [hsg] at c2
 have C1 := hid c1
 have C2 := hid c2
 have hw := wlo_u m
 have hh : 0 ≤ whi m ∧ whi m ≤ 9223372036854775808 := (by unfold whi; omega)
 have hr0 := Int.emod_nonneg (whi m) (show d ≠ 0 by omega)
 have hr1 := Int.emod_lt_of_pos (whi m) hd
 have hR0 := Int.emod_nonneg m (show d ≠ 0 by omega)
 have hR1 := Int.emod_lt_of_pos m hd
 have d0 : (d == 0) = false := (by simp; omega)
 have d1 : ¬ d = 0 := (by omega)
 have d2 : decide (d < 0) = false := (by simp; omega)
 clear c1 c2 L hm
 clear c4 hsg
 go_enter Tryz.func216, Tryz.ntmps216
 go_wp2_with (go_at_call 221; (with_reducible refine cM (C1.out _) fun w1 hb1 fc1 fg1 hc1 hf1 hz1 => ?_); (try simp at hz1))
 go_quiet (fail)
 go_wp2_with (first | (go_at_call 227; (with_reducible refine (div64 (whi m % d) (wlo m) d _ hr0 hr1 (by omega) hw.1 hw.2).mono ?_); rintro e w2 ⟨rfl, hb2⟩; rw [L1.out, L2.out, L3.out]; obtain ⟨fc2, fg2, hc2, hf2, hz2⟩ := bget hb2; (try simp at hz2)) | (go_at_call 223; (with_reducible refine cM (C2.out _) fun w3 hb3 fc3 fg3 hc3 hf3 hz3 => ?_); (try simp at hz3)))
 go_region_held3 (fun w' => w'.cell? ⟨w.heap.size, 0, none⟩ = some (.int .i64 (whi n)) ∧ w'.cell? ⟨w.heap.size, 1, none⟩ = some (.int .u64 (wlo n)) ∧ w'.cell? ⟨w2.heap.size, 0, none⟩ = some (.int .u64 (whi (m / d + 1))) ∧ w'.cell? ⟨w2.heap.size, 1, none⟩ = some (.int .u64 (wlo (m / d + 1)))) (first | (simp [hc1, hc2, hc3, go_sem, ↓IntWalk.iteOmega]; done) | (simp [hc1, hc2, hc3, hc5, go_sem, ↓IntWalk.iteOmega]; done) | (simp [hc1, hc2, hc3, hc5, hc6, go_sem, ↓IntWalk.iteOmega]; done) | (exact tK)) (first | (go_at_call 223; (with_reducible refine cM (C2.out _) fun w5 hb5 fc5 fg5 hc5 hf5 hz5 => ?_); (try simp at hz5)) | (go_at_call 222; (with_reducible refine cM (C4.out _) fun w6 hb6 fc6 fg6 hc6 hf6 hz6 => ?_); (try simp at hz6)))
 go_wp2
 all_goals
  refine bodyPost_ret (by simp [results, Tryz.results216, go_sem, ↓IntWalk.iteOmega, hc1, hc2, hc3, hc5, hc6]; try rfl) rfl ⟨rfl, ?_⟩
  exact tB
theorem wideDiv (n d : Int) (w : World) (hn : In128 n) (hd : 0 < d) (hd1 : d ≤ 9223372036854775807) :
  Calls Tryz.prog 216 #[(.agg #[.int .i64 (whi (n)), .int .u64 (wlo (n))]), .int .i64 d] w fun e w' => e = .returned (.tuple #[(.agg #[.int .i64 (whi (n / d)), .int .u64 (wlo (n / d))]), .int .i64 (n % d), .int .i64 0]) ∧ Below w.heap.size w w' := by
 have hm : 0 ≤ iabs n ∧ iabs n ≤ 170141183460469231731687303715884105728 := by unfold In128 at hn; unfold iabs; split <;> omega
 by_cases h : n < 0
 ·have hs := iabs_neg h
  have e2 := Int.emod_nonneg (iabs n) (show d ≠ 0 by omega)
  rcases (show iabs n % d = 0 ∨ 0 < iabs n % d by omega) with hr | hr
  ·have hf := floor_neg0 hs hd hr
   rw [hf.1, hf.2]
   exact wideDivNeg0 n (iabs n) d w hn hd hd1 rfl (by simpa using h) hm.1 hm.2 hr
  ·have hf := floor_neg1 hs hd hr
   rw [hf.1, hf.2]
   exact wideDivNeg1 n (iabs n) d w hn hd hd1 rfl (by simpa using h) hm.1 hm.2 hr
 ·have hs := iabs_pos (show 0 ≤ n by omega)
  have hp := wideDivPos n (iabs n) d w hn hd hd1 rfl (by simpa using h) hm.1 hm.2
  rw [hs] at hp
  exact hp
/- Layer 2's laws: fix.Scale; what the laws call of their own: lives, Is, few. -/
theorem in64_not' {n : Int} (h : ¬ In64 n) : in64 n = false := by cases e : in64 n; rfl; exact absurd (in64_iff.1 e) h
theorem fixScaleYes (a n d : Int) (w : World) (ha : In64 a) (hn : In64 n) (hd : 0 < d) (hd1 : d ≤ 9223372036854775807) (h : In64 (a * n / d)) :
  Calls Tryz.prog 198 #[.int .i64 a, .int .i64 n, .int .i64 d] w fun e w' => e = .returned (.tuple #[.int .i64 (a * n / d), .int .i64 (a * n % d), .int .i64 0]) ∧ Below w.heap.size w w' := by
 have hm := mul64_128 ha hn
 skip
 go_enter Tryz.func198, Tryz.ntmps198
 go_wp2_with (first | (go_at_call 217; (with_reducible refine cM (wideMul a n _ ha hn) fun w1 hb1 fc1 fg1 hc1 hf1 hz1 => ?_); (try simp at hz1)) | (go_at_call 216; (with_reducible refine cM (wideDiv (a * n) d _ hm hd hd1) fun w2 hb2 fc2 fg2 hc2 hf2 hz2 => ?_); (try simp at hz2)) | (go_at_call 165; (with_reducible refine cM (narrowYes (a * n / d) _ h) fun w3 hb3 fc3 fg3 hc3 hf3 hz3 => ?_); (try simp at hz3)) | fail)
 refine bodyPost_ret (by simp [results, Tryz.results198, go_sem, ]; try rfl) rfl ⟨rfl, ?_⟩
 exact tB
def okN (n : Int) : Int := if in64 n then n else 0
def okE (n : Int) : Int := if in64 n then 0 else 7
theorem okN_yes {n : Int} (h : In64 n) : okN n = n ∧ okE n = 0 := by unfold okN okE; rw [in64_iff.2 h]; exact ⟨rfl, rfl⟩
theorem okN_no {n : Int} (h : ¬ In64 n) : okN n = 0 ∧ okE n = 7 := by unfold okN okE; rw [in64_not' h]; exact ⟨rfl, rfl⟩
/- Layer 2: the reference's Sum, Product; fix.Product. -/
def prodF : Int → List Int → Option Int
 | a, [] => some a
 | a, x :: l => if in64 (a * x) then prodF (a * x) l else none
theorem prodF_step {l : List Int} {k : Nat} (h : k < l.length) (p : Int) : prodF p (l.drop k) = if in64 (p * l[k]) then prodF (p * l[k]) (l.drop (k + 1)) else none := by
 rw [List.drop_eq_getElem_cons h]; rfl
theorem prodF_end {l : List Int} {k : Nat} (h : ¬ k < l.length) (p : Int) : prodF p (l.drop k) = some p := by
 rw [List.drop_eq_nil_of_le (by omega)]; rfl
def prN (l : List Int) : Int := (prodF 1 l).getD 0
def prE (l : List Int) : Int := if (prodF 1 l).isSome then 0 else 7
theorem fixProduct (l : List Int) (A : Option Addr) (c : Nat) (w : World) (h40 : l.length ≤ 40) (hin : ∀ n ∈ l, In64 n) (hr : Rd w A 1 (l.map encI)) :
  Calls Tryz.prog 214 #[.slice A l.length c] w fun e w' => e = .returned (.tuple #[.int .i64 (prN l), .int .i64 (prE l)]) ∧ Below w.heap.size w w' := by
 have HR := hid hr
 have HIN := hid hin
 clear hr hin
 go_enter Tryz.func214, Tryz.ntmps214
 go_wp2_with fail
 go_loopw [4, 11] (fun v i wr => ∃ (k : Nat) (p : Int), k ≤ l.length ∧ i = .int .i64 k ∧ v = .int .i64 p ∧ In64 p ∧ prodF 1 l = prodF p (l.drop k) ∧ Below w.heap.size w wr) (fun _ i _ => l.length - (intOf i).toNat)
 case atStart => exact ⟨0, 1, Nat.zero_le _, rfl, rfl, by unfold In64; omega, rfl, tB⟩
 case round =>
  obtain ⟨k, p, hk, rfl, rfl, hp, hpr, hbl⟩ := hrel
  have hz := hbl.size
  have Hbl := hid hbl
  clear hbl
  by_cases hlt : k < l.length
  ·have d2 := @dT k l.length hlt
   rw [prodF_step hlt] at hpr
   obtain ⟨b, o, hA, hb, q⟩ := HR.out k (encI l[k]) (by simp [hlt])
   have q0 := (Hbl.out.cell (p := ⟨b, o + k * 1 + 0, none⟩) (hb)).trans (q 0 _ rfl)
   have hx := HIN.out l[k] (List.getElem_mem hlt)
   obtain ⟨x, hxe⟩ : ∃ x, x = l[k] := ⟨_, rfl⟩
   rw [← hxe] at q0 hx
   have hbw : b < wr.heap.size := (by omega)
   simp at q0
   clear q
   cases hA
   rw [← hxe] at hpr
   clear hxe
   have h128 := mul64_128 hp hx
   by_cases h64 : In64 (p * x)
   ·rw [in64_iff.2 h64, if_pos rfl] at hpr
    have HPR := hid hpr
    clear hpr
    go_wp2_with (first | (go_at_call 217; (with_reducible refine cM (wideMul p x _ hp hx) fun w1 hb1 fc1 fg1 hc1 hf1 hz1 => ?_); (try simp at hz1)) | (go_at_call 172; (with_reducible refine cM (wideIntYes (p * x) _ h64) fun w2 hb2 fc2 fg2 hc2 hf2 hz2 => ?_); (try simp at hz2)) | fail)
    go_roundw
    case rel => exact ⟨k + 1, p * x, by omega, by go_num, rfl, h64, HPR.out, by (have hbl := Hbl.out; exact tB)⟩
    case measure => (simp [intOf]; omega)
   ·rw [in64_not' h64, if_neg (by simp)] at hpr
    have HPN := hid (show prN l = 0 from by unfold prN; rw [hpr]; rfl)
    have HPE := hid (show prE l = 7 from by unfold prE; rw [hpr]; rfl)
    clear hpr
    go_wp2_with (first | (go_at_call 217; (with_reducible refine cM (wideMul p x _ hp hx) fun w1 hb1 fc1 fg1 hc1 hf1 hz1 => ?_); (try simp at hz1)) | (go_at_call 172; (with_reducible refine cM (wideIntNo (p * x) _ h128 h64) fun w2 hb2 fc2 fg2 hc2 hf2 hz2 => ?_); (try simp at hz2)) | fail)
    go_ret2
    exact ⟨by rw [HPN.out, HPE.out]; first | done | rfl, by (have hbl := Hbl.out; exact tB)⟩
  ·have d2 := @dF k l.length hlt
   rw [prodF_end hlt] at hpr
   have HPN := hid (show prN l = p from by unfold prN; rw [hpr]; rfl)
   have HPE := hid (show prE l = 0 from by unfold prE; rw [hpr]; rfl)
   clear hpr
   go_wp2_with fail
   go_ret2
   exact ⟨by rw [HPN.out, HPE.out]; first | done | rfl, by (have hbl := Hbl.out; exact tB)⟩
/- Assets: asset.Worth, Count, Sell, and the reference's. -/
theorem rd_ints2 {w : World} {g : Nat} {x y : Int} (hg : g < w.heap.size) (h0 : w.cell? ⟨g, 0, none⟩ = some (.int .i64 x)) (h1 : w.cell? ⟨g, 1, none⟩ = some (.int .i64 y)) : Rd w (some ⟨g, 0, none⟩) 1 ([x, y].map encI) := by
 intro i r hr
 match i, hr with
 | 0, hr =>
  simp at hr
  subst hr
  refine ⟨g, 0, rfl, hg, fun j v hv => ?_⟩
  match j, hv with
  | 0, hv => simp [encI] at hv; subst hv; simpa using h0
 | 1, hr =>
  simp at hr
  subst hr
  refine ⟨g, 0, rfl, hg, fun j v hv => ?_⟩
  match j, hv with
  | 0, hv => simp [encI] at hv; subst hv; simpa using h1
theorem pr2 {x y : Int} (hx : In64 x) : prN [x, y] = okN (x * y) ∧ prE [x, y] = okE (x * y) := by
 have e : prodF 1 [x, y] = if in64 (x * y) then some (x * y) else none := by
  have h1 : in64 (1 * x) = true := in64_iff.2 (by rw [Int.one_mul]; exact hx)
  unfold prodF
  rw [if_pos h1, Int.one_mul]
  rfl
 unfold prN prE okN okE
 rw [e]
 by_cases h : in64 (x * y) = true
 ·rw [if_pos h, if_pos h, if_pos h]; exact ⟨rfl, rfl⟩
 ·rw [if_neg h, if_neg h, if_neg h]; exact ⟨rfl, rfl⟩
theorem fixProd2 (x y : Int) (g : Nat) (w : World) (hx : In64 x) (hy : In64 y) (hg : g < w.heap.size) (h0 : w.cell? ⟨g, 0, none⟩ = some (.int .i64 x)) (h1 : w.cell? ⟨g, 1, none⟩ = some (.int .i64 y)) :
  Calls Tryz.prog 214 #[.slice (some ⟨g, 0, none⟩) 2 2] w fun e w' => e = .returned (.tuple #[.int .i64 (okN (x * y)), .int .i64 (okE (x * y))]) ∧ Below w.heap.size w w' := by
 have h := fixProduct [x, y] (some ⟨g, 0, none⟩) 2 w (by simp) (by intro n hn; simp at hn; rcases hn with rfl | rfl <;> assumption) (rd_ints2 hg h0 h1)
 rw [(pr2 hx).1, (pr2 hx).2] at h
 exact h
theorem okA_in {x : Asset} (h : okA x) : In64 x.price ∧ In64 (10000 - x.hair) := by
 unfold okA at h; unfold In64; omega
def worthN (x : Asset) (q : Int) : Int := if okA x then okN (q * x.price) else 0
def worthE (x : Asset) (q : Int) : Int := if okA x then okE (q * x.price) else 2
theorem assetWorth (x : Asset) (q : Int) (w : World) (hq : In64 q) : Calls Tryz.prog 196 #[.agg #[.int .i64 x.id, .int .i64 x.price, .int .i64 x.hair], .int .i64 q] w fun e w' => e = .returned (.tuple #[.int .i64 (worthN x q), .int .i64 (worthE x q)]) ∧ Below w.heap.size w w' := by
 have c1 := fun W => assetCheck x W
 by_cases h : okA x
 ·rw [show worthN x q = okN (q * x.price) from if_pos h, show worthE x q = okE (q * x.price) from if_pos h]
  rw [codeA_yes h] at c1
  have hp := (okA_in h).1
  have C1 := hid c1
  clear c1 h
  go_enter Tryz.func196, Tryz.ntmps196
  go_wp2_with (first | (go_at_call 197; (with_reducible refine cM (C1.out _) fun w1 hb1 fc1 fg1 hc1 hf1 hz1 => ?_); (try simp at hz1)) | (go_at_call 214; (with_reducible refine (fixProd2 q x.price _ _ hq hp ?_ ?_ ?_).mono ?_); (focus (first | (simp; done) | (simp; omega))); (focus (first | (simp [go_sem]; done) | (simp [go_sem, ↓IntWalk.iteOmega]; done))); (focus (first | (simp [go_sem]; done) | (simp [go_sem, ↓IntWalk.iteOmega]; done))); rintro e w2 ⟨rfl, hb2⟩; obtain ⟨fc2, fg2, hc2, hf2, hz2⟩ := bget hb2; (try simp at hz2)) | fail)
  all_goals
   go_ret2
   exact ⟨rfl, tB⟩
 ·rw [show worthN x q = 0 from if_neg h, show worthE x q = 2 from if_neg h]
  rw [codeA_no h] at c1
  have C1 := hid c1
  clear c1 h
  go_enter Tryz.func196, Tryz.ntmps196
  go_wp2_with (first | (go_at_call 197; (with_reducible refine cM (C1.out _) fun w1 hb1 fc1 fg1 hc1 hf1 hz1 => ?_); (try simp at hz1)) | fail)
  go_ret2
  exact ⟨rfl, tB⟩
def countN (x : Asset) (q : Int) : Int := if okA x ∧ 0 ≤ q ∧ in64 (q * x.price) = true then countA x q else 0
def countE (x : Asset) (q : Int) : Int := if okA x then (if q < 0 then 2 else okE (q * x.price)) else 2
theorem assetCount (x : Asset) (q : Int) (w : World) (hq : In64 q) : Calls Tryz.prog 176 #[.agg #[.int .i64 x.id, .int .i64 x.price, .int .i64 x.hair], .int .i64 q] w fun e w' => e = .returned (.tuple #[.int .i64 (countN x q), .int .i64 (countE x q)]) ∧ Below w.heap.size w w' := by
 have c1 := fun W => assetCheck x W
 have c2 := fun W => assetWorth x q W hq
 by_cases h : okA x
 ·rw [codeA_yes h] at c1
  rw [show worthN x q = okN (q * x.price) from if_pos h, show worthE x q = okE (q * x.price) from if_pos h] at c2
  by_cases h0 : q < 0
  ·rw [show countN x q = 0 from if_neg (fun k => absurd k.2.1 (by omega)), show countE x q = 2 from (if_pos h).trans (if_pos h0)]
   have d0 : decide (q < 0) = true := by simpa using h0
   generalize okN (q * x.price) = wn at c2
   generalize okE (q * x.price) = we at c2
   have C1 := hid c1
   have C2 := hid c2
   clear c1 c2 h
   go_enter Tryz.func176, Tryz.ntmps176
   go_wp2_with (first | (go_at_call 197; (with_reducible refine cM (C1.out _) fun w1 hb1 fc1 fg1 hc1 hf1 hz1 => ?_); (try simp at hz1)) | (go_at_call 196; (with_reducible refine cM (C2.out _) fun w2 hb2 fc2 fg2 hc2 hf2 hz2 => ?_); (try simp at hz2)) | fail)
   all_goals
    go_ret2
    exact ⟨rfl, tB⟩
  ·have d0 : decide (q < 0) = false := by simpa using h0
   by_cases h64 : In64 (q * x.price)
   ·have hok := okA_in h
    have hcl := count_le h (show 0 ≤ q by omega)
    rw [show countN x q = countA x q from if_pos ⟨h, by omega, in64_iff.2 h64⟩, show countE x q = 0 from (if_pos h).trans ((if_neg h0).trans (okN_yes h64).2)]
    rw [(okN_yes h64).1, (okN_yes h64).2] at c2
    have c3 := fun W => fixScaleYes (q * x.price) (10000 - x.hair) 10000 W h64 hok.2 (by omega) (by omega) (by unfold countA at hcl; unfold In64 at h64 ⊢; omega)
    rw [show q * x.price * (10000 - x.hair) / 10000 = countA x q from rfl] at c3
    generalize q * x.price * (10000 - x.hair) % 10000 = r at c3
    have hh : 0 ≤ x.hair ∧ x.hair ≤ 10000 := ⟨h.2.2.2.2.1, h.2.2.2.2.2⟩
    clear hcl hok
    generalize countA x q = n at c3 ⊢
    generalize q * x.price = wn at c2 c3
    have C1 := hid c1
    have C2 := hid c2
    have C3 := hid c3
    clear c1 c2 c3 h h64
    go_enter Tryz.func176, Tryz.ntmps176
    go_wp2_with (first | (go_at_call 197; (with_reducible refine cM (C1.out _) fun w1 hb1 fc1 fg1 hc1 hf1 hz1 => ?_); (try simp at hz1)) | (go_at_call 196; (with_reducible refine cM (C2.out _) fun w2 hb2 fc2 fg2 hc2 hf2 hz2 => ?_); (try simp at hz2)) | (go_at_call 198; (with_reducible refine cM (C3.out _) fun w3 hb3 fc3 fg3 hc3 hf3 hz3 => ?_); (try simp at hz3)) | fail)
    all_goals
     go_ret2
     exact ⟨rfl, tB⟩
   ·rw [show countN x q = 0 from if_neg (fun k => h64 (in64_iff.1 k.2.2)), show countE x q = 7 from (if_pos h).trans ((if_neg h0).trans (okN_no h64).2)]
    rw [(okN_no h64).1, (okN_no h64).2] at c2
    have C1 := hid c1
    have C2 := hid c2
    clear c1 c2 h h64
    go_enter Tryz.func176, Tryz.ntmps176
    go_wp2_with (first | (go_at_call 197; (with_reducible refine cM (C1.out _) fun w1 hb1 fc1 fg1 hc1 hf1 hz1 => ?_); (try simp at hz1)) | (go_at_call 196; (with_reducible refine cM (C2.out _) fun w2 hb2 fc2 fg2 hc2 hf2 hz2 => ?_); (try simp at hz2)) | fail)
    all_goals
     go_ret2
     exact ⟨rfl, tB⟩
 ·rw [codeA_no h] at c1
  rw [show worthN x q = 0 from if_neg h, show worthE x q = 2 from if_neg h] at c2
  rw [show countN x q = 0 from if_neg (fun k => h k.1), show countE x q = 2 from if_neg h]
  have C1 := hid c1
  have C2 := hid c2
  clear c1 c2 h
  go_enter Tryz.func176, Tryz.ntmps176
  go_wp2_with (first | (go_at_call 197; (with_reducible refine cM (C1.out _) fun w1 hb1 fc1 fg1 hc1 hf1 hz1 => ?_); (try simp at hz1)) | (go_at_call 196; (with_reducible refine cM (C2.out _) fun w2 hb2 fc2 fg2 hc2 hf2 hz2 => ?_); (try simp at hz2)) | fail)
  all_goals
   go_ret2
   exact ⟨rfl, tB⟩
/- The contract of wide.Times. -/
attribute [local go_sem] fieldSizeLo
/- Instruments: contracts of inst.Gain, inst.Shock. -/
theorem mul_le_of {a b : Int} {A B : Nat} (ha : a.natAbs ≤ A) (hb : b.natAbs ≤ B) (C : Nat) (h : A * B ≤ C) : - (C : Int) ≤ a * b ∧ a * b ≤ C := by
 have := abs_mul_le ha hb
 omega
/- Instruments: contract of inst.Shock. -/
theorem shock_no {x : Inst} {q s : Int} (h : ¬ okS x s) : shockI x q s = 0 := if_neg h
theorem instShockNo (x : Inst) (q s : Int) (A : Option Addr) (c : Nat) (w : World) (hl : x.moves.length ≤ 1099511627776) (hr : Rd w A 1 (x.moves.map encI)) (h : ¬ okS x s) :
  Calls Tryz.prog 207 #[.agg #[.int .i64 (x).id, .int .i64 (x).mult, .int .i64 (x).price, .int .i64 (x).next, .slice A (x).moves.length c], .int .i64 q, .int .i64 s] w fun e w' => e = .returned (.agg #[.int .i64 0, .int .u64 0]) ∧ Below w.heap.size w w' := by
 have c1 := fun W h => instCheck x A c W hl h
 have HR := hid hr
 clear hr
 by_cases h1 : okI x
 ·rw [codeI_yes h1] at c1
  have C1 := hid c1
  clear c1
  generalize hn : x.moves.length = n at *
  by_cases h2 : s < 0
  ·have d2 : decide (s < 0) = true := by simpa using h2
   clear h h1 hn
   go_enter Tryz.func207, Tryz.ntmps207
   go_wp2_with (first | (go_at_call 220; (with_reducible refine cM (C1.out _ (HR.out.keep tB)) fun w1 hb1 fc1 fg1 hc1 hf1 hz1 => ?_); (try simp at hz1)) | fail)
   all_goals
    refine bodyPost_ret (by simp [results, Tryz.results207, go_sem, hc1]; try rfl) rfl ⟨rfl, ?_⟩
    exact tB
  ·have d2 : decide (s < 0) = false := by simpa using h2
   have d3 : decide ((n : Int) ≤ s) = true := by
    rw [← hn]
    rw [decide_eq_true_iff]
    by_cases h3 : s < (x.moves.length : Int)
    ·exact absurd ⟨h1, by omega, h3⟩ h
    ·omega
   clear h h1 hn
   go_enter Tryz.func207, Tryz.ntmps207
   go_wp2_with (first | (go_at_call 220; (with_reducible refine cM (C1.out _ (HR.out.keep tB)) fun w1 hb1 fc1 fg1 hc1 hf1 hz1 => ?_); (try simp at hz1)) | fail)
   all_goals
    refine bodyPost_ret (by simp [results, Tryz.results207, go_sem, hc1]; try rfl) rfl ⟨rfl, ?_⟩
    exact tB
 ·rw [codeI_no h1] at c1
  have C1 := hid c1
  clear c1 h h1
  go_enter Tryz.func207, Tryz.ntmps207
  go_wp2_with (first | (go_at_call 220; (with_reducible refine cM (C1.out _ (HR.out.keep tB)) fun w1 hb1 fc1 fg1 hc1 hf1 hz1 => ?_); (try simp at hz1)) | fail)
  all_goals
   refine bodyPost_ret (by simp [results, Tryz.results207, go_sem, hc1]; try rfl) rfl ⟨rfl, ?_⟩
   exact tB
theorem instShockYes (x : Inst) (q : Int) (k : Nat) (A : Option Addr) (c : Nat) (w : World) (hq : In64 q) (hr : Rd w A 1 (x.moves.map encI)) (hk : k < x.moves.length) (h : okI x) :
  Calls Tryz.prog 207 #[.agg #[.int .i64 (x).id, .int .i64 (x).mult, .int .i64 (x).price, .int .i64 (x).next, .slice A (x).moves.length c], .int .i64 q, .int .i64 k] w fun e w' => e = .returned (.agg #[.int .i64 (whi (x.moves[k] * x.mult * q)), .int .u64 (wlo (x.moves[k] * x.mult * q))]) ∧ Below w.heap.size w w' := by
 have hl8 := h.2.2.2.2.2.2.1
 have c1 := fun W h => instCheck x A c W (by omega) h
 have HR := hid hr
 rw [codeI_yes h] at c1
 have C1 := hid c1
 have hm := h.2.2
 obtain ⟨b, o, rfl, hb, hcm⟩ := hr k (encI x.moves[k]) (by simp [hk])
 have e0 := hcm 0 _ rfl
 have hmv := okI_move h hk
 generalize x.moves[k] = m at *
 have i1 : In64 m := by unfold In64; omega
 have i2 : In64 x.mult := by unfold In64; omega
 have e1 := mul_le_of (a := m) (b := x.mult) (A := 2147483647) (B := 65536) (by omega) (by omega) 140737488289792 (by omega)
 have i3 : In64 (m * x.mult) := by unfold In64; omega
 have d2 : decide ((k : Int) < 0) = false := by simp
 have hkn : (k : Int) < (x.moves.length : Int) := by omega
 have d3 : decide ((x.moves.length : Int) ≤ (k : Int)) = false := by simp; omega
 have hln : x.moves.length ≤ 8 := hm.2.2.2.2.1
 simp at e0
 have c2 := fun g W hg h0 h1 => fixProd2 m x.mult g W i1 i2 hg h0 h1
 rw [(okN_yes i3).1, (okN_yes i3).2] at c2
 have c3 := fun W => wideMul (m * x.mult) q W i3 hq
 generalize m * x.mult * q = g3 at *
 generalize m * x.mult = g2 at *
 generalize x.moves.length = n at *
 have C2 := hid c2
 have C3 := hid c3
 clear c1 c2 c3 h hm hr hcm e1 i1 i2 i3 hmv
 go_enter Tryz.func207, Tryz.ntmps207
 go_wp2_with (first | (go_at_call 220; (with_reducible refine cM (C1.out _ (HR.out.keep tB)) fun w1 hb1 fc1 fg1 hc1 hf1 hz1 => ?_); (try simp at hz1)) | fail)
 go_region_held3 (fun w' => (w'.cell? ⟨w.heap.size, 1, none⟩ = some (.int .i64 x.mult) ∧ w'.cell? ⟨w.heap.size, 4, none⟩ = some (.slice (some ⟨b, o, none⟩) n c)) ∧ w'.cell? ⟨b, o + k, none⟩ = some (.int .i64 m)) (exact tK) (first | (go_at_call 214; (with_reducible refine (C2.out _ _ ?_ ?_ ?_).mono ?_); (focus (first | (simp; done) | (simp; omega))); (focus (first | (simp [go_sem]; done) | (simp [go_sem, ↓IntWalk.iteOmega]; done))); (focus (first | (simp [go_sem]; done) | (simp [go_sem, ↓IntWalk.iteOmega]; done))); rintro e w2 ⟨rfl, hb2⟩; obtain ⟨fc2, fg2, hc2, hf2, hz2⟩ := bget hb2; (try simp at hz2)) | fail)
 all_goals
  go_wp2_with (first | (go_at_call 217; (with_reducible refine cM (C3.out _) fun w3 hb3 fc3 fg3 hc3 hf3 hz3 => ?_); (try simp at hz3)) | fail)
  refine bodyPost_ret (by simp [results, Tryz.results207, go_sem, hc1, hc2, hc3, ↓IntWalk.iteOmega]; try rfl) rfl ⟨rfl, ?_⟩
  exact tB
/- Instruments: contracts of the reference's Is, Gain, Shock. -/
theorem pricedRef (p : Int) (w : World) : Calls Tryz.prog 89 #[.int .i64 p] w fun e w' => e = .returned (.bool (pricedI p)) ∧ Below w.heap.size w w' := by
 by_cases h : 0 ≤ p
 ·have d1 : decide (0 ≤ p) = true := by simpa using h
  have HP := hid (show pricedI p = decide (p < 2147483648) from by unfold pricedI; rw [d1, Bool.true_and]; exact decide_eq_decide.2 (by omega))
  go_enter Tryz.func89, Tryz.ntmps89
  go_wp2_with fail
  go_ret
  exact ⟨by rw [HP.out]; first | done | rfl, tB⟩
 ·have d1 : decide (0 ≤ p) = false := by simpa using h
  have HP := hid (show pricedI p = false from by unfold pricedI; rw [d1]; rfl)
  go_enter Tryz.func89, Tryz.ntmps89
  go_wp2_with fail
  go_ret
  exact ⟨by rw [HP.out]; first | done | rfl, tB⟩
theorem ref13Is (x : Inst) (A : Option Addr) (c : Nat) (w : World) (hl : x.moves.length ≤ 1099511627776) (hr : Rd w A 1 (x.moves.map encI)) :
  Calls Tryz.prog 50 #[.agg #[.int .i64 (x).id, .int .i64 (x).mult, .int .i64 (x).price, .int .i64 (x).next, .slice A (x).moves.length c]] w fun e w' => e = .returned (.bool (decide (okI x))) ∧ Below w.heap.size w w' := by
 have HR := hid hr
 obtain ⟨pb, hpb⟩ : ∃ pb, pb = pricedI x.price := ⟨_, rfl⟩
 obtain ⟨nb, hnb⟩ : ∃ nb, nb = pricedI x.next := ⟨_, rfl⟩
 have c1 := fun W => pricedRef x.price W
 have c2 := fun W => pricedRef x.next W
 rw [← hpb] at c1
 rw [← hnb] at c2
 have C1 := hid c1
 have C2 := hid c2
 clear c1 c2 hr
 by_cases t0 : x.id < 1
 ·have d0 := decide_eq_true t0
  have HNO := hid (decide_eq_false (show ¬ okI x from fun hk => by unfold okI at hk; omega))
  go_enter Tryz.func50, Tryz.ntmps50
  go_wp2_with (first | (go_at_call 89; (with_reducible refine cM (C1.out _) fun w1 hb1 fc1 fg1 hc1 hf1 hz1 => ?_); (try simp at hz1)) | (go_at_call 89; (with_reducible refine cM (C2.out _) fun w2 hb2 fc2 fg2 hc2 hf2 hz2 => ?_); (try simp at hz2)) | fail)
  go_ret
  exact ⟨by rw [HNO.out]; first | done | rfl, tB⟩
 have d0 := decide_eq_false t0
 by_cases t1 : 8 < x.id
 ·have d1 := decide_eq_true t1
  have HNO := hid (decide_eq_false (show ¬ okI x from fun hk => by unfold okI at hk; omega))
  go_enter Tryz.func50, Tryz.ntmps50
  go_wp2_with (first | (go_at_call 89; (with_reducible refine cM (C1.out _) fun w1 hb1 fc1 fg1 hc1 hf1 hz1 => ?_); (try simp at hz1)) | (go_at_call 89; (with_reducible refine cM (C2.out _) fun w2 hb2 fc2 fg2 hc2 hf2 hz2 => ?_); (try simp at hz2)) | fail)
  go_ret
  exact ⟨by rw [HNO.out]; first | done | rfl, tB⟩
 have d1 := decide_eq_false t1
 by_cases t2 : x.mult < 1
 ·have d2 := decide_eq_true t2
  have HNO := hid (decide_eq_false (show ¬ okI x from fun hk => by unfold okI at hk; omega))
  go_enter Tryz.func50, Tryz.ntmps50
  go_wp2_with (first | (go_at_call 89; (with_reducible refine cM (C1.out _) fun w1 hb1 fc1 fg1 hc1 hf1 hz1 => ?_); (try simp at hz1)) | (go_at_call 89; (with_reducible refine cM (C2.out _) fun w2 hb2 fc2 fg2 hc2 hf2 hz2 => ?_); (try simp at hz2)) | fail)
  go_ret
  exact ⟨by rw [HNO.out]; first | done | rfl, tB⟩
 have d2 := decide_eq_false t2
 by_cases t3 : 65536 < x.mult
 ·have d3 := decide_eq_true t3
  have HNO := hid (decide_eq_false (show ¬ okI x from fun hk => by unfold okI at hk; omega))
  go_enter Tryz.func50, Tryz.ntmps50
  go_wp2_with (first | (go_at_call 89; (with_reducible refine cM (C1.out _) fun w1 hb1 fc1 fg1 hc1 hf1 hz1 => ?_); (try simp at hz1)) | (go_at_call 89; (with_reducible refine cM (C2.out _) fun w2 hb2 fc2 fg2 hc2 hf2 hz2 => ?_); (try simp at hz2)) | fail)
  go_ret
  exact ⟨by rw [HNO.out]; first | done | rfl, tB⟩
 have d3 := decide_eq_false t3
 cases pb
 ·have t5 := pricedI_no hpb.symm
  clear hpb hnb
  have HNO := hid (decide_eq_false (show ¬ okI x from fun hk => by unfold okI at hk; omega))
  go_enter Tryz.func50, Tryz.ntmps50
  go_wp2_with (first | (go_at_call 89; (with_reducible refine cM (C1.out _) fun w1 hb1 fc1 fg1 hc1 hf1 hz1 => ?_); (try simp at hz1)) | (go_at_call 89; (with_reducible refine cM (C2.out _) fun w2 hb2 fc2 fg2 hc2 hf2 hz2 => ?_); (try simp at hz2)) | fail)
  go_ret
  exact ⟨by rw [HNO.out]; first | done | rfl, tB⟩
 replace hpb := pricedI_iff.1 hpb.symm
 cases nb
 ·have t6 := pricedI_no hnb.symm
  clear hnb
  have HNO := hid (decide_eq_false (show ¬ okI x from fun hk => by unfold okI at hk; omega))
  go_enter Tryz.func50, Tryz.ntmps50
  go_wp2_with (first | (go_at_call 89; (with_reducible refine cM (C1.out _) fun w1 hb1 fc1 fg1 hc1 hf1 hz1 => ?_); (try simp at hz1)) | (go_at_call 89; (with_reducible refine cM (C2.out _) fun w2 hb2 fc2 fg2 hc2 hf2 hz2 => ?_); (try simp at hz2)) | fail)
  go_ret
  exact ⟨by rw [HNO.out]; first | done | rfl, tB⟩
 replace hnb := pricedI_iff.1 hnb.symm
 by_cases t7 : 8 < (x.moves.length : Int)
 ·have d7 := decide_eq_true t7
  have HNO := hid (decide_eq_false (show ¬ okI x from fun hk => by unfold okI at hk; omega))
  go_enter Tryz.func50, Tryz.ntmps50
  go_wp2_with (first | (go_at_call 89; (with_reducible refine cM (C1.out _) fun w1 hb1 fc1 fg1 hc1 hf1 hz1 => ?_); (try simp at hz1)) | (go_at_call 89; (with_reducible refine cM (C2.out _) fun w2 hb2 fc2 fg2 hc2 hf2 hz2 => ?_); (try simp at hz2)) | fail)
  go_ret
  exact ⟨by rw [HNO.out]; first | done | rfl, tB⟩
 have d7 := decide_eq_false t7
 go_enter Tryz.func50, Tryz.ntmps50
 go_wp2_with (first | (go_at_call 89; (with_reducible refine cM (C1.out _) fun w1 hb1 fc1 fg1 hc1 hf1 hz1 => ?_); (try simp at hz1)) | (go_at_call 89; (with_reducible refine cM (C2.out _) fun w2 hb2 fc2 fg2 hc2 hf2 hz2 => ?_); (try simp at hz2)) | fail)
 go_loopw [3] (fun i wr => ∃ k : Nat, k ≤ x.moves.length ∧ i = .int .i64 k ∧ wr = w2 ∧ ∀ j (_ : j < x.moves.length), j < k → farI x.moves[j] = false) (fun i _ => x.moves.length - (intOf i).toNat)
 case atStart => exact ⟨0, Nat.zero_le _, rfl, rfl, fun j _ h => absurd h (by omega)⟩
 case round =>
  obtain ⟨k, hk, rfl, rfl, hno⟩ := hrel
  have Hno := hid hno
  clear hno
  by_cases hlt : k < x.moves.length
  ·have hlt2 : (k : Int) < (x.moves.length : Int) := by omega
   have dl : decide ((k : Int) < (x.moves.length : Int)) = true := by simpa using hlt
   obtain ⟨b, o, rfl, hb, hq⟩ := HR.out k (encI x.moves[k]) (by simp [hlt])
   have e0 := hq 0 _ rfl
   simp at e0
   clear hq
   by_cases h1 : x.moves[k] < -2147483647
   ·have g1 : decide (x.moves[k] < -2147483647) = true := by simpa using h1
    have HNO := hid (decide_eq_false (show ¬ okI x from fun hk => by have := okI_move hk hlt; omega))
    go_wp2_with fail
    go_ret
    exact ⟨by rw [HNO.out]; first | done | rfl, tB⟩
   ·have g1 : decide (x.moves[k] < -2147483647) = false := by simpa using h1
    by_cases h2 : 2147483647 < x.moves[k]
    ·have g2 : decide (2147483647 < x.moves[k]) = true := by simpa using h2
     have HNO := hid (decide_eq_false (show ¬ okI x from fun hk => by have := okI_move hk hlt; omega))
     go_wp2_with fail
     go_ret
     exact ⟨by rw [HNO.out]; first | done | rfl, tB⟩
    ·have g2 : decide (2147483647 < x.moves[k]) = false := by simpa using h2
     go_wp2_with fail
     go_roundw
     case rel => exact ⟨k + 1, by omega, by go_num, by trivial, fun j hj h => by
      rcases Nat.lt_or_ge j k with h3 | h3
      ·exact Hno.out j hj h3
      ·obtain rfl : j = k := by omega
       unfold farI
       rw [g1, g2]; rfl⟩
     case measure => simp [intOf]; omega
  ·have dl : decide ((k : Int) < (x.moves.length : Int)) = false := by simpa using hlt
   have hfar : anyFar x.moves = false := by
    unfold anyFar
    rw [List.any_eq_false]
    intro m hm
    obtain ⟨j, hj, rfl⟩ := List.mem_iff_getElem.1 hm
    rw [Hno.out j hj (by omega)]
    simp
   have HYES := hid (decide_eq_true (show okI x from ⟨by omega, by omega, by omega, by omega, hpb, hnb, by omega, hfar⟩))
   go_wp2_with fail
   go_ret
   exact ⟨by rw [HYES.out]; first | done | rfl, tB⟩
/- Instruments: the contract of inst.Shock whole; of the reference's Shock; the law's short, lives. -/
theorem shock_yes {x : Inst} {q : Int} {k : Nat} (h : okI x) (hk : k < x.moves.length) : shockI x q k = x.moves[k] * x.mult * q := by
 unfold shockI
 rw [if_pos ⟨h, by omega, by omega⟩, Int.toNat_natCast, getD_at hk, Int.mul_comm q, Int.mul_comm (x.mult * q), Int.mul_assoc]
theorem okS_nat {x : Inst} {s : Int} (h : okS x s) : ∃ k : Nat, s = k ∧ k < x.moves.length := ⟨s.toNat, by have := h.2; omega, by have := h.2; omega⟩
theorem instShock (x : Inst) (q s : Int) (A : Option Addr) (c : Nat) (w : World) (hq : In64 q) (hl : x.moves.length ≤ 1099511627776) (hr : Rd w A 1 (x.moves.map encI)) :
  Calls Tryz.prog 207 #[.agg #[.int .i64 (x).id, .int .i64 (x).mult, .int .i64 (x).price, .int .i64 (x).next, .slice A (x).moves.length c], .int .i64 q, .int .i64 s] w fun e w' => e = .returned (.agg #[.int .i64 (whi (shockI x q s)), .int .u64 (wlo (shockI x q s))]) ∧ Below w.heap.size w w' := by
 by_cases h : okS x s
 ·obtain ⟨k, rfl, hk⟩ := okS_nat h
  rw [shock_yes h.1 hk]
  exact instShockYes x q k A c w hq hr hk h.1
 ·rw [shock_no h, whi_zero, wlo_zero]
  exact instShockNo x q s A c w hl hr h
end Go.Proofs.YtalgfpegaobacaaGreatDoor
