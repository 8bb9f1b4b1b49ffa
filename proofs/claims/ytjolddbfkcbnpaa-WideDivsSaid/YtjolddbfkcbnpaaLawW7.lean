/- The law WideDivs: its walk. -/
import Derived.Test.YtjolddbfkcbnpaaLawW1
import Derived.Test.YtjolddbfkcbnpaaWideA2
import Derived.Test.YtjolddbfkcbnpaaWide9
import Derived.Test.YtjolddbfkcbnpaaBig9
import Derived.Test.YtjolddbfkcbnpaaBig10
namespace Go.Proofs.Ytjolddbfkcbnpaa
open Go.RowKit
set_option maxRecDepth 100000 in
set_option maxHeartbeats 8000000 in
theorem wideDivsLow (a d : Int) (w : World) (hd : d < 0) : Calls Try.prog 12 #[(.agg #[.int .i64 (whi (a)), .int .u64 (wlo (a))]), .int .i64 d] w fun e w' => e = .returned (.bool true) ∧ Below w.heap.size w w' := by
  have d1 : decide (d ≤ 0) = true := by simp; omega
  have d2 : (d == 0) = false := by simp; omega
  go_enter Try.func12, Try.ntmps12
  go_wp2_with (first | (go_at_call 53; (with_reducible refine (wideDivNeg a d _ hd).mono ?_); rintro e w1 ⟨rfl, hb1⟩; obtain ⟨fc1, fg1, hc1, hf1, hz1⟩ := bget hb1; (try simp at hz1)) | (go_at_call 19; (with_reducible refine (law01lives _).mono ?_); rintro e w4 ⟨rfl, hb4⟩; obtain ⟨fc4, fg4, hc4, hf4, hz4⟩ := bget hb4; (try simp at hz4)) | fail)
  go_ret
  exact ⟨rfl, by (repeat' (first | (with_reducible exact Below.refl _ _) | (with_reducible assumption) | (with_reducible refine Below.alloc ?_ ?_ _) | (with_reducible refine Below.setCell ?_ ?_ _) | (with_reducible refine Below.drew ?_) | (with_reducible refine below_drewN ?_ _) | (with_reducible refine below_via ?_ (by with_reducible assumption) ?_) | omega | (simp; done) | (simp; omega)))⟩
set_option maxRecDepth 100000 in
set_option maxHeartbeats 8000000 in
theorem wideDivsZero (a : Int) (w : World) : Calls Try.prog 12 #[(.agg #[.int .i64 (whi (a)), .int .u64 (wlo (a))]), .int .i64 0] w fun e w' => e = .returned (.bool true) ∧ Below w.heap.size w w' := by
  go_enter Try.func12, Try.ntmps12
  go_wp2_with (first | (go_at_call 53; (with_reducible refine (wideDivZero a _).mono ?_); rintro e w1 ⟨rfl, hb1⟩; obtain ⟨fc1, fg1, hc1, hf1, hz1⟩ := bget hb1; (try simp at hz1)) | (go_at_call 19; (with_reducible refine (law01lives _).mono ?_); rintro e w4 ⟨rfl, hb4⟩; obtain ⟨fc4, fg4, hc4, hf4, hz4⟩ := bget hb4; (try simp at hz4)) | fail)
  go_ret
  exact ⟨rfl, by (repeat' (first | (with_reducible exact Below.refl _ _) | (with_reducible assumption) | (with_reducible refine Below.alloc ?_ ?_ _) | (with_reducible refine Below.setCell ?_ ?_ _) | (with_reducible refine Below.drew ?_) | (with_reducible refine below_drewN ?_ _) | (with_reducible refine below_via ?_ (by with_reducible assumption) ?_) | omega | (simp; done) | (simp; omega)))⟩
theorem div_in {a d : Int} (ha : In128 a) (hd : 0 < d) : In128 (a / d) := by
  unfold In128 at *
  by_cases h : 0 ≤ a
  · have h1 : 0 ≤ a / d := Int.ediv_nonneg h (by omega)
    have h2 := Int.ediv_le_self d h
    omega
  · have h1 : a / d < 0 := Int.ediv_lt_of_lt_mul hd (by omega)
    have h2 : a ≤ a / d := Int.le_ediv_of_mul_le hd (by
      have h3 : (- a) * 1 ≤ (- a) * d := Int.mul_le_mul_of_nonneg_left (by omega) (by omega)
      rw [Int.neg_mul, Int.neg_mul] at h3
      omega)
    omega
set_option maxRecDepth 100000 in
set_option maxHeartbeats 16000000 in
theorem wideDivsBack (a d : Int) (w : World) (ha : In128 a) (hd : 0 < d) (hd1 : d ≤ 9223372036854775807) (hp : In128 (a / d * d)) : Calls Try.prog 12 #[(.agg #[.int .i64 (whi (a)), .int .u64 (wlo (a))]), .int .i64 d] w fun e w' => e = .returned (.bool true) ∧ Below w.heap.size w w' := by
  have hq := div_in ha hd
  have hr0 := Int.emod_nonneg a (show d ≠ 0 by omega)
  have hr1 := Int.emod_lt_of_pos a hd
  have hqa := Int.mul_ediv_add_emod a d
  rw [Int.mul_comm] at hqa
  have c1 := fun W => wideDiv a d W ha hd hd1
  have c2 := fun s l A c W h hB => bigDiv a d s l A c 194 W hd hd1 (by omega) h hB
  obtain ⟨q, hqe⟩ : ∃ q, q = a / d := ⟨_, rfl⟩
  obtain ⟨r, hre⟩ : ∃ r, r = a % d := ⟨_, rfl⟩
  rw [← hqe] at hq
  rw [← hre] at hr0 hr1
  rw [← hqe, ← hre] at hqa c1 c2
  have C1 := Lib.hid c1
  have C2 := Lib.hid c2
  have HQA := Lib.hid hqa
  have hr64 : In64 r := (by unfold In64; omega)
  have hd64 : In64 d := (by unfold In64; omega)
  have d1 : decide (d ≤ 0) = false := (by simp; omega)
  have d3 : decide (r < 0) = false := (by simp; omega)
  have hwr : IntKind.u64.wrap r = r := u64_wrap hr0 (by omega)
  rw [← hqe] at hp
  clear c1 c2 hqa hqe hre
  go_enter Try.func12, Try.ntmps12
  go_wp2_with (first | (go_at_call 53; (with_reducible refine (C1.out _).mono ?_); rintro e w1 ⟨rfl, hb1⟩; obtain ⟨fc1, fg1, hc1, hf1, hz1⟩ := bget hb1; (try simp at hz1)) | (go_at_call 15; (with_reducible refine (law01big a _ ha).mono ?_); rintro e w2 ⟨s2, A2, l2, c2, rfl, hB2, hl2, hb2⟩; have HB2 := Lib.hid hB2; clear hB2; obtain ⟨fc2, fg2, hc2, hf2, hz2⟩ := bget hb2; (try simp at hz2)) | (go_at_call 33; (with_reducible refine (C2.out _ _ _ _ _ hl2 (HB2.out.keep (by (repeat' (first | (with_reducible exact Below.refl _ _) | (with_reducible assumption) | (with_reducible refine Below.alloc ?_ ?_ _) | (with_reducible refine Below.setCell ?_ ?_ _) | (with_reducible refine Below.drew ?_) | (with_reducible refine below_drewN ?_ _) | (with_reducible refine below_via ?_ (by with_reducible assumption) ?_) | omega | (simp; done) | (simp; omega)))))).mono ?_); rintro e w3 ⟨s3, A3, l3, c3, rfl, hB3, hl3, hb3⟩; have HB3 := Lib.hid hB3; clear hB3; obtain ⟨fc3, fg3, hc3, hf3, hz3⟩ := bget hb3; (try simp at hz3)) | fail)
  go_region_held3 (fun w' => w'.cell? ⟨w1.heap.size, 0, none⟩ = some (.int .i64 (whi q)) ∧ w'.cell? ⟨w1.heap.size, 1, none⟩ = some (.int .u64 (wlo q)) ∧ w'.cell? ⟨w.heap.size, 0, none⟩ = some (.int .i64 (whi a)) ∧ w'.cell? ⟨w.heap.size, 1, none⟩ = some (.int .u64 (wlo a)) ∧ w'.cell? ⟨w3.heap.size, 0, none⟩ = some (.bool s3) ∧ w'.cell? ⟨w3.heap.size, 1, none⟩ = some (.slice A3 l3.length c3)) (first | (simp [hc1, hc2, hc3, go_sem, ↓IntWalk.iteOmega]; done) | (first | (simp [go_sem]; done) | (repeat' (first | (with_reducible assumption) | (with_reducible refine And.intro ?_ ?_) | (with_reducible refine cell_drew ?_) | (with_reducible refine cell_via (by with_reducible assumption) ?_ ?_) | (simp [*]; done) | (simp [go_sem]; done) | (with_reducible refine cell_alloc ?_ ?_) | (with_reducible refine cell_set_far ?_ ?_) | omega | (simp; omega))))) (first | (go_at_call 15; (with_reducible refine (law01big q _ hq).mono ?_); rintro e w4 ⟨s4, A4, l4, c4, rfl, hB4, hl4, hb4⟩; have HB4 := Lib.hid hB4; clear hB4; obtain ⟨fc4, fg4, hc4, hf4, hz4⟩ := bget hb4; (try simp at hz4)) | (go_at_call 14; (with_reducible refine (bigCmp q q s4 s3 l4 l3 A4 A3 c4 c3 300 _ (by omega) (by omega) (by omega) (HB4.out.keep (by (repeat' (first | (with_reducible exact Below.refl _ _) | (with_reducible assumption) | (with_reducible refine Below.alloc ?_ ?_ _) | (with_reducible refine Below.setCell ?_ ?_ _) | (with_reducible refine Below.drew ?_) | (with_reducible refine below_drewN ?_ _) | (with_reducible refine below_via ?_ (by with_reducible assumption) ?_) | omega | (simp; done) | (simp; omega))))) (HB3.out.keep (by (repeat' (first | (with_reducible exact Below.refl _ _) | (with_reducible assumption) | (with_reducible refine Below.alloc ?_ ?_ _) | (with_reducible refine Below.setCell ?_ ?_ _) | (with_reducible refine Below.drew ?_) | (with_reducible refine below_drewN ?_ _) | (with_reducible refine below_via ?_ (by with_reducible assumption) ?_) | omega | (simp; done) | (simp; omega)))))).mono ?_); rintro e w5 ⟨rfl, hb5⟩; rw [ord_self]; obtain ⟨fc5, fg5, hc5, hf5, hz5⟩ := bget hb5; (try simp at hz5)) | fail)
  all_goals
    go_wp2_with (first | (go_at_call 45; (with_reducible refine (wideTimesYes q d _ hq hd64 hp).mono ?_); rintro e w6 ⟨rfl, hb6⟩; obtain ⟨fc6, fg6, hc6, hf6, hz6⟩ := bget hb6; (try simp at hz6)) | fail)
    go_region_held3 (fun w' => w'.cell? ⟨w6.heap.size, 0, none⟩ = some (.int .i64 (whi (q * d))) ∧ w'.cell? ⟨w6.heap.size, 1, none⟩ = some (.int .u64 (wlo (q * d))) ∧ w'.cell? ⟨w.heap.size, 0, none⟩ = some (.int .i64 (whi a)) ∧ w'.cell? ⟨w.heap.size, 1, none⟩ = some (.int .u64 (wlo a))) (first | (simp [hc1, hc2, hc3, hc4, hc5, hc6, go_sem, ↓IntWalk.iteOmega]; done) | (first | (simp [go_sem]; done) | (repeat' (first | (with_reducible assumption) | (with_reducible refine And.intro ?_ ?_) | (with_reducible refine cell_drew ?_) | (with_reducible refine cell_via (by with_reducible assumption) ?_ ?_) | (simp [*]; done) | (simp [go_sem]; done) | (with_reducible refine cell_alloc ?_ ?_) | (with_reducible refine cell_set_far ?_ ?_) | omega | (simp; omega))))) (first | (go_at_call 18; (with_reducible refine (wideOf r _ hr64).mono ?_); rintro e w7 ⟨rfl, hb7⟩; obtain ⟨fc7, fg7, hc7, hf7, hz7⟩ := bget hb7; (try simp at hz7)) | (go_at_call 36; (with_reducible refine (wideAdd2 (q * d) r a _ _ hp (in128_of64 hr64) HQA.out ha ?_ ?_ ?_ ?_ ?_).mono ?_); (focus (first | (simp; done) | (simp; omega))); (focus (first | (simp [go_sem]; done) | (simp [go_sem, ↓IntWalk.iteOmega]; done))); (focus (first | (simp [go_sem]; done) | (simp [go_sem, ↓IntWalk.iteOmega]; done))); (focus (first | (simp [go_sem]; done) | (simp [go_sem, ↓IntWalk.iteOmega]; done))); (focus (first | (simp [go_sem]; done) | (simp [go_sem, ↓IntWalk.iteOmega]; done)));  rintro e w8 ⟨rfl, hb8⟩; obtain ⟨fc8, fg8, hc8, hf8, hz8⟩ := bget hb8; (try simp at hz8)) | fail)
    all_goals
      go_wp2_with (first | (go_at_call 19; (with_reducible refine (law01lives _).mono ?_); rintro e w9 ⟨rfl, hb9⟩; obtain ⟨fc9, fg9, hc9, hf9, hz9⟩ := bget hb9; (try simp at hz9)) | fail)
      go_ret
      exact ⟨rfl, by (repeat' (first | (with_reducible exact Below.refl _ _) | (with_reducible assumption) | (with_reducible refine Below.alloc ?_ ?_ _) | (with_reducible refine Below.setCell ?_ ?_ _) | (with_reducible refine Below.drew ?_) | (with_reducible refine below_drewN ?_ _) | (with_reducible refine below_via ?_ (by with_reducible assumption) ?_) | omega | (simp; done) | (simp; omega)))⟩
set_option maxRecDepth 100000 in
set_option maxHeartbeats 16000000 in
theorem wideDivsOver (a d : Int) (w : World) (ha : In128 a) (hd : 0 < d) (hd1 : d ≤ 9223372036854775807) (hp : ¬ In128 (a / d * d)) : Calls Try.prog 12 #[(.agg #[.int .i64 (whi (a)), .int .u64 (wlo (a))]), .int .i64 d] w fun e w' => e = .returned (.bool true) ∧ Below w.heap.size w w' := by
  have hq := div_in ha hd
  have hr0 := Int.emod_nonneg a (show d ≠ 0 by omega)
  have hr1 := Int.emod_lt_of_pos a hd
  have hqa := Int.mul_ediv_add_emod a d
  rw [Int.mul_comm] at hqa
  have c1 := fun W => wideDiv a d W ha hd hd1
  have c2 := fun s l A c W h hB => bigDiv a d s l A c 194 W hd hd1 (by omega) h hB
  obtain ⟨q, hqe⟩ : ∃ q, q = a / d := ⟨_, rfl⟩
  obtain ⟨r, hre⟩ : ∃ r, r = a % d := ⟨_, rfl⟩
  rw [← hqe] at hq
  rw [← hre] at hr0 hr1
  rw [← hqe, ← hre] at hqa c1 c2
  have C1 := Lib.hid c1
  have C2 := Lib.hid c2
  have HQA := Lib.hid hqa
  have hr64 : In64 r := (by unfold In64; omega)
  have hd64 : In64 d := (by unfold In64; omega)
  have d1 : decide (d ≤ 0) = false := (by simp; omega)
  have d3 : decide (r < 0) = false := (by simp; omega)
  have hwr : IntKind.u64.wrap r = r := u64_wrap hr0 (by omega)
  rw [← hqe] at hp
  clear c1 c2 hqa hqe hre
  go_enter Try.func12, Try.ntmps12
  go_wp2_with (first | (go_at_call 53; (with_reducible refine (C1.out _).mono ?_); rintro e w1 ⟨rfl, hb1⟩; obtain ⟨fc1, fg1, hc1, hf1, hz1⟩ := bget hb1; (try simp at hz1)) | (go_at_call 15; (with_reducible refine (law01big a _ ha).mono ?_); rintro e w2 ⟨s2, A2, l2, c2, rfl, hB2, hl2, hb2⟩; have HB2 := Lib.hid hB2; clear hB2; obtain ⟨fc2, fg2, hc2, hf2, hz2⟩ := bget hb2; (try simp at hz2)) | (go_at_call 33; (with_reducible refine (C2.out _ _ _ _ _ hl2 (HB2.out.keep (by (repeat' (first | (with_reducible exact Below.refl _ _) | (with_reducible assumption) | (with_reducible refine Below.alloc ?_ ?_ _) | (with_reducible refine Below.setCell ?_ ?_ _) | (with_reducible refine Below.drew ?_) | (with_reducible refine below_drewN ?_ _) | (with_reducible refine below_via ?_ (by with_reducible assumption) ?_) | omega | (simp; done) | (simp; omega)))))).mono ?_); rintro e w3 ⟨s3, A3, l3, c3, rfl, hB3, hl3, hb3⟩; have HB3 := Lib.hid hB3; clear hB3; obtain ⟨fc3, fg3, hc3, hf3, hz3⟩ := bget hb3; (try simp at hz3)) | fail)
  go_region_held3 (fun w' => w'.cell? ⟨w1.heap.size, 0, none⟩ = some (.int .i64 (whi q)) ∧ w'.cell? ⟨w1.heap.size, 1, none⟩ = some (.int .u64 (wlo q)) ∧ w'.cell? ⟨w.heap.size, 0, none⟩ = some (.int .i64 (whi a)) ∧ w'.cell? ⟨w.heap.size, 1, none⟩ = some (.int .u64 (wlo a)) ∧ w'.cell? ⟨w3.heap.size, 0, none⟩ = some (.bool s3) ∧ w'.cell? ⟨w3.heap.size, 1, none⟩ = some (.slice A3 l3.length c3)) (first | (simp [hc1, hc2, hc3, go_sem, ↓IntWalk.iteOmega]; done) | (first | (simp [go_sem]; done) | (repeat' (first | (with_reducible assumption) | (with_reducible refine And.intro ?_ ?_) | (with_reducible refine cell_drew ?_) | (with_reducible refine cell_via (by with_reducible assumption) ?_ ?_) | (simp [*]; done) | (simp [go_sem]; done) | (with_reducible refine cell_alloc ?_ ?_) | (with_reducible refine cell_set_far ?_ ?_) | omega | (simp; omega))))) (first | (go_at_call 15; (with_reducible refine (law01big q _ hq).mono ?_); rintro e w4 ⟨s4, A4, l4, c4, rfl, hB4, hl4, hb4⟩; have HB4 := Lib.hid hB4; clear hB4; obtain ⟨fc4, fg4, hc4, hf4, hz4⟩ := bget hb4; (try simp at hz4)) | (go_at_call 14; (with_reducible refine (bigCmp q q s4 s3 l4 l3 A4 A3 c4 c3 300 _ (by omega) (by omega) (by omega) (HB4.out.keep (by (repeat' (first | (with_reducible exact Below.refl _ _) | (with_reducible assumption) | (with_reducible refine Below.alloc ?_ ?_ _) | (with_reducible refine Below.setCell ?_ ?_ _) | (with_reducible refine Below.drew ?_) | (with_reducible refine below_drewN ?_ _) | (with_reducible refine below_via ?_ (by with_reducible assumption) ?_) | omega | (simp; done) | (simp; omega))))) (HB3.out.keep (by (repeat' (first | (with_reducible exact Below.refl _ _) | (with_reducible assumption) | (with_reducible refine Below.alloc ?_ ?_ _) | (with_reducible refine Below.setCell ?_ ?_ _) | (with_reducible refine Below.drew ?_) | (with_reducible refine below_drewN ?_ _) | (with_reducible refine below_via ?_ (by with_reducible assumption) ?_) | omega | (simp; done) | (simp; omega)))))).mono ?_); rintro e w5 ⟨rfl, hb5⟩; rw [ord_self]; obtain ⟨fc5, fg5, hc5, hf5, hz5⟩ := bget hb5; (try simp at hz5)) | fail)
  all_goals
    go_wp2_with (first | (go_at_call 45; (with_reducible refine (wideTimesNo q d _ hq hd64 hp).mono ?_); rintro e w6 ⟨rfl, hb6⟩; obtain ⟨fc6, fg6, hc6, hf6, hz6⟩ := bget hb6; (try simp at hz6)) | fail)
    go_region_held3 (fun w' => w'.cell? ⟨w1.heap.size, 0, none⟩ = some (.int .i64 (whi q)) ∧ w'.cell? ⟨w1.heap.size, 1, none⟩ = some (.int .u64 (wlo q)) ∧ w'.cell? ⟨w.heap.size, 0, none⟩ = some (.int .i64 (whi a)) ∧ w'.cell? ⟨w.heap.size, 1, none⟩ = some (.int .u64 (wlo a))) (first | (simp [hc1, hc2, hc3, hc4, hc5, hc6, go_sem, ↓IntWalk.iteOmega]; done) | (first | (simp [go_sem]; done) | (repeat' (first | (with_reducible assumption) | (with_reducible refine And.intro ?_ ?_) | (with_reducible refine cell_drew ?_) | (with_reducible refine cell_via (by with_reducible assumption) ?_ ?_) | (simp [*]; done) | (simp [go_sem]; done) | (with_reducible refine cell_alloc ?_ ?_) | (with_reducible refine cell_set_far ?_ ?_) | omega | (simp; omega))))) (first | (go_at_call 15; (with_reducible refine (law01big q _ hq).mono ?_); rintro e w7 ⟨s7, A7, l7, c7, rfl, hB7, hl7, hb7⟩; have HB7 := Lib.hid hB7; clear hB7; obtain ⟨fc7, fg7, hc7, hf7, hz7⟩ := bget hb7; (try simp at hz7)) | (go_at_call 17; (with_reducible refine (bigOf d _ hd64).mono ?_); rintro e w8 ⟨s8, A8, l8, c8, rfl, hB8, hl8, hb8⟩; have HB8 := Lib.hid hB8; clear hB8; obtain ⟨fc8, fg8, hc8, hf8, hz8⟩ := bget hb8; (try simp at hz8)) | (go_at_call 16; (with_reducible refine (bigMul q d s7 s8 l7 l8 A7 A8 c7 c8 194 _ (by omega) hl7 (by omega) (HB7.out.keep (by (repeat' (first | (with_reducible exact Below.refl _ _) | (with_reducible assumption) | (with_reducible refine Below.alloc ?_ ?_ _) | (with_reducible refine Below.setCell ?_ ?_ _) | (with_reducible refine Below.drew ?_) | (with_reducible refine below_drewN ?_ _) | (with_reducible refine below_via ?_ (by with_reducible assumption) ?_) | omega | (simp; done) | (simp; omega))))) (HB8.out.keep (by (repeat' (first | (with_reducible exact Below.refl _ _) | (with_reducible assumption) | (with_reducible refine Below.alloc ?_ ?_ _) | (with_reducible refine Below.setCell ?_ ?_ _) | (with_reducible refine Below.drew ?_) | (with_reducible refine below_drewN ?_ _) | (with_reducible refine below_via ?_ (by with_reducible assumption) ?_) | omega | (simp; done) | (simp; omega)))))).mono ?_); rintro e w9 ⟨s9, A9, l9, c9, rfl, hB9, hl9, hb9⟩; have HB9 := Lib.hid hB9; clear hB9; obtain ⟨fc9, fg9, hc9, hf9, hz9⟩ := bget hb9; (try simp at hz9)) | (go_at_call 17; (with_reducible refine (bigOf r _ hr64).mono ?_); rintro e w10 ⟨s10, A10, l10, c10, rfl, hB10, hl10, hb10⟩; have HB10 := Lib.hid hB10; clear hB10; obtain ⟨fc10, fg10, hc10, hf10, hz10⟩ := bget hb10; (try simp at hz10)) | (go_at_call 31; (with_reducible refine (bigAdd (q * d) r s9 s10 l9 l10 A9 A10 c9 c10 400 _ (by omega) (by omega) (by omega) (HB9.out.keep (by (repeat' (first | (with_reducible exact Below.refl _ _) | (with_reducible assumption) | (with_reducible refine Below.alloc ?_ ?_ _) | (with_reducible refine Below.setCell ?_ ?_ _) | (with_reducible refine Below.drew ?_) | (with_reducible refine below_drewN ?_ _) | (with_reducible refine below_via ?_ (by with_reducible assumption) ?_) | omega | (simp; done) | (simp; omega))))) (HB10.out.keep (by (repeat' (first | (with_reducible exact Below.refl _ _) | (with_reducible assumption) | (with_reducible refine Below.alloc ?_ ?_ _) | (with_reducible refine Below.setCell ?_ ?_ _) | (with_reducible refine Below.drew ?_) | (with_reducible refine below_drewN ?_ _) | (with_reducible refine below_via ?_ (by with_reducible assumption) ?_) | omega | (simp; done) | (simp; omega)))))).mono ?_); rintro e w11 ⟨s11, A11, l11, c11, rfl, hB11, hl11, hb11⟩; rw [HQA.out] at hB11; have HB11 := Lib.hid hB11; clear hB11; obtain ⟨fc11, fg11, hc11, hf11, hz11⟩ := bget hb11; (try simp at hz11)) | (go_at_call 15; (with_reducible refine (law01big a _ ha).mono ?_); rintro e w12 ⟨s12, A12, l12, c12, rfl, hB12, hl12, hb12⟩; have HB12 := Lib.hid hB12; clear hB12; obtain ⟨fc12, fg12, hc12, hf12, hz12⟩ := bget hb12; (try simp at hz12)) | (go_at_call 14; (with_reducible refine (bigCmp a a s11 s12 l11 l12 A11 A12 c11 c12 500 _ (by omega) (by omega) (by omega) (HB11.out.keep (by (repeat' (first | (with_reducible exact Below.refl _ _) | (with_reducible assumption) | (with_reducible refine Below.alloc ?_ ?_ _) | (with_reducible refine Below.setCell ?_ ?_ _) | (with_reducible refine Below.drew ?_) | (with_reducible refine below_drewN ?_ _) | (with_reducible refine below_via ?_ (by with_reducible assumption) ?_) | omega | (simp; done) | (simp; omega))))) (HB12.out.keep (by (repeat' (first | (with_reducible exact Below.refl _ _) | (with_reducible assumption) | (with_reducible refine Below.alloc ?_ ?_ _) | (with_reducible refine Below.setCell ?_ ?_ _) | (with_reducible refine Below.drew ?_) | (with_reducible refine below_drewN ?_ _) | (with_reducible refine below_via ?_ (by with_reducible assumption) ?_) | omega | (simp; done) | (simp; omega)))))).mono ?_); rintro e w13 ⟨rfl, hb13⟩; rw [ord_self]; obtain ⟨fc13, fg13, hc13, hf13, hz13⟩ := bget hb13; (try simp at hz13)) | (go_at_call 19; (with_reducible refine (law01lives _).mono ?_); rintro e w14 ⟨rfl, hb14⟩; obtain ⟨fc14, fg14, hc14, hf14, hz14⟩ := bget hb14; (try simp at hz14)) | fail)
    all_goals
      go_wp2_with fail
      go_ret
      exact ⟨rfl, by (repeat' (first | (with_reducible exact Below.refl _ _) | (with_reducible assumption) | (with_reducible refine Below.alloc ?_ ?_ _) | (with_reducible refine Below.setCell ?_ ?_ _) | (with_reducible refine Below.drew ?_) | (with_reducible refine below_drewN ?_ _) | (with_reducible refine below_via ?_ (by with_reducible assumption) ?_) | omega | (simp; done) | (simp; omega)))⟩
theorem wideDivs (a d : Int) (w : World) (ha : In128 a) (hd : In64 d) : Calls Try.prog 12 #[(.agg #[.int .i64 (whi (a)), .int .u64 (wlo (a))]), .int .i64 d] w fun e w' => e = .returned (.bool true) ∧ Below w.heap.size w w' := by
  rcases Int.lt_trichotomy d 0 with h | h | h
  · exact wideDivsLow a d w h
  · subst h; exact wideDivsZero a w
  · by_cases hp : In128 (a / d * d)
    · exact wideDivsBack a d w ha h hd.2 hp
    · exact wideDivsOver a d w ha h hd.2 hp
end Go.Proofs.Ytjolddbfkcbnpaa
