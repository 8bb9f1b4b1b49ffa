/- The law FixScales: its walk. -/
import Derived.Test.YtjolddbfkcbnpaaLawF3
namespace Go.Proofs.Ytjolddbfkcbnpaa
open Go.RowKit
set_option maxRecDepth 100000 in
set_option maxHeartbeats 8000000 in
theorem fixScalesNeg (a n d : Int) (w : World) (ha : In64 a) (hn : In64 n) (hd : d < 0) : Calls Try.prog 7 #[.int .i64 a, .int .i64 n, .int .i64 d] w fun e w' => e = .returned (.bool true) ∧ Below w.heap.size w w' := by
  have d1 : decide (d ≤ 0) = true := by simp; omega
  have d2 : (d == 0) = false := by simp; omega
  go_enter Try.func7, Try.ntmps7
  go_wp2_with (first | (go_at_call 29; (with_reducible refine (fixScaleNeg a n d _ ha hn hd).mono ?_); rintro e w1 ⟨rfl, hb1⟩; obtain ⟨fc1, fg1, hc1, hf1, hz1⟩ := bget hb1; (try simp at hz1)) | (go_at_call 32; (with_reducible refine (fixUpNeg a n d _ ha hn hd).mono ?_); rintro e w2 ⟨rfl, hb2⟩; obtain ⟨fc2, fg2, hc2, hf2, hz2⟩ := bget hb2; (try simp at hz2)) | (go_at_call 30; (with_reducible refine (law02lives _).mono ?_); rintro e w3 ⟨rfl, hb3⟩; obtain ⟨fc3, fg3, hc3, hf3, hz3⟩ := bget hb3; (try simp at hz3)) | fail)
  go_ret
  exact ⟨rfl, by (repeat' (first | (with_reducible exact Below.refl _ _) | (with_reducible assumption) | (with_reducible refine Below.alloc ?_ ?_ _) | (with_reducible refine Below.setCell ?_ ?_ _) | (with_reducible refine Below.drew ?_) | (with_reducible refine below_drewN ?_ _) | (with_reducible refine below_via ?_ (by with_reducible assumption) ?_) | omega | (simp; done) | (simp; omega)))⟩
set_option maxRecDepth 100000 in
set_option maxHeartbeats 8000000 in
theorem fixScalesZero (a n : Int) (w : World) (ha : In64 a) (hn : In64 n) : Calls Try.prog 7 #[.int .i64 a, .int .i64 n, .int .i64 0] w fun e w' => e = .returned (.bool true) ∧ Below w.heap.size w w' := by
  go_enter Try.func7, Try.ntmps7
  go_wp2_with (first | (go_at_call 29; (with_reducible refine (fixScaleZero a n _ ha hn).mono ?_); rintro e w1 ⟨rfl, hb1⟩; obtain ⟨fc1, fg1, hc1, hf1, hz1⟩ := bget hb1; (try simp at hz1)) | (go_at_call 32; (with_reducible refine (fixUpZero a n _ ha hn).mono ?_); rintro e w2 ⟨rfl, hb2⟩; obtain ⟨fc2, fg2, hc2, hf2, hz2⟩ := bget hb2; (try simp at hz2)) | (go_at_call 30; (with_reducible refine (law02lives _).mono ?_); rintro e w3 ⟨rfl, hb3⟩; obtain ⟨fc3, fg3, hc3, hf3, hz3⟩ := bget hb3; (try simp at hz3)) | fail)
  go_ret
  exact ⟨rfl, by (repeat' (first | (with_reducible exact Below.refl _ _) | (with_reducible assumption) | (with_reducible refine Below.alloc ?_ ?_ _) | (with_reducible refine Below.setCell ?_ ?_ _) | (with_reducible refine Below.drew ?_) | (with_reducible refine below_drewN ?_ _) | (with_reducible refine below_via ?_ (by with_reducible assumption) ?_) | omega | (simp; done) | (simp; omega)))⟩
set_option maxRecDepth 100000 in
set_option maxHeartbeats 8000000 in
theorem fixScalesYes (a n d : Int) (w : World) (ha : In64 a) (hn : In64 n) (hd : 0 < d) (hd1 : d ≤ 9223372036854775807) (h : In64 (a * n / d)) : Calls Try.prog 7 #[.int .i64 a, .int .i64 n, .int .i64 d] w fun e w' => e = .returned (.bool true) ∧ Below w.heap.size w w' := by
  have d1 : decide (d ≤ 0) = false := (by simp; omega)
  have hr0 := Int.emod_nonneg (a * n) (show d ≠ 0 by omega)
  have hr1 := Int.emod_lt_of_pos (a * n) hd
  have c1 := fun W => fixScaleYes a n d W ha hn hd hd1 h
  have c2 := fun W => fixUp a n d W ha hn hd hd1
  have c3 := fun s l A c W h hB => bigDiv (a * n) d s l A c 200 W hd hd1 (by omega) h hB
  have c4 := fun s l A c W h hB => law02Is (a * n / d) s l A c 300 W (by omega) h hB
  rw [(okN_yes h).1, (okN_yes h).2] at c4
  have c5 := fun s l A c W h hB => refUp (a * n) d s l A c 200 W hd hd1 (by omega) h hB
  have c6 := fun s l A c W h hB => law02Is (upOf (a * n) d) s l A c 400 W (by omega) h hB
  obtain ⟨q, hqe⟩ : ∃ q, q = a * n / d := ⟨_, rfl⟩
  obtain ⟨r, hre⟩ : ∃ r, r = a * n % d := ⟨_, rfl⟩
  (try rw [← hqe] at c1)
  rw [← hqe] at c3 c4
  (try rw [← hre] at c1)
  rw [← hre] at c3 hr0 hr1
  generalize upOf (a * n) d = u at c2 c5 c6
  generalize okN u = un at c2 c6
  generalize okE u = ue at c2 c6
  have hwr : IntKind.u64.wrap r = r := u64_wrap hr0 (by omega)
  have C1 := Lib.hid c1
  have C2 := Lib.hid c2
  have C3 := Lib.hid c3
  have C4 := Lib.hid c4
  have C5 := Lib.hid c5
  have C6 := Lib.hid c6
  clear c1 c2 c3 c4 c5 c6 hqe hre
  go_enter Try.func7, Try.ntmps7
  go_wp2_with (first | (go_at_call 29; (with_reducible refine (C1.out _).mono ?_); rintro e w1 ⟨rfl, hb1⟩; obtain ⟨fc1, fg1, hc1, hf1, hz1⟩ := bget hb1; (try simp at hz1)) | (go_at_call 32; (with_reducible refine (C2.out _).mono ?_); rintro e w2 ⟨rfl, hb2⟩; obtain ⟨fc2, fg2, hc2, hf2, hz2⟩ := bget hb2; (try simp at hz2)) | (go_at_call 17; (with_reducible refine (bigOf a _ ha).mono ?_); rintro e w3 ⟨s3, A3, l3, c3, rfl, hB3, hl3, hb3⟩; have HB3 := Lib.hid hB3; clear hB3; obtain ⟨fc3, fg3, hc3, hf3, hz3⟩ := bget hb3; (try simp at hz3)) | (go_at_call 17; (with_reducible refine (bigOf n _ hn).mono ?_); rintro e w4 ⟨s4, A4, l4, c4, rfl, hB4, hl4, hb4⟩; have HB4 := Lib.hid hB4; clear hB4; obtain ⟨fc4, fg4, hc4, hf4, hz4⟩ := bget hb4; (try simp at hz4)) | (go_at_call 16; (with_reducible refine (bigMul a n s3 s4 l3 l4 A3 A4 c3 c4 65 _ (by omega) hl3 hl4 (HB3.out.keep (by (repeat' (first | (with_reducible exact Below.refl _ _) | (with_reducible assumption) | (with_reducible refine Below.alloc ?_ ?_ _) | (with_reducible refine Below.setCell ?_ ?_ _) | (with_reducible refine Below.drew ?_) | (with_reducible refine below_drewN ?_ _) | (with_reducible refine below_via ?_ (by with_reducible assumption) ?_) | omega | (simp; done) | (simp; omega))))) (HB4.out.keep (by (repeat' (first | (with_reducible exact Below.refl _ _) | (with_reducible assumption) | (with_reducible refine Below.alloc ?_ ?_ _) | (with_reducible refine Below.setCell ?_ ?_ _) | (with_reducible refine Below.drew ?_) | (with_reducible refine below_drewN ?_ _) | (with_reducible refine below_via ?_ (by with_reducible assumption) ?_) | omega | (simp; done) | (simp; omega)))))).mono ?_); rintro e w5 ⟨s5, A5, l5, c5, rfl, hB5, hl5, hb5⟩; have HB5 := Lib.hid hB5; clear hB5; obtain ⟨fc5, fg5, hc5, hf5, hz5⟩ := bget hb5; (try simp at hz5)) | (go_at_call 33; (with_reducible refine (C3.out s5 l5 A5 c5 _ (by omega) (HB5.out.keep (by (repeat' (first | (with_reducible exact Below.refl _ _) | (with_reducible assumption) | (with_reducible refine Below.alloc ?_ ?_ _) | (with_reducible refine Below.setCell ?_ ?_ _) | (with_reducible refine Below.drew ?_) | (with_reducible refine below_drewN ?_ _) | (with_reducible refine below_via ?_ (by with_reducible assumption) ?_) | omega | (simp; done) | (simp; omega)))))).mono ?_); rintro e w6 ⟨s6, A6, l6, c6, rfl, hB6, hl6, hb6⟩; have HB6 := Lib.hid hB6; clear hB6; obtain ⟨fc6, fg6, hc6, hf6, hz6⟩ := bget hb6; (try simp at hz6)) | (go_at_call 34; (with_reducible refine (C4.out s6 l6 A6 c6 _ (by omega) (HB6.out.keep (by (repeat' (first | (with_reducible exact Below.refl _ _) | (with_reducible assumption) | (with_reducible refine Below.alloc ?_ ?_ _) | (with_reducible refine Below.setCell ?_ ?_ _) | (with_reducible refine Below.drew ?_) | (with_reducible refine below_drewN ?_ _) | (with_reducible refine below_via ?_ (by with_reducible assumption) ?_) | omega | (simp; done) | (simp; omega)))))).mono ?_); rintro e w7 ⟨rfl, hb7⟩; obtain ⟨fc7, fg7, hc7, hf7, hz7⟩ := bget hb7; (try simp at hz7)) | (go_at_call 35; (with_reducible refine (C5.out s5 l5 A5 c5 _ (by omega) (HB5.out.keep (by (repeat' (first | (with_reducible exact Below.refl _ _) | (with_reducible assumption) | (with_reducible refine Below.alloc ?_ ?_ _) | (with_reducible refine Below.setCell ?_ ?_ _) | (with_reducible refine Below.drew ?_) | (with_reducible refine below_drewN ?_ _) | (with_reducible refine below_via ?_ (by with_reducible assumption) ?_) | omega | (simp; done) | (simp; omega)))))).mono ?_); rintro e w8 ⟨s8, A8, l8, c8, rfl, hB8, hl8, hb8⟩; have HB8 := Lib.hid hB8; clear hB8; obtain ⟨fc8, fg8, hc8, hf8, hz8⟩ := bget hb8; (try simp at hz8)) | (go_at_call 34; (with_reducible refine (C6.out s8 l8 A8 c8 _ (by omega) (HB8.out.keep (by (repeat' (first | (with_reducible exact Below.refl _ _) | (with_reducible assumption) | (with_reducible refine Below.alloc ?_ ?_ _) | (with_reducible refine Below.setCell ?_ ?_ _) | (with_reducible refine Below.drew ?_) | (with_reducible refine below_drewN ?_ _) | (with_reducible refine below_via ?_ (by with_reducible assumption) ?_) | omega | (simp; done) | (simp; omega)))))).mono ?_); rintro e w9 ⟨rfl, hb9⟩; obtain ⟨fc9, fg9, hc9, hf9, hz9⟩ := bget hb9; (try simp at hz9)) | (go_at_call 30; (with_reducible refine (law02lives _).mono ?_); rintro e w10 ⟨rfl, hb10⟩; obtain ⟨fc10, fg10, hc10, hf10, hz10⟩ := bget hb10; (try simp at hz10)) | fail)
  go_ret
  exact ⟨rfl, by (repeat' (first | (with_reducible exact Below.refl _ _) | (with_reducible assumption) | (with_reducible refine Below.alloc ?_ ?_ _) | (with_reducible refine Below.setCell ?_ ?_ _) | (with_reducible refine Below.drew ?_) | (with_reducible refine below_drewN ?_ _) | (with_reducible refine below_via ?_ (by with_reducible assumption) ?_) | omega | (simp; done) | (simp; omega)))⟩
set_option maxRecDepth 100000 in
set_option maxHeartbeats 8000000 in
theorem fixScalesNo (a n d : Int) (w : World) (ha : In64 a) (hn : In64 n) (hd : 0 < d) (hd1 : d ≤ 9223372036854775807) (h : ¬ In64 (a * n / d)) : Calls Try.prog 7 #[.int .i64 a, .int .i64 n, .int .i64 d] w fun e w' => e = .returned (.bool true) ∧ Below w.heap.size w w' := by
  have d1 : decide (d ≤ 0) = false := (by simp; omega)
  have hr0 := Int.emod_nonneg (a * n) (show d ≠ 0 by omega)
  have hr1 := Int.emod_lt_of_pos (a * n) hd
  have c1 := fun W => fixScaleNo a n d W ha hn hd hd1 h
  have c2 := fun W => fixUp a n d W ha hn hd hd1
  have c3 := fun s l A c W h hB => bigDiv (a * n) d s l A c 200 W hd hd1 (by omega) h hB
  have c4 := fun s l A c W h hB => law02Is (a * n / d) s l A c 300 W (by omega) h hB
  rw [(okN_no h).1, (okN_no h).2] at c4
  have c5 := fun s l A c W h hB => refUp (a * n) d s l A c 200 W hd hd1 (by omega) h hB
  have c6 := fun s l A c W h hB => law02Is (upOf (a * n) d) s l A c 400 W (by omega) h hB
  obtain ⟨q, hqe⟩ : ∃ q, q = a * n / d := ⟨_, rfl⟩
  obtain ⟨r, hre⟩ : ∃ r, r = a * n % d := ⟨_, rfl⟩
  (try rw [← hqe] at c1)
  rw [← hqe] at c3 c4
  (try rw [← hre] at c1)
  rw [← hre] at c3 hr0 hr1
  generalize upOf (a * n) d = u at c2 c5 c6
  generalize okN u = un at c2 c6
  generalize okE u = ue at c2 c6
  have hwr : IntKind.u64.wrap r = r := u64_wrap hr0 (by omega)
  have C1 := Lib.hid c1
  have C2 := Lib.hid c2
  have C3 := Lib.hid c3
  have C4 := Lib.hid c4
  have C5 := Lib.hid c5
  have C6 := Lib.hid c6
  clear c1 c2 c3 c4 c5 c6 hqe hre
  go_enter Try.func7, Try.ntmps7
  go_wp2_with (first | (go_at_call 29; (with_reducible refine (C1.out _).mono ?_); rintro e w1 ⟨rfl, hb1⟩; obtain ⟨fc1, fg1, hc1, hf1, hz1⟩ := bget hb1; (try simp at hz1)) | (go_at_call 32; (with_reducible refine (C2.out _).mono ?_); rintro e w2 ⟨rfl, hb2⟩; obtain ⟨fc2, fg2, hc2, hf2, hz2⟩ := bget hb2; (try simp at hz2)) | (go_at_call 17; (with_reducible refine (bigOf a _ ha).mono ?_); rintro e w3 ⟨s3, A3, l3, c3, rfl, hB3, hl3, hb3⟩; have HB3 := Lib.hid hB3; clear hB3; obtain ⟨fc3, fg3, hc3, hf3, hz3⟩ := bget hb3; (try simp at hz3)) | (go_at_call 17; (with_reducible refine (bigOf n _ hn).mono ?_); rintro e w4 ⟨s4, A4, l4, c4, rfl, hB4, hl4, hb4⟩; have HB4 := Lib.hid hB4; clear hB4; obtain ⟨fc4, fg4, hc4, hf4, hz4⟩ := bget hb4; (try simp at hz4)) | (go_at_call 16; (with_reducible refine (bigMul a n s3 s4 l3 l4 A3 A4 c3 c4 65 _ (by omega) hl3 hl4 (HB3.out.keep (by (repeat' (first | (with_reducible exact Below.refl _ _) | (with_reducible assumption) | (with_reducible refine Below.alloc ?_ ?_ _) | (with_reducible refine Below.setCell ?_ ?_ _) | (with_reducible refine Below.drew ?_) | (with_reducible refine below_drewN ?_ _) | (with_reducible refine below_via ?_ (by with_reducible assumption) ?_) | omega | (simp; done) | (simp; omega))))) (HB4.out.keep (by (repeat' (first | (with_reducible exact Below.refl _ _) | (with_reducible assumption) | (with_reducible refine Below.alloc ?_ ?_ _) | (with_reducible refine Below.setCell ?_ ?_ _) | (with_reducible refine Below.drew ?_) | (with_reducible refine below_drewN ?_ _) | (with_reducible refine below_via ?_ (by with_reducible assumption) ?_) | omega | (simp; done) | (simp; omega)))))).mono ?_); rintro e w5 ⟨s5, A5, l5, c5, rfl, hB5, hl5, hb5⟩; have HB5 := Lib.hid hB5; clear hB5; obtain ⟨fc5, fg5, hc5, hf5, hz5⟩ := bget hb5; (try simp at hz5)) | (go_at_call 33; (with_reducible refine (C3.out s5 l5 A5 c5 _ (by omega) (HB5.out.keep (by (repeat' (first | (with_reducible exact Below.refl _ _) | (with_reducible assumption) | (with_reducible refine Below.alloc ?_ ?_ _) | (with_reducible refine Below.setCell ?_ ?_ _) | (with_reducible refine Below.drew ?_) | (with_reducible refine below_drewN ?_ _) | (with_reducible refine below_via ?_ (by with_reducible assumption) ?_) | omega | (simp; done) | (simp; omega)))))).mono ?_); rintro e w6 ⟨s6, A6, l6, c6, rfl, hB6, hl6, hb6⟩; have HB6 := Lib.hid hB6; clear hB6; obtain ⟨fc6, fg6, hc6, hf6, hz6⟩ := bget hb6; (try simp at hz6)) | (go_at_call 34; (with_reducible refine (C4.out s6 l6 A6 c6 _ (by omega) (HB6.out.keep (by (repeat' (first | (with_reducible exact Below.refl _ _) | (with_reducible assumption) | (with_reducible refine Below.alloc ?_ ?_ _) | (with_reducible refine Below.setCell ?_ ?_ _) | (with_reducible refine Below.drew ?_) | (with_reducible refine below_drewN ?_ _) | (with_reducible refine below_via ?_ (by with_reducible assumption) ?_) | omega | (simp; done) | (simp; omega)))))).mono ?_); rintro e w7 ⟨rfl, hb7⟩; obtain ⟨fc7, fg7, hc7, hf7, hz7⟩ := bget hb7; (try simp at hz7)) | (go_at_call 35; (with_reducible refine (C5.out s5 l5 A5 c5 _ (by omega) (HB5.out.keep (by (repeat' (first | (with_reducible exact Below.refl _ _) | (with_reducible assumption) | (with_reducible refine Below.alloc ?_ ?_ _) | (with_reducible refine Below.setCell ?_ ?_ _) | (with_reducible refine Below.drew ?_) | (with_reducible refine below_drewN ?_ _) | (with_reducible refine below_via ?_ (by with_reducible assumption) ?_) | omega | (simp; done) | (simp; omega)))))).mono ?_); rintro e w8 ⟨s8, A8, l8, c8, rfl, hB8, hl8, hb8⟩; have HB8 := Lib.hid hB8; clear hB8; obtain ⟨fc8, fg8, hc8, hf8, hz8⟩ := bget hb8; (try simp at hz8)) | (go_at_call 34; (with_reducible refine (C6.out s8 l8 A8 c8 _ (by omega) (HB8.out.keep (by (repeat' (first | (with_reducible exact Below.refl _ _) | (with_reducible assumption) | (with_reducible refine Below.alloc ?_ ?_ _) | (with_reducible refine Below.setCell ?_ ?_ _) | (with_reducible refine Below.drew ?_) | (with_reducible refine below_drewN ?_ _) | (with_reducible refine below_via ?_ (by with_reducible assumption) ?_) | omega | (simp; done) | (simp; omega)))))).mono ?_); rintro e w9 ⟨rfl, hb9⟩; obtain ⟨fc9, fg9, hc9, hf9, hz9⟩ := bget hb9; (try simp at hz9)) | (go_at_call 30; (with_reducible refine (law02lives _).mono ?_); rintro e w10 ⟨rfl, hb10⟩; obtain ⟨fc10, fg10, hc10, hf10, hz10⟩ := bget hb10; (try simp at hz10)) | fail)
  go_ret
  exact ⟨rfl, by (repeat' (first | (with_reducible exact Below.refl _ _) | (with_reducible assumption) | (with_reducible refine Below.alloc ?_ ?_ _) | (with_reducible refine Below.setCell ?_ ?_ _) | (with_reducible refine Below.drew ?_) | (with_reducible refine below_drewN ?_ _) | (with_reducible refine below_via ?_ (by with_reducible assumption) ?_) | omega | (simp; done) | (simp; omega)))⟩
theorem fixScales (a n d : Int) (w : World) (ha : In64 a) (hn : In64 n) (hd : In64 d) : Calls Try.prog 7 #[.int .i64 a, .int .i64 n, .int .i64 d] w fun e w' => e = .returned (.bool true) ∧ Below w.heap.size w w' := by
  rcases Int.lt_trichotomy d 0 with h | h | h
  · exact fixScalesNeg a n d w ha hn h
  · subst h; exact fixScalesZero a n w ha hn
  · by_cases hp : In64 (a * n / d)
    · exact fixScalesYes a n d w ha hn h hd.2 hp
    · exact fixScalesNo a n d w ha hn h hd.2 hp
end Go.Proofs.Ytjolddbfkcbnpaa
