/- The contract of wide.Times. -/
import Derived.Test.YtpjehhkmdndcmaaWide3
import Derived.Test.YtpjehhkmdndcmaaWide7
namespace Go.Proofs.Ytpjehhkmdndcmaa
open Go.RowKit
attribute [local go_sem] fieldSizeLo
set_option maxRecDepth 100000 in
set_option maxHeartbeats 8000000 in
theorem wideTimesYes (n k : Int) (w : World) (hn : In128 n) (hk : In64 k) (hr : In128 (n * k)) :
    Calls Try.prog 61 #[(.agg #[.int .i64 (whi (n)), .int .u64 (wlo (n))]), .int .i64 k] w fun e w' => e = .returned (.tuple #[(.agg #[.int .i64 (whi (n * k)), .int .u64 (wlo (n * k))]), .int .i64 0]) ∧ Below w.heap.size w w' := by
  have a128 := in128_of64 hk
  have ea := wlo_abs64 hk
  have hx : 0 ≤ iabs n ∧ iabs n ≤ 170141183460469231731687303715884105728 := (by unfold In128 at hn; unfold iabs; split <;> omega)
  have hy : 0 ≤ iabs k ∧ iabs k ≤ 9223372036854775808 := (by unfold In64 at hk; unfold iabs; split <;> omega)
  have T := times_words (iabs n) (iabs k) hx hy
  have hw := wlo_u (iabs n)
  have hh : 0 ≤ whi (iabs n) ∧ whi (iabs n) ≤ 18446744073709551615 := (by unfold whi; omega)
  have hp := iabs_mul n k
  have hsm := sgn_mul n k
  obtain ⟨over, hover⟩ : ∃ over, over = whi (whi (iabs n) * iabs k) := ⟨_, rfl⟩
  obtain ⟨high, hhigh⟩ : ∃ high, high = wlo (whi (iabs n) * iabs k) := ⟨_, rfl⟩
  obtain ⟨carried, hcarried⟩ : ∃ carried, carried = whi (wlo (iabs n) * iabs k) := ⟨_, rfl⟩
  obtain ⟨lo, hlo⟩ : ∃ lo, lo = wlo (wlo (iabs n) * iabs k) := ⟨_, rfl⟩
  have c3 := fun W => mul64 (whi (iabs n)) (iabs k) W hh.1 hh.2 hy.1 (by omega)
  have c4 := fun W => mul64 (wlo (iabs n)) (iabs k) W hw.1 hw.2 hy.1 (by omega)
  have b1 : 0 ≤ high ∧ high ≤ 18446744073709551615 := (by rw [hhigh]; exact wlo_u _)
  have b2 : 0 ≤ carried ∧ carried ≤ 18446744073709551615 := (by
    rw [hcarried]
    have m2 : 0 ≤ wlo (iabs n) * iabs k := Int.mul_nonneg hw.1 hy.1
    have m3 : wlo (iabs n) * iabs k ≤ 18446744073709551615 * 9223372036854775808 := Int.mul_le_mul hw.2 hy.2 hy.1 (by omega)
    unfold whi; omega)
  simp only at T
  rw [← hover, ← hhigh] at c3
  rw [← hcarried, ← hlo] at c4
  rw [← hover, ← hhigh, ← hcarried, ← hlo] at T
  have e1 := add64 high carried 0 b1.1 b2.1 (by omega) (by omega)
  simp only [Int.add_zero] at e1
  obtain ⟨hi, hhi⟩ : ∃ hi, hi = wlo (high + carried) := ⟨_, rfl⟩
  obtain ⟨carry, hcarry⟩ : ∃ carry, carry = whi (high + carried) := ⟨_, rfl⟩
  rw [← hhi, ← hcarry] at e1 T
  rw [hp] at T hsm
  have b3 : 0 ≤ hi ∧ hi ≤ 18446744073709551615 := (by rw [hhi]; exact wlo_u _)
  have b4 : 0 ≤ lo ∧ lo ≤ 18446744073709551615 := (by rw [hlo]; exact wlo_u _)
  have c1 := fun W => wideSize n W hn
  have c2 := fun W => wideOf k W hk
  have c5 := fun W => wideSize k W a128
  have c6 := fun W => wideBelow n W hn
  have C1 := Lib.hid c1
  have C2 := Lib.hid c2
  have C3 := Lib.hid c3
  have C4 := Lib.hid c4
  have C5 := Lib.hid c5
  have C6 := Lib.hid c6
  have EA := Lib.hid ea
  have HSM := Lib.hid hsm
  clear c1 c2 c3 c4 c5 c6 ea hsm hover hhigh hcarried hlo hhi hcarry hp
  have hP : 0 ≤ iabs (n * k) ∧ iabs (n * k) < 340282366920938463463374607431768211456 := by unfold In128 at hr; unfold iabs; split <;> omega
  have hz : over = 0 ∧ carry = 0 := Decidable.byContradiction fun h => by have := T.2 h; omega
  have ht := T.1 hz
  obtain ⟨rfl, rfl⟩ := hz
  obtain ⟨rfl, rfl, _⟩ := ht
  have c7 := fun W => wideSigned (!(decide (n < 0) == decide (k < 0))) (iabs (n * k)) W hP.1 hP.2
  rw [show sgn (!(decide (n < 0) == decide (k < 0))) (iabs (n * k)) = n * k from HSM.out, wrap128_in hr, in128_true hr] at c7
  have C7 := Lib.hid c7
  clear c7 T HSM
  go_enter Try.func61, Try.ntmps61
  go_wp2_with (first | (go_at_call 91; (with_reducible refine (C1.out _).mono ?_); rintro e w1 ⟨rfl, hb1⟩; obtain ⟨fc1, fg1, hc1, hf1, hz1⟩ := bget hb1; (try simp at hz1)) | (go_at_call 89; (with_reducible refine (C2.out _).mono ?_); rintro e w2 ⟨rfl, hb2⟩; obtain ⟨fc2, fg2, hc2, hf2, hz2⟩ := bget hb2; (try simp at hz2)) | (go_at_call 91; (with_reducible refine (C5.out _).mono ?_); rintro e w3 ⟨rfl, hb3⟩; rw [EA.out]; obtain ⟨fc3, fg3, hc3, hf3, hz3⟩ := bget hb3; (try simp at hz3)) | (go_at_call 90; (with_reducible refine (C3.out _).mono ?_); rintro e w4 ⟨rfl, rfl⟩) | (go_at_call 90; (with_reducible refine (C4.out _).mono ?_); rintro e w5 ⟨rfl, rfl⟩) | (go_at_call 93; (with_reducible refine (C6.out _).mono ?_); rintro e w6 ⟨rfl, hb6⟩; obtain ⟨fc6, fg6, hc6, hf6, hz6⟩ := bget hb6; (try simp at hz6)) | (go_at_call 92; (with_reducible refine (C7.out _).mono ?_); rintro e w7 ⟨rfl, hb7⟩; obtain ⟨fc7, fg7, hc7, hf7, hz7⟩ := bget hb7; (try simp at hz7)) | (go_at_call 95; (with_reducible refine (wideRangedYes (n * k) _).mono ?_); rintro e w8 ⟨rfl, hb8⟩; obtain ⟨fc8, fg8, hc8, hf8, hz8⟩ := bget hb8; (try simp at hz8)) | fail)
  refine bodyPost_ret (by simp [results, Try.results61, go_sem, ↓IntWalk.iteOmega, hc1, hc2, hc3, hc6, hc7, hc8]; try rfl) rfl ⟨rfl, ?_⟩
  (repeat' (first | (with_reducible exact Below.refl _ _) | (with_reducible assumption) | (with_reducible refine Below.alloc ?_ ?_ _) | (with_reducible refine Below.setCell ?_ ?_ _) | (with_reducible refine Below.drew ?_) | (with_reducible refine below_drewN ?_ _) | (with_reducible refine below_via ?_ (by with_reducible assumption) ?_) | omega | (simp; done) | (simp; omega)))
set_option maxRecDepth 100000 in
set_option maxHeartbeats 8000000 in
theorem wideTimesNoA (n k : Int) (w : World) (hn : In128 n) (hk : In64 k) (hr : ¬ In128 (n * k)) (hlt : iabs (n * k) < 340282366920938463463374607431768211456) :
    Calls Try.prog 61 #[(.agg #[.int .i64 (whi (n)), .int .u64 (wlo (n))]), .int .i64 k] w fun e w' => e = .returned (.tuple #[.agg #[.int .i64 0, .int .u64 0], .int .i64 7]) ∧ Below w.heap.size w w' := by
  have a128 := in128_of64 hk
  have ea := wlo_abs64 hk
  have hx : 0 ≤ iabs n ∧ iabs n ≤ 170141183460469231731687303715884105728 := (by unfold In128 at hn; unfold iabs; split <;> omega)
  have hy : 0 ≤ iabs k ∧ iabs k ≤ 9223372036854775808 := (by unfold In64 at hk; unfold iabs; split <;> omega)
  have T := times_words (iabs n) (iabs k) hx hy
  have hw := wlo_u (iabs n)
  have hh : 0 ≤ whi (iabs n) ∧ whi (iabs n) ≤ 18446744073709551615 := (by unfold whi; omega)
  have hp := iabs_mul n k
  have hsm := sgn_mul n k
  obtain ⟨over, hover⟩ : ∃ over, over = whi (whi (iabs n) * iabs k) := ⟨_, rfl⟩
  obtain ⟨high, hhigh⟩ : ∃ high, high = wlo (whi (iabs n) * iabs k) := ⟨_, rfl⟩
  obtain ⟨carried, hcarried⟩ : ∃ carried, carried = whi (wlo (iabs n) * iabs k) := ⟨_, rfl⟩
  obtain ⟨lo, hlo⟩ : ∃ lo, lo = wlo (wlo (iabs n) * iabs k) := ⟨_, rfl⟩
  have c3 := fun W => mul64 (whi (iabs n)) (iabs k) W hh.1 hh.2 hy.1 (by omega)
  have c4 := fun W => mul64 (wlo (iabs n)) (iabs k) W hw.1 hw.2 hy.1 (by omega)
  have b1 : 0 ≤ high ∧ high ≤ 18446744073709551615 := (by rw [hhigh]; exact wlo_u _)
  have b2 : 0 ≤ carried ∧ carried ≤ 18446744073709551615 := (by
    rw [hcarried]
    have m2 : 0 ≤ wlo (iabs n) * iabs k := Int.mul_nonneg hw.1 hy.1
    have m3 : wlo (iabs n) * iabs k ≤ 18446744073709551615 * 9223372036854775808 := Int.mul_le_mul hw.2 hy.2 hy.1 (by omega)
    unfold whi; omega)
  simp only at T
  rw [← hover, ← hhigh] at c3
  rw [← hcarried, ← hlo] at c4
  rw [← hover, ← hhigh, ← hcarried, ← hlo] at T
  have e1 := add64 high carried 0 b1.1 b2.1 (by omega) (by omega)
  simp only [Int.add_zero] at e1
  obtain ⟨hi, hhi⟩ : ∃ hi, hi = wlo (high + carried) := ⟨_, rfl⟩
  obtain ⟨carry, hcarry⟩ : ∃ carry, carry = whi (high + carried) := ⟨_, rfl⟩
  rw [← hhi, ← hcarry] at e1 T
  rw [hp] at T hsm
  have b3 : 0 ≤ hi ∧ hi ≤ 18446744073709551615 := (by rw [hhi]; exact wlo_u _)
  have b4 : 0 ≤ lo ∧ lo ≤ 18446744073709551615 := (by rw [hlo]; exact wlo_u _)
  have c1 := fun W => wideSize n W hn
  have c2 := fun W => wideOf k W hk
  have c5 := fun W => wideSize k W a128
  have c6 := fun W => wideBelow n W hn
  have C1 := Lib.hid c1
  have C2 := Lib.hid c2
  have C3 := Lib.hid c3
  have C4 := Lib.hid c4
  have C5 := Lib.hid c5
  have C6 := Lib.hid c6
  have EA := Lib.hid ea
  have HSM := Lib.hid hsm
  clear c1 c2 c3 c4 c5 c6 ea hsm hover hhigh hcarried hlo hhi hcarry hp
  have hP : 0 ≤ iabs (n * k) := by unfold iabs; split <;> omega
  have hz : over = 0 ∧ carry = 0 := Decidable.byContradiction fun h => by have := T.2 h; omega
  have ht := T.1 hz
  obtain ⟨rfl, rfl⟩ := hz
  obtain ⟨rfl, rfl, _⟩ := ht
  have c7 := fun W => wideSigned (!(decide (n < 0) == decide (k < 0))) (iabs (n * k)) W hP hlt
  rw [show sgn (!(decide (n < 0) == decide (k < 0))) (iabs (n * k)) = n * k from HSM.out, in128_false hr] at c7
  generalize wrap128 (n * k) = r at c7
  have C7 := Lib.hid c7
  clear c7 T HSM hr hlt
  go_enter Try.func61, Try.ntmps61
  go_wp2_with (first | (go_at_call 91; (with_reducible refine (C1.out _).mono ?_); rintro e w1 ⟨rfl, hb1⟩; obtain ⟨fc1, fg1, hc1, hf1, hz1⟩ := bget hb1; (try simp at hz1)) | (go_at_call 89; (with_reducible refine (C2.out _).mono ?_); rintro e w2 ⟨rfl, hb2⟩; obtain ⟨fc2, fg2, hc2, hf2, hz2⟩ := bget hb2; (try simp at hz2)) | (go_at_call 91; (with_reducible refine (C5.out _).mono ?_); rintro e w3 ⟨rfl, hb3⟩; rw [EA.out]; obtain ⟨fc3, fg3, hc3, hf3, hz3⟩ := bget hb3; (try simp at hz3)) | (go_at_call 90; (with_reducible refine (C3.out _).mono ?_); rintro e w4 ⟨rfl, rfl⟩) | (go_at_call 90; (with_reducible refine (C4.out _).mono ?_); rintro e w5 ⟨rfl, rfl⟩) | (go_at_call 93; (with_reducible refine (C6.out _).mono ?_); rintro e w6 ⟨rfl, hb6⟩; obtain ⟨fc6, fg6, hc6, hf6, hz6⟩ := bget hb6; (try simp at hz6)) | (go_at_call 92; (with_reducible refine (C7.out _).mono ?_); rintro e w7 ⟨rfl, hb7⟩; obtain ⟨fc7, fg7, hc7, hf7, hz7⟩ := bget hb7; (try simp at hz7)) | (go_at_call 95; (with_reducible refine (wideRangedNo _ _ _).mono ?_); rintro e w8 ⟨rfl, hb8⟩; obtain ⟨fc8, fg8, hc8, hf8, hz8⟩ := bget hb8; (try simp at hz8)) | fail)
  refine bodyPost_ret (by simp [results, Try.results61, go_sem, ↓IntWalk.iteOmega, hc1, hc2, hc3, hc6, hc7, hc8]; try rfl) rfl ⟨rfl, ?_⟩
  (repeat' (first | (with_reducible exact Below.refl _ _) | (with_reducible assumption) | (with_reducible refine Below.alloc ?_ ?_ _) | (with_reducible refine Below.setCell ?_ ?_ _) | (with_reducible refine Below.drew ?_) | (with_reducible refine below_drewN ?_ _) | (with_reducible refine below_via ?_ (by with_reducible assumption) ?_) | omega | (simp; done) | (simp; omega)))
set_option maxRecDepth 100000 in
set_option maxHeartbeats 8000000 in
theorem wideTimesNoB (n k : Int) (w : World) (hn : In128 n) (hk : In64 k)  (hge : 340282366920938463463374607431768211456 ≤ iabs (n * k)) :
    Calls Try.prog 61 #[(.agg #[.int .i64 (whi (n)), .int .u64 (wlo (n))]), .int .i64 k] w fun e w' => e = .returned (.tuple #[.agg #[.int .i64 0, .int .u64 0], .int .i64 7]) ∧ Below w.heap.size w w' := by
  have a128 := in128_of64 hk
  have ea := wlo_abs64 hk
  have hx : 0 ≤ iabs n ∧ iabs n ≤ 170141183460469231731687303715884105728 := (by unfold In128 at hn; unfold iabs; split <;> omega)
  have hy : 0 ≤ iabs k ∧ iabs k ≤ 9223372036854775808 := (by unfold In64 at hk; unfold iabs; split <;> omega)
  have T := times_words (iabs n) (iabs k) hx hy
  have hw := wlo_u (iabs n)
  have hh : 0 ≤ whi (iabs n) ∧ whi (iabs n) ≤ 18446744073709551615 := (by unfold whi; omega)
  have hp := iabs_mul n k
  have hsm := sgn_mul n k
  obtain ⟨over, hover⟩ : ∃ over, over = whi (whi (iabs n) * iabs k) := ⟨_, rfl⟩
  obtain ⟨high, hhigh⟩ : ∃ high, high = wlo (whi (iabs n) * iabs k) := ⟨_, rfl⟩
  obtain ⟨carried, hcarried⟩ : ∃ carried, carried = whi (wlo (iabs n) * iabs k) := ⟨_, rfl⟩
  obtain ⟨lo, hlo⟩ : ∃ lo, lo = wlo (wlo (iabs n) * iabs k) := ⟨_, rfl⟩
  have c3 := fun W => mul64 (whi (iabs n)) (iabs k) W hh.1 hh.2 hy.1 (by omega)
  have c4 := fun W => mul64 (wlo (iabs n)) (iabs k) W hw.1 hw.2 hy.1 (by omega)
  have b1 : 0 ≤ high ∧ high ≤ 18446744073709551615 := (by rw [hhigh]; exact wlo_u _)
  have b2 : 0 ≤ carried ∧ carried ≤ 18446744073709551615 := (by
    rw [hcarried]
    have m2 : 0 ≤ wlo (iabs n) * iabs k := Int.mul_nonneg hw.1 hy.1
    have m3 : wlo (iabs n) * iabs k ≤ 18446744073709551615 * 9223372036854775808 := Int.mul_le_mul hw.2 hy.2 hy.1 (by omega)
    unfold whi; omega)
  simp only at T
  rw [← hover, ← hhigh] at c3
  rw [← hcarried, ← hlo] at c4
  rw [← hover, ← hhigh, ← hcarried, ← hlo] at T
  have e1 := add64 high carried 0 b1.1 b2.1 (by omega) (by omega)
  simp only [Int.add_zero] at e1
  obtain ⟨hi, hhi⟩ : ∃ hi, hi = wlo (high + carried) := ⟨_, rfl⟩
  obtain ⟨carry, hcarry⟩ : ∃ carry, carry = whi (high + carried) := ⟨_, rfl⟩
  rw [← hhi, ← hcarry] at e1 T
  rw [hp] at T hsm
  have b3 : 0 ≤ hi ∧ hi ≤ 18446744073709551615 := (by rw [hhi]; exact wlo_u _)
  have b4 : 0 ≤ lo ∧ lo ≤ 18446744073709551615 := (by rw [hlo]; exact wlo_u _)
  have c1 := fun W => wideSize n W hn
  have c2 := fun W => wideOf k W hk
  have c5 := fun W => wideSize k W a128
  have c6 := fun W => wideBelow n W hn
  have C1 := Lib.hid c1
  have C2 := Lib.hid c2
  have C3 := Lib.hid c3
  have C4 := Lib.hid c4
  have C5 := Lib.hid c5
  have C6 := Lib.hid c6
  have EA := Lib.hid ea
  have HSM := Lib.hid hsm
  clear c1 c2 c3 c4 c5 c6 ea hsm hover hhigh hcarried hlo hhi hcarry hp
  have hz : ¬ (over = 0 ∧ carry = 0) := fun h => by have := (T.1 h).2.2; omega
  obtain ⟨m, hm⟩ : ∃ m, m = hi * 18446744073709551616 + lo := ⟨_, rfl⟩
  have hm1 : whi m = hi := by rw [hm]; unfold whi; omega
  have hm2 : wlo m = lo := by rw [hm]; unfold wlo; omega
  have c7 := fun W => wideSigned (!(decide (n < 0) == decide (k < 0))) m W (by omega) (by omega)
  rw [hm1, hm2] at c7
  generalize wrap128 (sgn (!(decide (n < 0) == decide (k < 0))) m) = r at c7
  generalize in128 (sgn (!(decide (n < 0) == decide (k < 0))) m) = ok at c7
  have C7 := Lib.hid c7
  clear c7 T HSM hge hm hm1 hm2
  have hzz : ((over == 0) = false) ∨ ((over == 0) = true ∧ (carry == 0) = false) := by
    by_cases h : over = 0
    · exact .inr ⟨by simpa using h, by simpa using fun h2 => hz ⟨h, h2⟩⟩
    · exact .inl (by simpa using h)
  clear hz
  rcases hzz with z1 | ⟨z1, z2⟩
  all_goals cases ok
  all_goals
    go_enter Try.func61, Try.ntmps61
    go_wp2_with (first | (go_at_call 91; (with_reducible refine (C1.out _).mono ?_); rintro e w1 ⟨rfl, hb1⟩; obtain ⟨fc1, fg1, hc1, hf1, hz1⟩ := bget hb1; (try simp at hz1)) | (go_at_call 89; (with_reducible refine (C2.out _).mono ?_); rintro e w2 ⟨rfl, hb2⟩; obtain ⟨fc2, fg2, hc2, hf2, hz2⟩ := bget hb2; (try simp at hz2)) | (go_at_call 91; (with_reducible refine (C5.out _).mono ?_); rintro e w3 ⟨rfl, hb3⟩; rw [EA.out]; obtain ⟨fc3, fg3, hc3, hf3, hz3⟩ := bget hb3; (try simp at hz3)) | (go_at_call 90; (with_reducible refine (C3.out _).mono ?_); rintro e w4 ⟨rfl, rfl⟩) | (go_at_call 90; (with_reducible refine (C4.out _).mono ?_); rintro e w5 ⟨rfl, rfl⟩) | (go_at_call 93; (with_reducible refine (C6.out _).mono ?_); rintro e w6 ⟨rfl, hb6⟩; obtain ⟨fc6, fg6, hc6, hf6, hz6⟩ := bget hb6; (try simp at hz6)) | (go_at_call 92; (with_reducible refine (C7.out _).mono ?_); rintro e w7 ⟨rfl, hb7⟩; obtain ⟨fc7, fg7, hc7, hf7, hz7⟩ := bget hb7; (try simp at hz7)) | (go_at_call 95; (with_reducible refine (wideRangedNo _ _ _).mono ?_); rintro e w8 ⟨rfl, hb8⟩; obtain ⟨fc8, fg8, hc8, hf8, hz8⟩ := bget hb8; (try simp at hz8)) | fail)
    refine bodyPost_ret (by simp [results, Try.results61, go_sem, ↓IntWalk.iteOmega, hc1, hc2, hc3, hc6, hc7, hc8]; try rfl) rfl ⟨rfl, ?_⟩
    (repeat' (first | (with_reducible exact Below.refl _ _) | (with_reducible assumption) | (with_reducible refine Below.alloc ?_ ?_ _) | (with_reducible refine Below.setCell ?_ ?_ _) | (with_reducible refine Below.drew ?_) | (with_reducible refine below_drewN ?_ _) | (with_reducible refine below_via ?_ (by with_reducible assumption) ?_) | omega | (simp; done) | (simp; omega)))
theorem wideTimesNo (n k : Int) (w : World) (hn : In128 n) (hk : In64 k) (hr : ¬ In128 (n * k)) :
    Calls Try.prog 61 #[(.agg #[.int .i64 (whi (n)), .int .u64 (wlo (n))]), .int .i64 k] w fun e w' => e = .returned (.tuple #[.agg #[.int .i64 0, .int .u64 0], .int .i64 7]) ∧ Below w.heap.size w w' := by
  by_cases h : iabs (n * k) < 340282366920938463463374607431768211456
  · exact wideTimesNoA n k w hn hk hr h
  · exact wideTimesNoB n k w hn hk (by omega)
end Go.Proofs.Ytpjehhkmdndcmaa
