/- Layer 12's laws: AssetSplits' walk. -/
import Derived.Test.YtpjehhkmdndcmaaAssetL2
namespace Go.Proofs.Ytpjehhkmdndcmaa
open Go.RowKit
set_option maxRecDepth 100000 in
set_option maxHeartbeats 8000000 in
theorem assetSplits1 (x : Asset) (a b : Int) (w : World) (h : a < 0) :
    Calls Try.prog 8 #[.agg #[.int .i64 x.id, .int .i64 x.price, .int .i64 x.hair], .int .i64 a, .int .i64 b] w fun e w' => e = .returned (.bool true) ∧ Below w.heap.size w w' := by
  have g1 : decide (a < 0) = true := (by simpa using h)
  go_enter Try.func8, Try.ntmps8
  go_wp2_with (first | (go_at_call 29; (with_reducible refine (law12lives _).mono ?_); rintro e w5 ⟨rfl, hb5⟩; obtain ⟨fc5, fg5, hc5, hf5, hz5⟩ := bget hb5; (try simp at hz5)) | fail)
  all_goals
    go_ret
    exact ⟨rfl, by (repeat' (first | (with_reducible exact Below.refl _ _) | (with_reducible assumption) | (with_reducible refine Below.alloc ?_ ?_ _) | (with_reducible refine Below.setCell ?_ ?_ _) | (with_reducible refine Below.drew ?_) | (with_reducible refine below_drewN ?_ _) | (with_reducible refine below_via ?_ (by with_reducible assumption) ?_) | omega | (simp; done) | (simp; omega)))⟩
set_option maxRecDepth 100000 in
set_option maxHeartbeats 8000000 in
theorem assetSplits2 (x : Asset) (a b : Int) (w : World) (h : ¬ a < 0) (h2 : b < 0) :
    Calls Try.prog 8 #[.agg #[.int .i64 x.id, .int .i64 x.price, .int .i64 x.hair], .int .i64 a, .int .i64 b] w fun e w' => e = .returned (.bool true) ∧ Below w.heap.size w w' := by
  have g1 : decide (a < 0) = false := (by simpa using h)
  have g2 : decide (b < 0) = true := (by simpa using h2)
  go_enter Try.func8, Try.ntmps8
  go_wp2_with (first | (go_at_call 29; (with_reducible refine (law12lives _).mono ?_); rintro e w5 ⟨rfl, hb5⟩; obtain ⟨fc5, fg5, hc5, hf5, hz5⟩ := bget hb5; (try simp at hz5)) | fail)
  all_goals
    go_ret
    exact ⟨rfl, by (repeat' (first | (with_reducible exact Below.refl _ _) | (with_reducible assumption) | (with_reducible refine Below.alloc ?_ ?_ _) | (with_reducible refine Below.setCell ?_ ?_ _) | (with_reducible refine Below.drew ?_) | (with_reducible refine below_drewN ?_ _) | (with_reducible refine below_via ?_ (by with_reducible assumption) ?_) | omega | (simp; done) | (simp; omega)))⟩
set_option maxRecDepth 100000 in
set_option maxHeartbeats 8000000 in
theorem assetSplits3 (x : Asset) (a b : Int) (w : World) (h : ¬ a < 0) (h2 : ¬ b < 0) (h3 : 2305843009213693952 < a) :
    Calls Try.prog 8 #[.agg #[.int .i64 x.id, .int .i64 x.price, .int .i64 x.hair], .int .i64 a, .int .i64 b] w fun e w' => e = .returned (.bool true) ∧ Below w.heap.size w w' := by
  have g1 : decide (a < 0) = false := (by simpa using h)
  have g2 : decide (b < 0) = false := (by simpa using h2)
  have g3 : decide (2305843009213693952 < a) = true := (by simpa using h3)
  go_enter Try.func8, Try.ntmps8
  go_wp2_with (first | (go_at_call 29; (with_reducible refine (law12lives _).mono ?_); rintro e w5 ⟨rfl, hb5⟩; obtain ⟨fc5, fg5, hc5, hf5, hz5⟩ := bget hb5; (try simp at hz5)) | fail)
  all_goals
    go_ret
    exact ⟨rfl, by (repeat' (first | (with_reducible exact Below.refl _ _) | (with_reducible assumption) | (with_reducible refine Below.alloc ?_ ?_ _) | (with_reducible refine Below.setCell ?_ ?_ _) | (with_reducible refine Below.drew ?_) | (with_reducible refine below_drewN ?_ _) | (with_reducible refine below_via ?_ (by with_reducible assumption) ?_) | omega | (simp; done) | (simp; omega)))⟩
set_option maxRecDepth 100000 in
set_option maxHeartbeats 8000000 in
theorem assetSplits4 (x : Asset) (a b : Int) (w : World) (h : ¬ a < 0) (h2 : ¬ b < 0) (h3 : ¬ 2305843009213693952 < a) (h4 : 2305843009213693952 < b) :
    Calls Try.prog 8 #[.agg #[.int .i64 x.id, .int .i64 x.price, .int .i64 x.hair], .int .i64 a, .int .i64 b] w fun e w' => e = .returned (.bool true) ∧ Below w.heap.size w w' := by
  have g1 : decide (a < 0) = false := (by simpa using h)
  have g2 : decide (b < 0) = false := (by simpa using h2)
  have g3 : decide (2305843009213693952 < a) = false := (by simpa using h3)
  have g4 : decide (2305843009213693952 < b) = true := (by simpa using h4)
  go_enter Try.func8, Try.ntmps8
  go_wp2_with (first | (go_at_call 29; (with_reducible refine (law12lives _).mono ?_); rintro e w5 ⟨rfl, hb5⟩; obtain ⟨fc5, fg5, hc5, hf5, hz5⟩ := bget hb5; (try simp at hz5)) | fail)
  all_goals
    go_ret
    exact ⟨rfl, by (repeat' (first | (with_reducible exact Below.refl _ _) | (with_reducible assumption) | (with_reducible refine Below.alloc ?_ ?_ _) | (with_reducible refine Below.setCell ?_ ?_ _) | (with_reducible refine Below.drew ?_) | (with_reducible refine below_drewN ?_ _) | (with_reducible refine below_via ?_ (by with_reducible assumption) ?_) | omega | (simp; done) | (simp; omega)))⟩
set_option maxRecDepth 100000 in
set_option maxHeartbeats 8000000 in
theorem assetSplits5 (x : Asset) (a b n ne m me t te : Int) (w : World) (h : ¬ a < 0) (h2 : ¬ b < 0) (h3 : ¬ 2305843009213693952 < a) (h4 : ¬ 2305843009213693952 < b)
    (c1 : ∀ W, Calls Try.prog 26 #[.agg #[.int .i64 x.id, .int .i64 x.price, .int .i64 x.hair], .int .i64 a] W fun e w' => e = .returned (.tuple #[.int .i64 n, .int .i64 ne]) ∧ Below W.heap.size W w')
    (c2 : ∀ W, Calls Try.prog 26 #[.agg #[.int .i64 x.id, .int .i64 x.price, .int .i64 x.hair], .int .i64 b] W fun e w' => e = .returned (.tuple #[.int .i64 m, .int .i64 me]) ∧ Below W.heap.size W w')
    (c3 : ∀ W, Calls Try.prog 26 #[.agg #[.int .i64 x.id, .int .i64 x.price, .int .i64 x.hair], .int .i64 (a + b)] W fun e w' => e = .returned (.tuple #[.int .i64 t, .int .i64 te]) ∧ Below W.heap.size W w')
    (hf : te ≠ 0) (ht : t = 0) :
    Calls Try.prog 8 #[.agg #[.int .i64 x.id, .int .i64 x.price, .int .i64 x.hair], .int .i64 a, .int .i64 b] w fun e w' => e = .returned (.bool true) ∧ Below w.heap.size w w' := by
  have g1 : decide (a < 0) = false := (by simpa using h)
  have g2 : decide (b < 0) = false := (by simpa using h2)
  have g3 : decide (2305843009213693952 < a) = false := (by simpa using h3)
  have g4 : decide (2305843009213693952 < b) = false := (by simpa using h4)
  subst ht
  have g5 := (eqF hf).1
  have g6 := (eqF hf).2
  have C1 := Lib.hid c1
  have C2 := Lib.hid c2
  have C3 := Lib.hid c3
  clear c1 c2 c3
  go_enter Try.func8, Try.ntmps8
  go_wp2_with (first | (go_at_call 26; (with_reducible refine (C1.out _).mono ?_); rintro e w1 ⟨rfl, hb1⟩; obtain ⟨fc1, fg1, hc1, hf1, hz1⟩ := bget hb1; (try simp at hz1)) | (go_at_call 26; (with_reducible refine (C2.out _).mono ?_); rintro e w2 ⟨rfl, hb2⟩; obtain ⟨fc2, fg2, hc2, hf2, hz2⟩ := bget hb2; (try simp at hz2)) | (go_at_call 26; (with_reducible refine (C3.out _).mono ?_); rintro e w3 ⟨rfl, hb3⟩; obtain ⟨fc3, fg3, hc3, hf3, hz3⟩ := bget hb3; (try simp at hz3)) | (go_at_call 29; (with_reducible refine (law12lives _).mono ?_); rintro e w5 ⟨rfl, hb5⟩; obtain ⟨fc5, fg5, hc5, hf5, hz5⟩ := bget hb5; (try simp at hz5)) | fail)
  all_goals
    go_ret
    exact ⟨rfl, by (repeat' (first | (with_reducible exact Below.refl _ _) | (with_reducible assumption) | (with_reducible refine Below.alloc ?_ ?_ _) | (with_reducible refine Below.setCell ?_ ?_ _) | (with_reducible refine Below.drew ?_) | (with_reducible refine below_drewN ?_ _) | (with_reducible refine below_via ?_ (by with_reducible assumption) ?_) | omega | (simp; done) | (simp; omega)))⟩
set_option maxRecDepth 100000 in
set_option maxHeartbeats 8000000 in
theorem assetSplits6 (x : Asset) (a b n ne m me t te : Int) (w : World) (h : ¬ a < 0) (h2 : ¬ b < 0) (h3 : ¬ 2305843009213693952 < a) (h4 : ¬ 2305843009213693952 < b)
    (c1 : ∀ W, Calls Try.prog 26 #[.agg #[.int .i64 x.id, .int .i64 x.price, .int .i64 x.hair], .int .i64 a] W fun e w' => e = .returned (.tuple #[.int .i64 n, .int .i64 ne]) ∧ Below W.heap.size W w')
    (c2 : ∀ W, Calls Try.prog 26 #[.agg #[.int .i64 x.id, .int .i64 x.price, .int .i64 x.hair], .int .i64 b] W fun e w' => e = .returned (.tuple #[.int .i64 m, .int .i64 me]) ∧ Below W.heap.size W w')
    (c3 : ∀ W, Calls Try.prog 26 #[.agg #[.int .i64 x.id, .int .i64 x.price, .int .i64 x.hair], .int .i64 (a + b)] W fun e w' => e = .returned (.tuple #[.int .i64 t, .int .i64 te]) ∧ Below W.heap.size W w')
    (hf : te = 0) (hn : ne = 0) (hm : me = 0) (h5 : 0 ≤ n) (h6 : 0 ≤ m) (h7 : n + m ≤ t) (h8 : t - n - m ≤ 1) (ht : t ≤ 9223372036854775807) :
    Calls Try.prog 8 #[.agg #[.int .i64 x.id, .int .i64 x.price, .int .i64 x.hair], .int .i64 a, .int .i64 b] w fun e w' => e = .returned (.bool true) ∧ Below w.heap.size w w' := by
  have g1 : decide (a < 0) = false := (by simpa using h)
  have g2 : decide (b < 0) = false := (by simpa using h2)
  have g3 : decide (2305843009213693952 < a) = false := (by simpa using h3)
  have g4 : decide (2305843009213693952 < b) = false := (by simpa using h4)
  subst hf hn hm
  have g5 : decide (n + m ≤ t) = true := (by simpa using h7)
  have g6 : decide (t - n - m ≤ 1) = true := (by simpa using h8)
  have C1 := Lib.hid c1
  have C2 := Lib.hid c2
  have C3 := Lib.hid c3
  clear c1 c2 c3
  go_enter Try.func8, Try.ntmps8
  go_wp2_with (first | (go_at_call 26; (with_reducible refine (C1.out _).mono ?_); rintro e w1 ⟨rfl, hb1⟩; obtain ⟨fc1, fg1, hc1, hf1, hz1⟩ := bget hb1; (try simp at hz1)) | (go_at_call 26; (with_reducible refine (C2.out _).mono ?_); rintro e w2 ⟨rfl, hb2⟩; obtain ⟨fc2, fg2, hc2, hf2, hz2⟩ := bget hb2; (try simp at hz2)) | (go_at_call 26; (with_reducible refine (C3.out _).mono ?_); rintro e w3 ⟨rfl, hb3⟩; obtain ⟨fc3, fg3, hc3, hf3, hz3⟩ := bget hb3; (try simp at hz3)) | (go_at_call 29; (with_reducible refine (law12lives _).mono ?_); rintro e w5 ⟨rfl, hb5⟩; obtain ⟨fc5, fg5, hc5, hf5, hz5⟩ := bget hb5; (try simp at hz5)) | fail)
  all_goals
    go_ret
    exact ⟨rfl, by (repeat' (first | (with_reducible exact Below.refl _ _) | (with_reducible assumption) | (with_reducible refine Below.alloc ?_ ?_ _) | (with_reducible refine Below.setCell ?_ ?_ _) | (with_reducible refine Below.drew ?_) | (with_reducible refine below_drewN ?_ _) | (with_reducible refine below_via ?_ (by with_reducible assumption) ?_) | omega | (simp; done) | (simp; omega)))⟩
theorem count_no {x : Asset} {q : Int} (h : countE x q ≠ 0) : countN x q = 0 := by
  unfold countN
  rw [if_neg]
  rintro ⟨h1, h2, h3⟩
  apply h
  unfold countE okE
  rw [if_pos h1, if_neg (by omega), h3]
  rfl
theorem count_fits {x : Asset} {q r : Int} (hr : countE x r = 0) (hq0 : 0 ≤ q) (hqr : q ≤ r) : countE x q = 0 := by
  obtain ⟨_, _, _, _, hk⟩ := count_form hr
  have hr' := hr
  unfold countE at hr
  rw [if_pos hk, if_neg (by omega)] at hr
  have h64 : In64 (r * x.price) := by
    cases e : in64 (r * x.price) with
    | true => exact in64_iff.1 e
    | false => unfold okE at hr; rw [e] at hr; simp at hr
  have hp := hk.2.2.1
  have h1 : q * x.price ≤ r * x.price := Int.mul_le_mul_of_nonneg_right hqr hp
  have h2 : 0 ≤ q * x.price := Int.mul_nonneg hq0 hp
  unfold countE
  rw [if_pos hk, if_neg (by omega)]
  exact (okN_yes (by unfold In64 at *; omega)).2
theorem count_in {x : Asset} {q : Int} : In64 (countN x q) := by
  unfold countN
  split
  · rename_i h
    have := count_le h.1 h.2.1
    have h6 := in64_iff.1 h.2.2
    unfold In64 at *; omega
  · unfold In64; omega
theorem assetSplits (x : Asset) (a b : Int) (w : World) (ha : In64 a) (hb : In64 b) :
    Calls Try.prog 8 #[.agg #[.int .i64 x.id, .int .i64 x.price, .int .i64 x.hair], .int .i64 a, .int .i64 b] w fun e w' => e = .returned (.bool true) ∧ Below w.heap.size w w' := by
  by_cases h : a < 0
  · exact assetSplits1 x a b w h
  by_cases h2 : b < 0
  · exact assetSplits2 x a b w h h2
  by_cases h3 : 2305843009213693952 < a
  · exact assetSplits3 x a b w h h2 h3
  by_cases h4 : 2305843009213693952 < b
  · exact assetSplits4 x a b w h h2 h3 h4
  have c1 := fun W => assetCount x a W ha
  have c2 := fun W => assetCount x b W hb
  have c3 := fun W => assetCount x (a + b) W (by unfold In64; omega)
  by_cases hf : countE x (a + b) = 0
  · have ea := count_fits hf (show 0 ≤ a by omega) (by omega)
    have eb := count_fits hf (show 0 ≤ b by omega) (by omega)
    have fa := count_form ea
    have fb := count_form eb
    have ft := count_form hf
    have hp := count_parts x a b
    have hi := count_in (x := x) (q := a + b)
    rw [← fa.2.2.2.1, ← fb.2.2.2.1, ← ft.2.2.2.1] at hp
    exact assetSplits6 x a b _ _ _ _ _ _ w h h2 h3 h4 c1 c2 c3 hf ea eb fa.2.1 fb.2.1 hp.1 hp.2 hi.2
  · exact assetSplits5 x a b _ _ _ _ _ _ w h h2 h3 h4 c1 c2 c3 hf (count_no hf)
end Go.Proofs.Ytpjehhkmdndcmaa
