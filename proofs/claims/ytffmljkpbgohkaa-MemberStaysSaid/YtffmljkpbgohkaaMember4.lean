/- The law MemberParts: its walk. -/
import Derived.Test.YtffmljkpbgohkaaMember3
namespace Go.Proofs.Ytffmljkpbgohkaa
open Go.RowKit
theorem lv1 (w : World) : Calls Try.prog 29 #[.slice none 0 0, .agg #[.int .i64 1, .int .i64 10, .int .i64 0, .int .i64 0]] w fun e w' => ∃ v, e = .returned (.tuple #[v, .int .i64 0]) ∧ Own w' w.heap.size 36 4 v [encM ⟨1, 10, 0, 0⟩] ∧ Below w.heap.size w w' := memPutNil ⟨1, 10, 0, 0⟩ w (by simp [okM])
theorem lv2 (w : World) : Calls Try.prog 22 #[.agg #[.int .i64 1, .int .i64 10, .int .i64 0, .int .i64 0], .int .i64 7, .int .i64 3] w fun e w' => e = .returned (.int .i64 0) ∧ Below w.heap.size w w' := memRoom 1 10 0 0 7 3 w (by unfold In64; omega) (by unfold In64; omega) (by unfold In64; omega)
theorem lv3 (w : World) : Calls Try.prog 22 #[.agg #[.int .i64 1, .int .i64 10, .int .i64 0, .int .i64 0], .int .i64 7, .int .i64 4] w fun e w' => e = .returned (.int .i64 16) ∧ Below w.heap.size w w' := memRoom 1 10 0 0 7 4 w (by unfold In64; omega) (by unfold In64; omega) (by unfold In64; omega)
theorem lv4 (w : World) : Calls Try.prog 24 #[.agg #[.int .i64 1, .int .i64 10, .int .i64 0, .int .i64 0]] w fun e w' => e = .returned (.int .i64 0) ∧ Below w.heap.size w w' := memMay 1 10 0 0 w
set_option maxRecDepth 100000 in
set_option maxHeartbeats 2000000 in
theorem memLives (w : World) : Calls Try.prog 25 #[] w fun e w' => e = .returned (.bool true) ∧ Below w.heap.size w w' := by
  go_enter Try.func25, Try.ntmps25
  go_wp2_with (first | (go_at_call 29; (with_reducible refine (lv1 _).mono ?_); rintro e w1 ⟨v, rfl, hown, hb1⟩; obtain ⟨A, c, rfl, _, _, _, _⟩ := hown.shape; clear hown; obtain ⟨fc1, fg1, hc1, hf1, hz1⟩ := bget hb1; simp at hz1; simp only [List.length_cons, List.length_nil, Nat.zero_add]) | (go_at_call 22; (with_reducible refine (lv2 _).mono ?_); rintro e w2 ⟨rfl, hb2⟩; obtain ⟨fc2, fg2, hc2, hf2, hz2⟩ := bget hb2; try simp at hz2) | (go_at_call 22; (with_reducible refine (lv3 _).mono ?_); rintro e w3 ⟨rfl, hb3⟩; obtain ⟨fc3, fg3, hc3, hf3, hz3⟩ := bget hb3; try simp at hz3) | (go_at_call 24; (with_reducible refine (lv4 _).mono ?_); rintro e w4 ⟨rfl, hb4⟩; obtain ⟨fc4, fg4, hc4, hf4, hz4⟩ := bget hb4; try simp at hz4))
  go_ret
  exact ⟨rfl, by (repeat' (first | (with_reducible exact Below.refl _ _) | (with_reducible assumption) | (with_reducible refine Below.alloc ?_ ?_ _) | (with_reducible refine Below.setCell ?_ ?_ _) | (with_reducible refine Below.drew ?_) | (with_reducible refine below_drewN ?_ _) | (with_reducible refine below_via ?_ (by with_reducible assumption) ?_) | omega | (simp; done) | (simp; omega)))⟩
set_option maxRecDepth 100000 in
set_option maxHeartbeats 4000000 in
theorem memParts_out (i cap p t used a b : Int) (w : World) (h : a < 0 ∨ b < 0 ∨ used < 0 ∨ 2305843009213693952 < a ∨ 2305843009213693952 < b ∨ 2305843009213693952 < used) :
    Calls Try.prog 5 #[.agg #[.int .i64 i, .int .i64 cap, .int .i64 p, .int .i64 t], .int .i64 used, .int .i64 a, .int .i64 b] w fun e w' => e = .returned (.bool true) ∧ Below w.heap.size w w' := by
  by_cases h1 : a < 0
  · have d1 : decide (a < 0) = true := by simpa using h1
    clear h
    go_enter Try.func5, Try.ntmps5
    go_wp2_with (go_at_call 25; (with_reducible refine (memLives _).mono ?_); rintro e w1 ⟨rfl, hb1⟩; obtain ⟨fc1, fg1, hc1, hf1, hz1⟩ := bget hb1; try simp at hz1)
    go_ret
    exact ⟨rfl, by (repeat' (first | (with_reducible exact Below.refl _ _) | (with_reducible assumption) | (with_reducible refine Below.alloc ?_ ?_ _) | (with_reducible refine Below.setCell ?_ ?_ _) | (with_reducible refine Below.drew ?_) | (with_reducible refine below_drewN ?_ _) | (with_reducible refine below_via ?_ (by with_reducible assumption) ?_) | omega | (simp; done) | (simp; omega)))⟩
  have d1 : decide (a < 0) = false := by simpa using h1
  by_cases h2 : b < 0
  · have d2 : decide (b < 0) = true := by simpa using h2
    clear h
    go_enter Try.func5, Try.ntmps5
    go_wp2_with (go_at_call 25; (with_reducible refine (memLives _).mono ?_); rintro e w1 ⟨rfl, hb1⟩; obtain ⟨fc1, fg1, hc1, hf1, hz1⟩ := bget hb1; try simp at hz1)
    go_ret
    exact ⟨rfl, by (repeat' (first | (with_reducible exact Below.refl _ _) | (with_reducible assumption) | (with_reducible refine Below.alloc ?_ ?_ _) | (with_reducible refine Below.setCell ?_ ?_ _) | (with_reducible refine Below.drew ?_) | (with_reducible refine below_drewN ?_ _) | (with_reducible refine below_via ?_ (by with_reducible assumption) ?_) | omega | (simp; done) | (simp; omega)))⟩
  have d2 : decide (b < 0) = false := by simpa using h2
  by_cases h3 : used < 0
  · have d3 : decide (used < 0) = true := by simpa using h3
    clear h
    go_enter Try.func5, Try.ntmps5
    go_wp2_with (go_at_call 25; (with_reducible refine (memLives _).mono ?_); rintro e w1 ⟨rfl, hb1⟩; obtain ⟨fc1, fg1, hc1, hf1, hz1⟩ := bget hb1; try simp at hz1)
    go_ret
    exact ⟨rfl, by (repeat' (first | (with_reducible exact Below.refl _ _) | (with_reducible assumption) | (with_reducible refine Below.alloc ?_ ?_ _) | (with_reducible refine Below.setCell ?_ ?_ _) | (with_reducible refine Below.drew ?_) | (with_reducible refine below_drewN ?_ _) | (with_reducible refine below_via ?_ (by with_reducible assumption) ?_) | omega | (simp; done) | (simp; omega)))⟩
  have d3 : decide (used < 0) = false := by simpa using h3
  by_cases h4 : 2305843009213693952 < a
  · have d4 : decide (2305843009213693952 < a) = true := by simpa using h4
    clear h
    go_enter Try.func5, Try.ntmps5
    go_wp2_with (go_at_call 25; (with_reducible refine (memLives _).mono ?_); rintro e w1 ⟨rfl, hb1⟩; obtain ⟨fc1, fg1, hc1, hf1, hz1⟩ := bget hb1; try simp at hz1)
    go_ret
    exact ⟨rfl, by (repeat' (first | (with_reducible exact Below.refl _ _) | (with_reducible assumption) | (with_reducible refine Below.alloc ?_ ?_ _) | (with_reducible refine Below.setCell ?_ ?_ _) | (with_reducible refine Below.drew ?_) | (with_reducible refine below_drewN ?_ _) | (with_reducible refine below_via ?_ (by with_reducible assumption) ?_) | omega | (simp; done) | (simp; omega)))⟩
  have d4 : decide (2305843009213693952 < a) = false := by simpa using h4
  by_cases h5 : 2305843009213693952 < b
  · have d5 : decide (2305843009213693952 < b) = true := by simpa using h5
    clear h
    go_enter Try.func5, Try.ntmps5
    go_wp2_with (go_at_call 25; (with_reducible refine (memLives _).mono ?_); rintro e w1 ⟨rfl, hb1⟩; obtain ⟨fc1, fg1, hc1, hf1, hz1⟩ := bget hb1; try simp at hz1)
    go_ret
    exact ⟨rfl, by (repeat' (first | (with_reducible exact Below.refl _ _) | (with_reducible assumption) | (with_reducible refine Below.alloc ?_ ?_ _) | (with_reducible refine Below.setCell ?_ ?_ _) | (with_reducible refine Below.drew ?_) | (with_reducible refine below_drewN ?_ _) | (with_reducible refine below_via ?_ (by with_reducible assumption) ?_) | omega | (simp; done) | (simp; omega)))⟩
  have d5 : decide (2305843009213693952 < b) = false := by simpa using h5
  have d6 : decide (2305843009213693952 < used) = true := by simp; omega
  clear h
  go_enter Try.func5, Try.ntmps5
  go_wp2_with (go_at_call 25; (with_reducible refine (memLives _).mono ?_); rintro e w1 ⟨rfl, hb1⟩; obtain ⟨fc1, fg1, hc1, hf1, hz1⟩ := bget hb1; try simp at hz1)
  go_ret
  exact ⟨rfl, by (repeat' (first | (with_reducible exact Below.refl _ _) | (with_reducible assumption) | (with_reducible refine Below.alloc ?_ ?_ _) | (with_reducible refine Below.setCell ?_ ?_ _) | (with_reducible refine Below.drew ?_) | (with_reducible refine below_drewN ?_ _) | (with_reducible refine below_via ?_ (by with_reducible assumption) ?_) | omega | (simp; done) | (simp; omega)))⟩
theorem room_yes {cap used more : Int} (h0 : 0 ≤ used) (h1 : 0 ≤ more) (h : used + more ≤ cap) : roomOf cap used more = 0 := by unfold roomOf; rw [if_neg (by omega), if_pos h]
theorem room_no {cap used more : Int} (h0 : 0 ≤ used) (h1 : 0 ≤ more) (h : ¬ used + more ≤ cap) : roomOf cap used more = 16 := by unfold roomOf; rw [if_neg (by omega), if_neg h]
set_option maxRecDepth 100000 in
set_option maxHeartbeats 4000000 in
theorem memParts_in (i cap p t used a b : Int) (w : World) (hc : In64 cap) (h1 : 0 ≤ a) (h2 : 0 ≤ b) (h3 : 0 ≤ used) (h4 : a ≤ 2305843009213693952) (h5 : b ≤ 2305843009213693952) (h6 : used ≤ 2305843009213693952) :
    Calls Try.prog 5 #[.agg #[.int .i64 i, .int .i64 cap, .int .i64 p, .int .i64 t], .int .i64 used, .int .i64 a, .int .i64 b] w fun e w' => e = .returned (.bool true) ∧ Below w.heap.size w w' := by
  have d1 : decide (a < 0) = false := by simpa using h1
  have d2 : decide (b < 0) = false := by simpa using h2
  have d3 : decide (used < 0) = false := by simpa using h3
  have d4 : decide (2305843009213693952 < a) = false := by simpa using h4
  have d5 : decide (2305843009213693952 < b) = false := by simpa using h5
  have d6 : decide (2305843009213693952 < used) = false := by simpa using h6
  have c1 := fun W => memRoom i cap p t used (a + b) W hc (by unfold In64; omega) (by unfold In64; omega)
  have c2 := fun W => memRoom i cap p t used a W hc (by unfold In64; omega) (by unfold In64; omega)
  have c3 := fun W => memRoom i cap p t (used + a) b W hc (by unfold In64; omega) (by unfold In64; omega)
  clear hc
  by_cases hw : used + a + b ≤ cap
  · rw [room_yes h3 (by omega) (by omega)] at c1
    rw [room_yes h3 h1 (by omega)] at c2
    rw [room_yes (by omega) h2 (by omega)] at c3
    have C1 := Lib.hid c1
    have C2 := Lib.hid c2
    have C3 := Lib.hid c3
    clear c1 c2 c3 hw
    go_enter Try.func5, Try.ntmps5
    go_wp2_with (first | (go_at_call 22; (with_reducible refine (C1.out _).mono ?_); rintro e w1 ⟨rfl, hb1⟩; obtain ⟨fc1, fg1, hc1, hf1, hz1⟩ := bget hb1; try simp at hz1) | (go_at_call 22; (with_reducible refine (C2.out _).mono ?_); rintro e w2 ⟨rfl, hb2⟩; obtain ⟨fc2, fg2, hc2, hf2, hz2⟩ := bget hb2; try simp at hz2) | (go_at_call 22; (with_reducible refine (C3.out _).mono ?_); rintro e w3 ⟨rfl, hb3⟩; obtain ⟨fc3, fg3, hc3, hf3, hz3⟩ := bget hb3; try simp at hz3) | (go_at_call 25; (with_reducible refine (memLives _).mono ?_); rintro e w4 ⟨rfl, hb4⟩; obtain ⟨fc4, fg4, hc4, hf4, hz4⟩ := bget hb4; try simp at hz4))
    go_ret
    exact ⟨rfl, by (repeat' (first | (with_reducible exact Below.refl _ _) | (with_reducible assumption) | (with_reducible refine Below.alloc ?_ ?_ _) | (with_reducible refine Below.setCell ?_ ?_ _) | (with_reducible refine Below.drew ?_) | (with_reducible refine below_drewN ?_ _) | (with_reducible refine below_via ?_ (by with_reducible assumption) ?_) | omega | (simp; done) | (simp; omega)))⟩
  · rw [room_no h3 (by omega) (by omega)] at c1
    rw [room_no (by omega) h2 (by omega)] at c3
    by_cases hp : used + a ≤ cap
    · rw [room_yes h3 h1 (by omega)] at c2
      have C1 := Lib.hid c1
      have C2 := Lib.hid c2
      have C3 := Lib.hid c3
      clear c1 c2 c3 hw hp
      go_enter Try.func5, Try.ntmps5
      go_wp2_with (first | (go_at_call 22; (with_reducible refine (C1.out _).mono ?_); rintro e w1 ⟨rfl, hb1⟩; obtain ⟨fc1, fg1, hc1, hf1, hz1⟩ := bget hb1; try simp at hz1) | (go_at_call 22; (with_reducible refine (C2.out _).mono ?_); rintro e w2 ⟨rfl, hb2⟩; obtain ⟨fc2, fg2, hc2, hf2, hz2⟩ := bget hb2; try simp at hz2) | (go_at_call 22; (with_reducible refine (C3.out _).mono ?_); rintro e w3 ⟨rfl, hb3⟩; obtain ⟨fc3, fg3, hc3, hf3, hz3⟩ := bget hb3; try simp at hz3) | (go_at_call 25; (with_reducible refine (memLives _).mono ?_); rintro e w4 ⟨rfl, hb4⟩; obtain ⟨fc4, fg4, hc4, hf4, hz4⟩ := bget hb4; try simp at hz4))
      go_ret
      exact ⟨rfl, by (repeat' (first | (with_reducible exact Below.refl _ _) | (with_reducible assumption) | (with_reducible refine Below.alloc ?_ ?_ _) | (with_reducible refine Below.setCell ?_ ?_ _) | (with_reducible refine Below.drew ?_) | (with_reducible refine below_drewN ?_ _) | (with_reducible refine below_via ?_ (by with_reducible assumption) ?_) | omega | (simp; done) | (simp; omega)))⟩
    · rw [room_no h3 h1 (by omega)] at c2
      have C1 := Lib.hid c1
      have C2 := Lib.hid c2
      clear c1 c2 c3 hw hp
      go_enter Try.func5, Try.ntmps5
      go_wp2_with (first | (go_at_call 22; (with_reducible refine (C1.out _).mono ?_); rintro e w1 ⟨rfl, hb1⟩; obtain ⟨fc1, fg1, hc1, hf1, hz1⟩ := bget hb1; try simp at hz1) | (go_at_call 22; (with_reducible refine (C2.out _).mono ?_); rintro e w2 ⟨rfl, hb2⟩; obtain ⟨fc2, fg2, hc2, hf2, hz2⟩ := bget hb2; try simp at hz2) | (go_at_call 25; (with_reducible refine (memLives _).mono ?_); rintro e w4 ⟨rfl, hb4⟩; obtain ⟨fc4, fg4, hc4, hf4, hz4⟩ := bget hb4; try simp at hz4))
      go_ret
      exact ⟨rfl, by (repeat' (first | (with_reducible exact Below.refl _ _) | (with_reducible assumption) | (with_reducible refine Below.alloc ?_ ?_ _) | (with_reducible refine Below.setCell ?_ ?_ _) | (with_reducible refine Below.drew ?_) | (with_reducible refine below_drewN ?_ _) | (with_reducible refine below_via ?_ (by with_reducible assumption) ?_) | omega | (simp; done) | (simp; omega)))⟩
end Go.Proofs.Ytffmljkpbgohkaa
