/- Contracts of wide.Neg, Times. -/
import Derived.Test.YtjolddbfkcbnpaaWide2
namespace Go.Proofs.Ytjolddbfkcbnpaa
open Go.RowKit
attribute [local go_sem] fieldSizeLo

theorem sgn_neg (n : Int) : sgn (!decide (n < 0)) (iabs n) = - n := by unfold sgn iabs; by_cases h : n < 0 <;> simp [h]
set_option maxRecDepth 100000 in
set_option maxHeartbeats 1000000 in
theorem wideNegYes (n : Int) (w : World) (h : In128 n) (hn : In128 (- n)) :
    Calls Try.prog 44 #[(.agg #[.int .i64 (whi (n)), .int .u64 (wlo (n))])] w fun e w' => e = .returned (.tuple #[(.agg #[.int .i64 (whi (- n)), .int .u64 (wlo (- n))]), .int .i64 0]) ∧ Below w.heap.size w w' := by
  have f1 := sgn_neg n
  have f2 := wrap128_in hn
  have f3 := in128_true hn
  have b3 : 0 ≤ iabs n ∧ iabs n < 340282366920938463463374607431768211456 := by unfold In128 at h; unfold iabs; split <;> omega
  go_enter Try.func44, Try.ntmps44
  go_wp2
  go_region_held3 (fun w' => w'.cell? ⟨w.heap.size, 0, none⟩ = some (.int .i64 (whi n)) ∧ w'.cell? ⟨w.heap.size, 1, none⟩ = some (.int .u64 (wlo n))) (first | (simp [go_sem]; done) | (repeat' (first | (with_reducible assumption) | (with_reducible refine And.intro ?_ ?_) | (with_reducible refine cell_drew ?_) | (with_reducible refine cell_via (by with_reducible assumption) ?_ ?_) | (simp [*]; done) | (simp [go_sem]; done) | (with_reducible refine cell_alloc ?_ ?_) | (with_reducible refine cell_set_far ?_ ?_) | omega | (simp; omega)))) (first | (go_at_call 55; (with_reducible refine (wideSize n _ h).mono ?_); rintro e w1 ⟨rfl, hb1⟩; obtain ⟨fc1, fg1, hc1, hf1, hz1⟩ := bget hb1; try simp at hz1) | (go_at_call 57; (with_reducible refine (wideBelow n _ h).mono ?_); rintro e w2 ⟨rfl, hb2⟩; obtain ⟨fc2, fg2, hc2, hf2, hz2⟩ := bget hb2; try simp at hz2) | (go_at_call 56; (with_reducible refine (wideSigned _ _ _ b3.1 b3.2).mono ?_); rintro e w3 ⟨rfl, hb3⟩; obtain ⟨fc3, fg3, hc3, hf3, hz3⟩ := bget hb3; try simp at hz3) | (go_at_call 72; (with_reducible refine (wideRangedYes _ _).mono ?_); rintro e w4 ⟨rfl, hb4⟩; obtain ⟨fc4, fg4, hc4, hf4, hz4⟩ := bget hb4; try simp at hz4))
  go_wp2
  all_goals
    refine bodyPost_ret (by simp [results, Try.results44, go_sem, ↓IntWalk.iteOmega, hc1, hc2, hc3, hc4]; try rfl) rfl ⟨rfl, ?_⟩
    (repeat' (first | (with_reducible exact Below.refl _ _) | (with_reducible assumption) | (with_reducible refine Below.alloc ?_ ?_ _) | (with_reducible refine Below.setCell ?_ ?_ _) | (with_reducible refine Below.drew ?_) | (with_reducible refine below_drewN ?_ _) | (with_reducible refine below_via ?_ (by with_reducible assumption) ?_) | omega | (simp; done) | (simp; omega)))
set_option maxRecDepth 100000 in
set_option maxHeartbeats 1000000 in
theorem wideNegNo (n : Int) (w : World) (h : In128 n) (hn : ¬ In128 (- n)) :
    Calls Try.prog 44 #[(.agg #[.int .i64 (whi (n)), .int .u64 (wlo (n))])] w fun e w' => e = .returned (.tuple #[.agg #[.int .i64 0, .int .u64 0], .int .i64 7]) ∧ Below w.heap.size w w' := by
  have f1 := sgn_neg n
  have f3 := in128_false hn
  have b3 : 0 ≤ iabs n ∧ iabs n < 340282366920938463463374607431768211456 := by unfold In128 at h; unfold iabs; split <;> omega
  clear hn
  go_enter Try.func44, Try.ntmps44
  go_wp2
  go_region_held3 (fun w' => w'.cell? ⟨w.heap.size, 0, none⟩ = some (.int .i64 (whi n)) ∧ w'.cell? ⟨w.heap.size, 1, none⟩ = some (.int .u64 (wlo n))) (first | (simp [go_sem]; done) | (repeat' (first | (with_reducible assumption) | (with_reducible refine And.intro ?_ ?_) | (with_reducible refine cell_drew ?_) | (with_reducible refine cell_via (by with_reducible assumption) ?_ ?_) | (simp [*]; done) | (simp [go_sem]; done) | (with_reducible refine cell_alloc ?_ ?_) | (with_reducible refine cell_set_far ?_ ?_) | omega | (simp; omega)))) (first | (go_at_call 55; (with_reducible refine (wideSize n _ h).mono ?_); rintro e w1 ⟨rfl, hb1⟩; obtain ⟨fc1, fg1, hc1, hf1, hz1⟩ := bget hb1; try simp at hz1) | (go_at_call 57; (with_reducible refine (wideBelow n _ h).mono ?_); rintro e w2 ⟨rfl, hb2⟩; obtain ⟨fc2, fg2, hc2, hf2, hz2⟩ := bget hb2; try simp at hz2) | (go_at_call 56; (with_reducible refine (wideSigned _ _ _ b3.1 b3.2).mono ?_); rintro e w3 ⟨rfl, hb3⟩; obtain ⟨fc3, fg3, hc3, hf3, hz3⟩ := bget hb3; try simp at hz3) | (go_at_call 72; (with_reducible refine (wideRangedNo _ _ _).mono ?_); rintro e w4 ⟨rfl, hb4⟩; obtain ⟨fc4, fg4, hc4, hf4, hz4⟩ := bget hb4; try simp at hz4))
  go_wp2
  all_goals
    refine bodyPost_ret (by simp [*, results, Try.results44, go_sem, ↓IntWalk.iteOmega]; try rfl) rfl ⟨rfl, ?_⟩
    (repeat' (first | (with_reducible exact Below.refl _ _) | (with_reducible assumption) | (with_reducible refine Below.alloc ?_ ?_ _) | (with_reducible refine Below.setCell ?_ ?_ _) | (with_reducible refine Below.drew ?_) | (with_reducible refine below_drewN ?_ _) | (with_reducible refine below_via ?_ (by with_reducible assumption) ?_) | omega | (simp; done) | (simp; omega)))

/-- |w| times |n| as three words: the high part is nought just where the product is one of 128 bits without sign. -/
theorem times_words (x y : Int) (hx : 0 ≤ x ∧ x ≤ 170141183460469231731687303715884105728) (hy : 0 ≤ y ∧ y ≤ 9223372036854775808) :
    let over := whi (whi x * y); let high := wlo (whi x * y); let carried := whi (wlo x * y); let lo := wlo (wlo x * y)
    let hi := wlo (high + carried); let carry := whi (high + carried)
    (over = 0 ∧ carry = 0 → hi = whi (x * y) ∧ lo = wlo (x * y) ∧ x * y < 340282366920938463463374607431768211456) ∧ (¬ (over = 0 ∧ carry = 0) → 340282366920938463463374607431768211456 ≤ x * y) := by
  have e : x * y = whi x * y * 18446744073709551616 + wlo x * y := by
    have := whi_wlo x
    calc x * y = (whi x * 18446744073709551616 + wlo x) * y := by rw [this]
      _ = _ := by rw [Int.add_mul]; congr 1; rw [Int.mul_assoc, Int.mul_comm 18446744073709551616 y, ← Int.mul_assoc]
  have h1 : 0 ≤ whi x := by unfold whi; omega
  have h2 := wlo_u x
  have m1 : 0 ≤ whi x * y := Int.mul_nonneg h1 hy.1
  have m2 : 0 ≤ wlo x * y := Int.mul_nonneg h2.1 hy.1
  have m3 : wlo x * y ≤ 18446744073709551615 * 9223372036854775808 := Int.mul_le_mul h2.2 hy.2 hy.1 (by omega)
  rw [e]
  generalize whi x * y = p at *
  generalize wlo x * y = q at *
  intro over high carried lo hi carry
  simp only [over, high, carried, lo, hi, carry, whi, wlo]
  clear e h1 h2
  constructor
  · rintro ⟨a, b⟩
    refine ⟨?_, ?_, ?_⟩ <;> omega
  · intro h
    omega
end Go.Proofs.Ytjolddbfkcbnpaa
