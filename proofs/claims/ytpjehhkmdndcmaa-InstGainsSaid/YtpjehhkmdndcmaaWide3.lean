/- Contracts of wide.Neg, Times. -/
import Derived.Test.YtpjehhkmdndcmaaWide2
namespace Go.Proofs.Ytpjehhkmdndcmaa
open Go.RowKit
attribute [local go_sem] fieldSizeLo

theorem sgn_neg (n : Int) : sgn (!decide (n < 0)) (iabs n) = - n := by unfold sgn iabs; by_cases h : n < 0 <;> simp [h]
/-- |w| times |n| as three words: the high part is nought just where the product is one of 128 bits without sign. -/
theorem times_words (x y : Int) (hx : 0 ≤ x ∧ x ≤ 170141183460469231731687303715884105728) (hy : 0 ≤ y ∧ y ≤ 9223372036854775808) :
    let over := whi (whi x * y); let high := wlo (whi x * y); let carried := whi (wlo x * y); let lo := wlo (wlo x * y)
    let hi := wlo (high + carried); let carry := whi (high + carried)
    (over = 0 ∧ carry = 0 → hi = whi (x * y) ∧ lo = wlo (x * y) ∧ x * y < 340282366920938463463374607431768211456) ∧ (¬ (over = 0 ∧ carry = 0) → 340282366920938463463374607431768211456 ≤ x * y) := by
  have e : x * y = whi x * y * 18446744073709551616 + wlo x * y := by
    have := whi_wlo x
    calc x * y = (whi x * 18446744073709551616 + wlo x) * y := by rw [this]
      _ = _ := by rw [Int.add_mul]; congr 1; rw [Int.mul_assoc, Int.mul_comm 18446744073709551616 y, ← Int.mul_assoc]
  have h1 : 0 ≤ whi x := by unfold whi; omega
  have h2 := wlo_u x
  have m1 : 0 ≤ whi x * y := Int.mul_nonneg h1 hy.1
  have m2 : 0 ≤ wlo x * y := Int.mul_nonneg h2.1 hy.1
  have m3 : wlo x * y ≤ 18446744073709551615 * 9223372036854775808 := Int.mul_le_mul h2.2 hy.2 hy.1 (by omega)
  rw [e]
  generalize whi x * y = p at *
  generalize wlo x * y = q at *
  intro over high carried lo hi carry
  simp only [over, high, carried, lo, hi, carry, whi, wlo]
  clear e h1 h2
  constructor
  · rintro ⟨a, b⟩
    refine ⟨?_, ?_, ?_⟩ <;> omega
  · intro h
    omega
end Go.Proofs.Ytpjehhkmdndcmaa
