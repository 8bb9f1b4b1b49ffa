/- The long division of bits.Div64. Plain. -/
import Derived.Lib.ItoaNum
namespace Go.Proofs.Ytenehpcliajdnaa
theorem div_is {n d q : Int} (h1 : q * d ≤ n) (h2 : n < (q + 1) * d) (hd : 0 < d) : n / d = q := by
  have a := Int.ediv_lt_of_lt_mul hd h2
  have b := Int.le_ediv_of_mul_le hd h1
  omega
/-- Two words by one: U v / (a b), halves of 32 bits; q is not below the quotient, r is what is left of U by a. -/
structure DInv (U v a b q r : Int) : Prop where
  eq : q * a + r = U
  r0 : 0 ≤ r
  q0 : 0 ≤ q
  qB : q ≤ 4294967297
  ge : U * 4294967296 + v < (q + 1) * (a * 4294967296 + b)
structure DIn (U v a b : Int) : Prop where
  a0 : 2147483648 ≤ a
  aB : a < 4294967296
  b0 : 0 ≤ b
  bB : b < 4294967296
  v0 : 0 ≤ v
  vB : v < 4294967296
  u0 : 0 ≤ U
  uB : U < a * 4294967296 + b
theorem expand2 (q a b : Int) : q * (a * 4294967296 + b) = q * a * 4294967296 + q * b := by rw [Int.mul_add, Int.mul_assoc]
theorem expand1 (q a b : Int) : (q + 1) * (a * 4294967296 + b) = q * a * 4294967296 + q * b + a * 4294967296 + b := by rw [Int.add_mul, expand2]; omega
theorem DInv.start {U v a b : Int} (h : DIn U v a b) : DInv U v a b (U / a) (U - U / a * a) ∧ U - U / a * a < a := by
  obtain ⟨a0, aB, b0, bB, v0, vB, u0, uB⟩ := h
  have e := Int.mul_ediv_add_emod U a
  have e1 := Int.emod_nonneg U (show a ≠ 0 by omega)
  have e2 := Int.emod_lt_of_pos U (show 0 < a by omega)
  have q0 : 0 ≤ U / a := Int.ediv_nonneg u0 (by omega)
  rw [Int.mul_comm] at e
  generalize U / a = q at e q0
  generalize U % a = r at e e1 e2
  refine ⟨⟨by omega, by omega, q0, ?_, ?_⟩, by omega⟩
  · by_cases hq : q ≤ 4294967297
    · exact hq
    · exfalso
      have : 4294967298 * a ≤ q * a := Int.mul_le_mul_of_nonneg_right (by omega) (by omega)
      omega
  · rw [expand1]
    have : 0 ≤ q * b := Int.mul_nonneg q0 b0
    omega
/-- What the loop asks. -/
def dAsk (v b q r : Int) : Bool := decide (4294967296 ≤ q) || decide (4294967296 * r + v < q * b)
theorem DInv.step {U v a b q r : Int} (h : DIn U v a b) (i : DInv U v a b q r) (hc : dAsk v b q r = true) : DInv U v a b (q - 1) (r + a) ∧ 1 ≤ q := by
  obtain ⟨a0, aB, b0, bB, v0, vB, u0, uB⟩ := h
  obtain ⟨eq, r0, q0, qB, ge⟩ := i
  have hlt : U * 4294967296 + v < q * (a * 4294967296 + b) := by
    rw [expand2]
    by_cases hq : 4294967296 ≤ q
    · have h1 : 4294967296 * a ≤ q * a := Int.mul_le_mul_of_nonneg_right hq (by omega)
      have h2 : 4294967296 * b ≤ q * b := Int.mul_le_mul_of_nonneg_right hq (by omega)
      omega
    · unfold dAsk at hc
      simp [hq] at hc
      omega
  have q1 : 1 ≤ q := by
    by_cases h : 1 ≤ q
    · exact h
    · exfalso
      have : q = 0 := by omega
      subst this
      omega
  refine ⟨⟨by rw [Int.sub_mul]; omega, by omega, by omega, by omega, ?_⟩, q1⟩
  rw [show q - 1 + 1 = q by omega]
  exact hlt
theorem DInv.stop {U v a b q r : Int} (h : DIn U v a b) (i : DInv U v a b q r) (hc : dAsk v b q r = false) : q = (U * 4294967296 + v) / (a * 4294967296 + b) := by
  obtain ⟨a0, aB, b0, bB, v0, vB, u0, uB⟩ := h
  obtain ⟨eq, r0, q0, qB, ge⟩ := i
  refine (div_is ?_ ge (by omega)).symm
  rw [expand2]
  unfold dAsk at hc
  simp at hc
  omega
theorem DInv.over {U v a b q r : Int} (h : DIn U v a b) (i : DInv U v a b q r) (hq : q ≤ 4294967296) (hc : 4294967296 ≤ r) : q = (U * 4294967296 + v) / (a * 4294967296 + b) := by
  obtain ⟨a0, aB, b0, bB, v0, vB, u0, uB⟩ := h
  obtain ⟨eq, r0, q0, qB, ge⟩ := i
  refine (div_is ?_ ge (by omega)).symm
  rw [expand2]
  have : q * b ≤ 4294967296 * b := Int.mul_le_mul_of_nonneg_right hq b0
  omega
theorem DIn.quo {U v a b q : Int} (h : DIn U v a b) (hq : q = (U * 4294967296 + v) / (a * 4294967296 + b)) : 0 ≤ q ∧ q < 4294967296 ∧ 0 ≤ U * 4294967296 + v - q * (a * 4294967296 + b) ∧ U * 4294967296 + v - q * (a * 4294967296 + b) < a * 4294967296 + b := by
  obtain ⟨a0, aB, b0, bB, v0, vB, u0, uB⟩ := h
  have e := Int.mul_ediv_add_emod (U * 4294967296 + v) (a * 4294967296 + b)
  have e1 := Int.emod_nonneg (U * 4294967296 + v) (show a * 4294967296 + b ≠ 0 by omega)
  have e2 := Int.emod_lt_of_pos (U * 4294967296 + v) (show 0 < a * 4294967296 + b by omega)
  rw [← hq, Int.mul_comm] at e
  have l1 : (U * 4294967296 + v) / (a * 4294967296 + b) < 4294967296 := Int.ediv_lt_of_lt_mul (by omega) (by omega)
  have l2 : 0 ≤ (U * 4294967296 + v) / (a * 4294967296 + b) := Int.ediv_nonneg (by omega) (by omega)
  rw [← hq] at l1 l2
  omega
theorem DInv.mul_le {U v a b q r : Int} (h : DIn U v a b) (i : DInv U v a b q r) : 0 ≤ q * b ∧ q * b ≤ 18446744073709551615 := by
  have h1 : q * b ≤ 4294967297 * b := Int.mul_le_mul_of_nonneg_right i.qB h.b0
  have h2 := h.bB
  exact ⟨Int.mul_nonneg i.q0 h.b0, by omega⟩
theorem pow_split {s : Nat} (hs : s ≤ 64) : (2 : Int) ^ s * 2 ^ (64 - s) = 18446744073709551616 := by
  rw [← Int.pow_add, show s + (64 - s) = 64 by omega]; rfl
/-- The halves of the shifted words. -/
theorem words {hi lo P T : Int} (hP : 0 < P) (hPT : P * T = 18446744073709551616) : (hi * P + lo / T) * 18446744073709551616 + lo * P % 18446744073709551616 = (hi * 18446744073709551616 + lo) * P := by
  have hT : lo / T = lo * P / 18446744073709551616 := by rw [← hPT, Int.mul_comm lo P, Int.mul_ediv_mul_of_pos _ _ hP]
  rw [hT]
  have e := Int.mul_ediv_add_emod (lo * P) 18446744073709551616
  rw [Int.add_mul (hi * 18446744073709551616), Int.mul_right_comm]
  omega
/-- The answer. -/
theorem div_end {n y P U u1 u0 d q1 q0 : Int} (hP : 0 < P) (hd : d = y * P) (hn : U * 18446744073709551616 + (u1 * 4294967296 + u0) = n * P)
    (h2 : q0 = ((U * 4294967296 + u1 - q1 * d) * 4294967296 + u0) / d) (hy : 0 < y) :
    q1 * 4294967296 + q0 = n / y ∧ ((U * 4294967296 + u1 - q1 * d) * 4294967296 + u0 - q0 * d) / P = n % y := by
  have hd0 : 0 < d := by rw [hd]; exact Int.mul_pos hy hP
  have e1 := Int.mul_ediv_add_emod (U * 4294967296 + u1) d
  have e2 := Int.mul_ediv_add_emod ((U * 4294967296 + u1 - q1 * d) * 4294967296 + u0) d
  have e3 := Int.emod_nonneg ((U * 4294967296 + u1 - q1 * d) * 4294967296 + u0) (show d ≠ 0 by omega)
  have e4 := Int.emod_lt_of_pos ((U * 4294967296 + u1 - q1 * d) * 4294967296 + u0) hd0
  rw [← h2, Int.mul_comm d q0] at e2
  generalize hR : ((U * 4294967296 + u1 - q1 * d) * 4294967296 + u0) % d = R at e2 e3 e4
  have hR2 : (U * 4294967296 + u1 - q1 * d) * 4294967296 + u0 - q0 * d = R := by omega
  rw [hR2]
  have hq : (q1 * 4294967296 + q0) * d = q1 * d * 4294967296 + q0 * d := by rw [Int.add_mul, Int.mul_right_comm]
  have hnP : n * P = (q1 * 4294967296 + q0) * y * P + R := by rw [← hn, Int.mul_assoc (q1 * 4294967296 + q0), ← hd, hq]; omega
  have hRP : R = (n - (q1 * 4294967296 + q0) * y) * P := by rw [Int.sub_mul]; omega
  have hdiv : R / P = n - (q1 * 4294967296 + q0) * y := by rw [hRP, Int.mul_ediv_cancel _ (by omega)]
  have hm0 : 0 ≤ n - (q1 * 4294967296 + q0) * y := by rw [← hdiv]; exact Int.ediv_nonneg e3 (by omega)
  have hm1 : n - (q1 * 4294967296 + q0) * y < y := by
    rw [← hdiv]
    exact Int.ediv_lt_of_lt_mul hP (by rw [← hd]; exact e4)
  have hnq : n / y = q1 * 4294967296 + q0 := div_is (by omega) (by rw [Int.add_mul]; omega) hy
  refine ⟨hnq.symm, ?_⟩
  rw [hdiv, Int.emod_def, hnq, Int.mul_comm y]
/-- The shift that brings the divisor's top bit up. -/
theorem shift_norm {y : Int} (h0 : 1 ≤ y) (h1 : y ≤ 18446744073709551615) : ∃ s : Nat, 64 - (Lib.bitLen y.toNat : Int) = s ∧ s ≤ 63 ∧ 9223372036854775808 ≤ y * 2 ^ s ∧ y * 2 ^ s ≤ 18446744073709551615 := by
  obtain ⟨y, rfl⟩ := Int.eq_ofNat_of_zero_le (show 0 ≤ y by omega)
  have hb : 1 ≤ Lib.bitLen y ∧ 2 ^ (Lib.bitLen y - 1) ≤ y ∧ y < 2 ^ Lib.bitLen y := Lib.bitLenAux_bounds 64 y (by omega) (by omega)
  have hle : Lib.bitLen y ≤ 64 := Lib.bitLen_le y 64 (Nat.le_refl _) (by omega)
  obtain ⟨b1, b2, b3⟩ := hb
  rw [Int.toNat_natCast]
  generalize Lib.bitLen y = k at *
  have s1 : 2 ^ (k - 1) * 2 ^ (64 - k) ≤ y * 2 ^ (64 - k) := Nat.mul_le_mul_right _ b2
  have s2 : (y + 1) * 2 ^ (64 - k) ≤ 2 ^ k * 2 ^ (64 - k) := Nat.mul_le_mul_right _ b3
  rw [← Nat.pow_add, show k - 1 + (64 - k) = 63 by omega] at s1
  rw [← Nat.pow_add, show k + (64 - k) = 64 by omega, Nat.add_mul] at s2
  have s3 : 0 < 2 ^ (64 - k) := Nat.pow_pos (by omega)
  refine ⟨64 - k, by omega, by omega, ?_, ?_⟩
  · have : ((y * 2 ^ (64 - k) : Nat) : Int) = (y : Int) * 2 ^ (64 - k) := by rw [Int.natCast_mul, Int.natCast_pow]; rfl
    rw [← this]; omega
  · have : ((y * 2 ^ (64 - k) : Nat) : Int) = (y : Int) * 2 ^ (64 - k) := by rw [Int.natCast_mul, Int.natCast_pow]; rfl
    rw [← this]; omega
end Go.Proofs.Ytenehpcliajdnaa
