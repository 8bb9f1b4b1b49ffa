/- Joined: Div0, Div64, Wide7, Dig0, Wide8, Frame, Open. -/
import Derived.Test.YtiidplinmempcaaJz1
import Derived.Test.YtiidplinmempcaaJz2
import Derived.Test.YtiidplinmempcaaJz3
import Derived.Test.YtiidplinmempcaaJz4
import Derived.Lib.ItoaNum
import Derived.Test.YtiidplinmempcaaRows
import Derived.WalkKit
import Derived.WalkSpells
import Derived.WalkLawsBesides
import Derived.BigQuiet
import Derived.Deep.RegionHeld3
import Derived.Handy
import Derived.Laws.IdiomStrings
import Derived.Test.YtiidplinmempcaaChecked
import Derived.ProofKit
import Derived.Lib.SmallJoins
import Derived.Deep.Slices
/- The long division of bits.Div64. Plain. -/
namespace Go.Proofs.Ytiidplinmempcaa
theorem div_is {n d q : Int} (h1 : q * d ≤ n) (h2 : n < (q + 1) * d) (hd : 0 < d) : n / d = q := by
  have a := Int.ediv_lt_of_lt_mul hd h2
  have b := Int.le_ediv_of_mul_le hd h1
  omega
/-- Two words by one: U v / (a b), halves of 32 bits; q is not below the quotient, r is what is left of U by a. -/
structure DInv (U v a b q r : Int) : Prop where
  eq : q * a + r = U
  r0 : 0 ≤ r
  q0 : 0 ≤ q
  qB : q ≤ 4294967297
  ge : U * 4294967296 + v < (q + 1) * (a * 4294967296 + b)
structure DIn (U v a b : Int) : Prop where
  a0 : 2147483648 ≤ a
  aB : a < 4294967296
  b0 : 0 ≤ b
  bB : b < 4294967296
  v0 : 0 ≤ v
  vB : v < 4294967296
  u0 : 0 ≤ U
  uB : U < a * 4294967296 + b
theorem expand2 (q a b : Int) : q * (a * 4294967296 + b) = q * a * 4294967296 + q * b := by rw [Int.mul_add, Int.mul_assoc]
theorem expand1 (q a b : Int) : (q + 1) * (a * 4294967296 + b) = q * a * 4294967296 + q * b + a * 4294967296 + b := by rw [Int.add_mul, expand2]; omega
theorem DInv.start {U v a b : Int} (h : DIn U v a b) : DInv U v a b (U / a) (U - U / a * a) ∧ U - U / a * a < a := by
  obtain ⟨a0, aB, b0, bB, v0, vB, u0, uB⟩ := h
  have e := Int.mul_ediv_add_emod U a
  have e1 := Int.emod_nonneg U (show a ≠ 0 by omega)
  have e2 := Int.emod_lt_of_pos U (show 0 < a by omega)
  have q0 : 0 ≤ U / a := Int.ediv_nonneg u0 (by omega)
  rw [Int.mul_comm] at e
  generalize U / a = q at e q0
  generalize U % a = r at e e1 e2
  refine ⟨⟨by omega, by omega, q0, ?_, ?_⟩, by omega⟩
  · by_cases hq : q ≤ 4294967297
    · exact hq
    · exfalso
      have : 4294967298 * a ≤ q * a := Int.mul_le_mul_of_nonneg_right (by omega) (by omega)
      omega
  · rw [expand1]
    have : 0 ≤ q * b := Int.mul_nonneg q0 b0
    omega
/-- What the loop asks. -/
def dAsk (v b q r : Int) : Bool := decide (4294967296 ≤ q) || decide (4294967296 * r + v < q * b)
theorem DInv.step {U v a b q r : Int} (h : DIn U v a b) (i : DInv U v a b q r) (hc : dAsk v b q r = true) : DInv U v a b (q - 1) (r + a) ∧ 1 ≤ q := by
  obtain ⟨a0, aB, b0, bB, v0, vB, u0, uB⟩ := h
  obtain ⟨eq, r0, q0, qB, ge⟩ := i
  have hlt : U * 4294967296 + v < q * (a * 4294967296 + b) := by
    rw [expand2]
    by_cases hq : 4294967296 ≤ q
    · have h1 : 4294967296 * a ≤ q * a := Int.mul_le_mul_of_nonneg_right hq (by omega)
      have h2 : 4294967296 * b ≤ q * b := Int.mul_le_mul_of_nonneg_right hq (by omega)
      omega
    · unfold dAsk at hc
      simp [hq] at hc
      omega
  have q1 : 1 ≤ q := by
    by_cases h : 1 ≤ q
    · exact h
    · exfalso
      have : q = 0 := by omega
      subst this
      omega
  refine ⟨⟨by rw [Int.sub_mul]; omega, by omega, by omega, by omega, ?_⟩, q1⟩
  rw [show q - 1 + 1 = q by omega]
  exact hlt
theorem DInv.stop {U v a b q r : Int} (h : DIn U v a b) (i : DInv U v a b q r) (hc : dAsk v b q r = false) : q = (U * 4294967296 + v) / (a * 4294967296 + b) := by
  obtain ⟨a0, aB, b0, bB, v0, vB, u0, uB⟩ := h
  obtain ⟨eq, r0, q0, qB, ge⟩ := i
  refine (div_is ?_ ge (by omega)).symm
  rw [expand2]
  unfold dAsk at hc
  simp at hc
  omega
theorem DInv.over {U v a b q r : Int} (h : DIn U v a b) (i : DInv U v a b q r) (hq : q ≤ 4294967296) (hc : 4294967296 ≤ r) : q = (U * 4294967296 + v) / (a * 4294967296 + b) := by
  obtain ⟨a0, aB, b0, bB, v0, vB, u0, uB⟩ := h
  obtain ⟨eq, r0, q0, qB, ge⟩ := i
  refine (div_is ?_ ge (by omega)).symm
  rw [expand2]
  have : q * b ≤ 4294967296 * b := Int.mul_le_mul_of_nonneg_right hq b0
  omega
theorem DIn.quo {U v a b q : Int} (h : DIn U v a b) (hq : q = (U * 4294967296 + v) / (a * 4294967296 + b)) : 0 ≤ q ∧ q < 4294967296 ∧ 0 ≤ U * 4294967296 + v - q * (a * 4294967296 + b) ∧ U * 4294967296 + v - q * (a * 4294967296 + b) < a * 4294967296 + b := by
  obtain ⟨a0, aB, b0, bB, v0, vB, u0, uB⟩ := h
  have e := Int.mul_ediv_add_emod (U * 4294967296 + v) (a * 4294967296 + b)
  have e1 := Int.emod_nonneg (U * 4294967296 + v) (show a * 4294967296 + b ≠ 0 by omega)
  have e2 := Int.emod_lt_of_pos (U * 4294967296 + v) (show 0 < a * 4294967296 + b by omega)
  rw [← hq, Int.mul_comm] at e
  have l1 : (U * 4294967296 + v) / (a * 4294967296 + b) < 4294967296 := Int.ediv_lt_of_lt_mul (by omega) (by omega)
  have l2 : 0 ≤ (U * 4294967296 + v) / (a * 4294967296 + b) := Int.ediv_nonneg (by omega) (by omega)
  rw [← hq] at l1 l2
  omega
theorem DInv.mul_le {U v a b q r : Int} (h : DIn U v a b) (i : DInv U v a b q r) : 0 ≤ q * b ∧ q * b ≤ 18446744073709551615 := by
  have h1 : q * b ≤ 4294967297 * b := Int.mul_le_mul_of_nonneg_right i.qB h.b0
  have h2 := h.bB
  exact ⟨Int.mul_nonneg i.q0 h.b0, by omega⟩
theorem pow_split {s : Nat} (hs : s ≤ 64) : (2 : Int) ^ s * 2 ^ (64 - s) = 18446744073709551616 := by
  rw [← Int.pow_add, show s + (64 - s) = 64 by omega]; rfl
/-- The halves of the shifted words. -/
theorem words {hi lo P T : Int} (hP : 0 < P) (hPT : P * T = 18446744073709551616) : (hi * P + lo / T) * 18446744073709551616 + lo * P % 18446744073709551616 = (hi * 18446744073709551616 + lo) * P := by
  have hT : lo / T = lo * P / 18446744073709551616 := by rw [← hPT, Int.mul_comm lo P, Int.mul_ediv_mul_of_pos _ _ hP]
  rw [hT]
  have e := Int.mul_ediv_add_emod (lo * P) 18446744073709551616
  rw [Int.add_mul (hi * 18446744073709551616), Int.mul_right_comm]
  omega
/-- The answer. -/
theorem div_end {n y P U u1 u0 d q1 q0 : Int} (hP : 0 < P) (hd : d = y * P) (hn : U * 18446744073709551616 + (u1 * 4294967296 + u0) = n * P)
    (h2 : q0 = ((U * 4294967296 + u1 - q1 * d) * 4294967296 + u0) / d) (hy : 0 < y) :
    q1 * 4294967296 + q0 = n / y ∧ ((U * 4294967296 + u1 - q1 * d) * 4294967296 + u0 - q0 * d) / P = n % y := by
  have hd0 : 0 < d := by rw [hd]; exact Int.mul_pos hy hP
  have e1 := Int.mul_ediv_add_emod (U * 4294967296 + u1) d
  have e2 := Int.mul_ediv_add_emod ((U * 4294967296 + u1 - q1 * d) * 4294967296 + u0) d
  have e3 := Int.emod_nonneg ((U * 4294967296 + u1 - q1 * d) * 4294967296 + u0) (show d ≠ 0 by omega)
  have e4 := Int.emod_lt_of_pos ((U * 4294967296 + u1 - q1 * d) * 4294967296 + u0) hd0
  rw [← h2, Int.mul_comm d q0] at e2
  generalize hR : ((U * 4294967296 + u1 - q1 * d) * 4294967296 + u0) % d = R at e2 e3 e4
  have hR2 : (U * 4294967296 + u1 - q1 * d) * 4294967296 + u0 - q0 * d = R := by omega
  rw [hR2]
  have hq : (q1 * 4294967296 + q0) * d = q1 * d * 4294967296 + q0 * d := by rw [Int.add_mul, Int.mul_right_comm]
  have hnP : n * P = (q1 * 4294967296 + q0) * y * P + R := by rw [← hn, Int.mul_assoc (q1 * 4294967296 + q0), ← hd, hq]; omega
  have hRP : R = (n - (q1 * 4294967296 + q0) * y) * P := by rw [Int.sub_mul]; omega
  have hdiv : R / P = n - (q1 * 4294967296 + q0) * y := by rw [hRP, Int.mul_ediv_cancel _ (by omega)]
  have hm0 : 0 ≤ n - (q1 * 4294967296 + q0) * y := by rw [← hdiv]; exact Int.ediv_nonneg e3 (by omega)
  have hm1 : n - (q1 * 4294967296 + q0) * y < y := by
    rw [← hdiv]
    exact Int.ediv_lt_of_lt_mul hP (by rw [← hd]; exact e4)
  have hnq : n / y = q1 * 4294967296 + q0 := div_is (by omega) (by rw [Int.add_mul]; omega) hy
  refine ⟨hnq.symm, ?_⟩
  rw [hdiv, Int.emod_def, hnq, Int.mul_comm y]
/-- The shift that brings the divisor's top bit up. -/
theorem shift_norm {y : Int} (h0 : 1 ≤ y) (h1 : y ≤ 18446744073709551615) : ∃ s : Nat, 64 - (Lib.bitLen y.toNat : Int) = s ∧ s ≤ 63 ∧ 9223372036854775808 ≤ y * 2 ^ s ∧ y * 2 ^ s ≤ 18446744073709551615 := by
  obtain ⟨y, rfl⟩ := Int.eq_ofNat_of_zero_le (show 0 ≤ y by omega)
  have hb : 1 ≤ Lib.bitLen y ∧ 2 ^ (Lib.bitLen y - 1) ≤ y ∧ y < 2 ^ Lib.bitLen y := Lib.bitLenAux_bounds 64 y (by omega) (by omega)
  have hle : Lib.bitLen y ≤ 64 := Lib.bitLen_le y 64 (Nat.le_refl _) (by omega)
  obtain ⟨b1, b2, b3⟩ := hb
  rw [Int.toNat_natCast]
  generalize Lib.bitLen y = k at *
  have s1 : 2 ^ (k - 1) * 2 ^ (64 - k) ≤ y * 2 ^ (64 - k) := Nat.mul_le_mul_right _ b2
  have s2 : (y + 1) * 2 ^ (64 - k) ≤ 2 ^ k * 2 ^ (64 - k) := Nat.mul_le_mul_right _ b3
  rw [← Nat.pow_add, show k - 1 + (64 - k) = 63 by omega] at s1
  rw [← Nat.pow_add, show k + (64 - k) = 64 by omega, Nat.add_mul] at s2
  have s3 : 0 < 2 ^ (64 - k) := Nat.pow_pos (by omega)
  refine ⟨64 - k, by omega, by omega, ?_, ?_⟩
  · have : ((y * 2 ^ (64 - k) : Nat) : Int) = (y : Int) * 2 ^ (64 - k) := by rw [Int.natCast_mul, Int.natCast_pow]; rfl
    rw [← this]; omega
  · have : ((y * 2 ^ (64 - k) : Nat) : Int) = (y : Int) * 2 ^ (64 - k) := by rw [Int.natCast_mul, Int.natCast_pow]; rfl
    rw [← this]; omega
end Go.Proofs.Ytiidplinmempcaa

/- The contract of bits.Div64. -/
namespace Go.Proofs.Ytiidplinmempcaa
open Go.RowKit
theorem u64_wrap {x : Int} (h0 : 0 ≤ x) (h1 : x ≤ 18446744073709551615) : IntKind.u64.wrap x = x := by rw [IntKind.wrap_u64]; omega
theorem and_low (x : Int) (h : 0 ≤ x) (h' : x ≤ 18446744073709551615) : bits .and .u64 x 4294967295 = x % 4294967296 := by
  obtain ⟨x, rfl⟩ := Int.eq_ofNat_of_zero_le h
  show IntKind.u64.wrap ((BitVec.ofInt 64 (x : Int) &&& BitVec.ofInt 64 4294967295).toNat : Int) = _
  have e : (BitVec.ofInt 64 (x : Int) &&& BitVec.ofInt 64 4294967295).toNat = x % 4294967296 := by
    rw [BitVec.toNat_and, BitVec.ofInt_natCast, BitVec.toNat_ofNat, Nat.mod_eq_of_lt (by omega)]
    exact Nat.and_two_pow_sub_one_eq_mod x 32
  rw [e, u64_wrap (by omega) (by omega)]
  omega
theorem or_low (h l : Int) (s : Nat) (h0 : 0 ≤ h) (l0 : 0 ≤ l) (hl : l < 2 ^ s) (hh : h * 2 ^ s ≤ 18446744073709551615) (hs : s ≤ 63) : bits .or .u64 (h * 2 ^ s) l = h * 2 ^ s + l := by
  obtain ⟨h, rfl⟩ := Int.eq_ofNat_of_zero_le h0
  obtain ⟨l, rfl⟩ := Int.eq_ofNat_of_zero_le l0
  have hp : (2 : Int) ^ s = ((2 ^ s : Nat) : Int) := by rw [Int.natCast_pow]; rfl
  have hps : 2 ^ s ≤ 2 ^ 63 := Nat.pow_le_pow_right (by omega) hs
  have hl2 : l < 2 ^ s := by rw [hp] at hl; omega
  have hh2 : h * 2 ^ s ≤ 18446744073709551615 := by rw [hp, ← Int.natCast_mul] at hh; omega
  rw [hp, ← Int.natCast_mul]
  show IntKind.u64.wrap ((BitVec.ofInt 64 ((h * 2 ^ s : Nat) : Int) ||| BitVec.ofInt 64 (l : Int)).toNat : Int) = _
  have e : (BitVec.ofInt 64 ((h * 2 ^ s : Nat) : Int) ||| BitVec.ofInt 64 (l : Int)).toNat = h * 2 ^ s + l := by
    rw [BitVec.toNat_or, BitVec.ofInt_natCast, BitVec.toNat_ofNat, BitVec.ofInt_natCast, BitVec.toNat_ofNat, Nat.mod_eq_of_lt (by omega), Nat.mod_eq_of_lt (by omega), ← Nat.shiftLeft_eq, Nat.shiftLeft_add_eq_or_of_lt hl2]
  have hsum : h * 2 ^ s + l ≤ 18446744073709551615 := by
    rw [← e]; have := (BitVec.ofInt 64 ((h * 2 ^ s : Nat) : Int) ||| BitVec.ofInt 64 (l : Int)).isLt; omega
  rw [e, u64_wrap (by omega) (by omega)]
  omega
theorem sub_mod {x y z : Int} (h0 : 0 ≤ x * 4294967296 + y - z) (h1 : x * 4294967296 + y - z ≤ 18446744073709551615) : IntKind.u64.wrap (IntKind.u64.wrap (IntKind.u64.wrap (x * 4294967296) + y) - IntKind.u64.wrap z) = x * 4294967296 + y - z := by
  rw [IntKind.wrap_u64, IntKind.wrap_u64, IntKind.wrap_u64, IntKind.wrap_u64]; omega
/-- The first guess, as the code has it. -/
theorem guess {U a : Int} (a0 : 0 < a) (u0 : 0 ≤ U) (u1 : U ≤ 18446744073709551615) : IntKind.u64.wrap (U.tdiv a) = U / a ∧ IntKind.u64.wrap (U - IntKind.u64.wrap (U / a * a)) = U - U / a * a := by
  have e := Int.mul_ediv_add_emod U a
  have e1 := Int.emod_nonneg U (show a ≠ 0 by omega)
  rw [Int.mul_comm] at e
  have q0 : 0 ≤ U / a := Int.ediv_nonneg u0 (by omega)
  have q1 : U / a ≤ U := Int.ediv_le_self _ u0
  have q2 : 0 ≤ U / a * a := Int.mul_nonneg q0 (by omega)
  refine ⟨?_, ?_⟩
  · rw [Int.tdiv_eq_ediv_of_nonneg u0]
    exact u64_wrap q0 (by omega)
  · rw [u64_wrap q2 (by omega)]
    exact u64_wrap (by omega) (by omega)
end Go.Proofs.Ytiidplinmempcaa

/- The contract of wide.Div. -/
namespace Go.Proofs.Ytiidplinmempcaa
open Go.RowKit
theorem long_div {m d : Int} (hm : 0 ≤ m) (hd : 0 < d) : whi m / d = whi (m / d) ∧ (whi m % d * 18446744073709551616 + wlo m) / d = wlo (m / d) ∧ (whi m % d * 18446744073709551616 + wlo m) % d = m % d := by
  have e0 := whi_wlo m
  have h1 : 0 ≤ whi m := by unfold whi; omega
  have h2 := wlo_u m
  generalize whi m = h at *
  generalize wlo m = l at *
  have e1 := Int.mul_ediv_add_emod h d
  have e2 := Int.emod_nonneg h (show d ≠ 0 by omega)
  have e3 := Int.emod_lt_of_pos h hd
  obtain ⟨p, hp⟩ : ∃ p, p = h / d := ⟨_, rfl⟩
  obtain ⟨r, hr⟩ : ∃ r, r = h % d := ⟨_, rfl⟩
  rw [← hp, ← hr] at e1
  rw [← hr] at e2 e3
  rw [← hp, ← hr]
  have e4 : m = r * 18446744073709551616 + l + p * 18446744073709551616 * d := by
    rw [← e0, ← e1, Int.add_mul, Int.mul_right_comm p, Int.mul_comm d p]; omega
  have e5 : 0 ≤ (r * 18446744073709551616 + l) / d := Int.ediv_nonneg (by omega) (by omega)
  have e6 : (r * 18446744073709551616 + l) / d < 18446744073709551616 := Int.ediv_lt_of_lt_mul hd (by omega)
  rw [e4, Int.add_mul_ediv_right _ _ (by omega), Int.add_mul_emod_self_right]
  unfold whi wlo
  omega
theorem floor_neg0 {n d m : Int} (hm : m = - n) (hd : 0 < d) (h : m % d = 0) : n / d = - (m / d) ∧ n % d = 0 := by
  have e := Int.mul_ediv_add_emod m d
  rw [h, Int.mul_comm] at e
  have h1 : n / d = - (m / d) := div_is (by rw [Int.neg_mul]; omega) (by rw [Int.add_mul, Int.neg_mul]; omega) hd
  refine ⟨h1, ?_⟩
  rw [Int.emod_def, h1, Int.mul_comm, Int.neg_mul]; omega
theorem floor_neg1 {n d m : Int} (hm : m = - n) (hd : 0 < d) (h : 0 < m % d) : n / d = - (m / d + 1) ∧ n % d = d - m % d := by
  have e := Int.mul_ediv_add_emod m d
  have e3 := Int.emod_lt_of_pos m hd
  rw [Int.mul_comm] at e
  have h1 : n / d = - (m / d + 1) := div_is (by rw [Int.neg_mul, Int.add_mul]; omega) (by rw [show - (m / d + 1) + 1 = - (m / d) by omega, Int.neg_mul]; omega) hd
  refine ⟨h1, ?_⟩
  rw [Int.emod_def, h1, Int.mul_comm, Int.neg_mul, Int.add_mul]; omega
end Go.Proofs.Ytiidplinmempcaa

/- Digits in tens. Plain. -/
namespace Go.Proofs.Ytiidplinmempcaa
/-- The digits of m as bytes, the lowest first. -/
def dgs : Nat → Nat → List Int
  | 0, _ => []
  | f + 1, m => (48 + m % 10 : Nat) :: (if m / 10 = 0 then [] else dgs f (m / 10))
/-- What is still to come, behind o. -/
def left (o : List Int) (f m : Nat) : List Int := if o = [] ∨ m ≠ 0 then dgs f m else []
theorem left_start (m : Nat) : [] ++ left [] 40 m = dgs 40 m := by simp [left]
theorem left_step {o : List Int} {f m : Nat} (hf : f + o.length = 40) (hm : m < 10 ^ f) (hgo : o = [] ∨ m ≠ 0) :
    ∃ g, f = g + 1 ∧ o ++ left o f m = (o ++ [((48 + m % 10 : Nat) : Int)]) ++ left (o ++ [((48 + m % 10 : Nat) : Int)]) g (m / 10) ∧ m / 10 < 10 ^ g := by
  cases f with
  | zero =>
    exfalso
    rcases hgo with h | h
    · subst h; simp at hf
    · simp at hm; omega
  | succ g =>
    refine ⟨g, rfl, ?_, ?_⟩
    · unfold left
      rw [if_pos hgo]
      simp only [dgs, List.append_assoc, List.cons_append, List.nil_append]
      by_cases h : m / 10 = 0
      · simp [h]
      · simp [h]
    · rw [Nat.pow_succ] at hm
      exact Nat.div_lt_of_lt_mul (by omega)
theorem left_end {o : List Int} {f m : Nat} (hgo : ¬ (o = [] ∨ m ≠ 0)) : o ++ left o f m = o := by unfold left; rw [if_neg hgo, List.append_nil]
theorem dgs_byte : ∀ (f m : Nat), ∀ b ∈ dgs f m, 0 ≤ b ∧ b ≤ 255
  | 0, _, b, hb => by simp [dgs] at hb
  | f + 1, m, b, hb => by
    simp only [dgs, List.mem_cons] at hb
    rcases hb with h | h
    · subst h; omega
    · by_cases e : m / 10 = 0
      · simp [e] at h
      · rw [if_neg e] at h; exact dgs_byte f _ b h
theorem dgs_len : ∀ (f m : Nat), (dgs f m).length ≤ f
  | 0, _ => by simp [dgs]
  | f + 1, m => by
    simp only [dgs, List.length_cons]
    by_cases e : m / 10 = 0
    · simp [e]
    · rw [if_neg e]; have := dgs_len f (m / 10); omega
/-- The text of n, the last byte first. -/
def back (n : Int) : List Int := dgs 40 n.natAbs ++ (if n < 0 then [45] else [])
theorem back_byte (n : Int) : ∀ b ∈ back n, 0 ≤ b ∧ b ≤ 255 := by
  intro b hb
  unfold back at hb
  rw [List.mem_append] at hb
  rcases hb with h | h
  · exact dgs_byte _ _ _ h
  · by_cases e : n < 0
    · rw [if_pos e] at h; simp at h; subst h; omega
    · rw [if_neg e] at h; simp at h
theorem back_len (n : Int) : (back n).length ≤ 41 := by
  unfold back
  have := dgs_len 40 n.natAbs
  rw [List.length_append]
  split <;> simp <;> omega
/-- Bytes as a string. -/
def str (l : List Int) : ByteArray := ⟨(l.map fun b => UInt8.ofNat b.toNat).toArray⟩
def textB (n : Int) : ByteArray := str (back n).reverse
theorem str_append (a b : List Int) : str a ++ str b = str (a ++ b) := by
  apply ByteArray.ext
  simp [str, ByteArray.data_append]
theorem str_cons (a : Int) (b : List Int) : str [a] ++ str b = str (a :: b) := str_append [a] b
theorem u8_back {b : Int} (h0 : 0 ≤ b) (h1 : b ≤ 255) : ((UInt8.ofNat b.toNat).toNat : Int) = b := by
  rw [UInt8.toNat_ofNat']; omega
/-- i rounds of turning a list round: the ends are turned, the middle is not. -/
def turned (l : List Int) (i : Nat) : List Int := (List.range l.length).map fun x => if x < i ∨ l.length - 1 - i < x then l.getD (l.length - 1 - x) 0 else l.getD x 0
theorem turned_len (l : List Int) (i : Nat) : (turned l i).length = l.length := by simp [turned]
theorem turned_at (l : List Int) (i x : Nat) (h : x < l.length) : (turned l i)[x]? = some (if x < i ∨ l.length - 1 - i < x then l.getD (l.length - 1 - x) 0 else l.getD x 0) := by
  simp [turned, h]
theorem turned_zero (l : List Int) : turned l 0 = l := by
  apply List.ext_getElem?
  intro x
  by_cases h : x < l.length
  · rw [turned_at l 0 x h, if_neg (by omega)]
    simp [h]
  · rw [List.getElem?_eq_none (by rw [turned_len]; omega), List.getElem?_eq_none (by omega)]
theorem turned_end (l : List Int) (i : Nat) (h : l.length ≤ 2 * i + 1) : turned l i = l.reverse := by
  apply List.ext_getElem?
  intro x
  by_cases hx : x < l.length
  · rw [turned_at l i x hx, List.getElem?_reverse hx]
    split
    · simp [show l.length - 1 - x < l.length from by omega]
    · rw [show l.length - 1 - x = x from by omega]; simp [hx]
  · rw [List.getElem?_eq_none (by rw [turned_len]; omega), List.getElem?_eq_none (by simp; omega)]
theorem turned_step (l : List Int) (i : Nat) (h : 2 * i + 1 < l.length) : turned l (i + 1) = ((turned l i).set i (l.getD (l.length - 1 - i) 0)).set (l.length - 1 - i) (l.getD i 0) := by
  apply List.ext_getElem?
  intro x
  by_cases hx : x < l.length
  · rw [turned_at l (i + 1) x hx, List.getElem?_set, List.getElem?_set, List.length_set, turned_len, turned_at l i x hx]
    by_cases e1 : l.length - 1 - i = x
    · rw [if_pos e1, if_pos (by omega), if_pos (by omega), show l.length - 1 - x = i from by omega]
    · rw [if_neg e1]
      by_cases e2 : i = x
      · rw [if_pos e2, if_pos (by omega), if_pos (by omega), e2]
      · rw [if_neg e2]
        congr 1
        by_cases e3 : x < i ∨ l.length - 1 - i < x
        · rw [if_pos e3, if_pos (by omega)]
        · rw [if_neg e3, if_neg (by omega)]
  · rw [List.getElem?_eq_none (by rw [turned_len]; omega), List.getElem?_eq_none (by rw [List.length_set, List.length_set, turned_len]; omega)]
theorem turned_get (l : List Int) (i : Nat) (h : 2 * i + 1 < l.length) : (turned l i)[i]? = some (l.getD i 0) ∧ (turned l i)[l.length - 1 - i]? = some (l.getD (l.length - 1 - i) 0) := by
  rw [turned_at l i i (by omega), turned_at l i _ (by omega), if_neg (by omega), if_neg (by omega)]
  exact ⟨rfl, rfl⟩
theorem textB_12 : textB (-12) = ⟨#[45, 49, 50]⟩ := by decide +kernel
end Go.Proofs.Ytiidplinmempcaa

/- The contract of wide.Text. -/
namespace Go.Proofs.Ytiidplinmempcaa
open Go.RowKit
theorem or_pos {m : Int} (h : 0 < m) (h1 : m < 340282366920938463463374607431768211456) : 0 < bits .or .u64 (whi m) (wlo m) := by
  have e := whi_wlo m
  have a1 : 0 ≤ whi m ∧ whi m ≤ 18446744073709551615 := by unfold whi; omega
  have a2 := wlo_u m
  obtain ⟨p, hp⟩ := Int.eq_ofNat_of_zero_le a1.1
  obtain ⟨q, hq⟩ := Int.eq_ofNat_of_zero_le a2.1
  rw [hp, hq] at e ⊢
  rw [hp] at a1
  rw [hq] at a2
  show 0 < IntKind.u64.wrap ((BitVec.ofInt 64 (p : Int) ||| BitVec.ofInt 64 (q : Int)).toNat : Int)
  have hn : p ≠ 0 ∨ q ≠ 0 := by omega
  have e1 : (BitVec.ofInt 64 (p : Int) ||| BitVec.ofInt 64 (q : Int)).toNat = p ||| q := by
    rw [BitVec.toNat_or, BitVec.ofInt_natCast, BitVec.toNat_ofNat, BitVec.ofInt_natCast, BitVec.toNat_ofNat, Nat.mod_eq_of_lt (by omega), Nat.mod_eq_of_lt (by omega)]
  have e2 : 0 < p ||| q := by
    rcases hn with h | h
    · exact Nat.lt_of_lt_of_le (Nat.pos_of_ne_zero h) Nat.left_le_or
    · exact Nat.lt_of_lt_of_le (Nat.pos_of_ne_zero h) Nat.right_le_or
  have e3 := (BitVec.ofInt 64 (p : Int) ||| BitVec.ofInt 64 (q : Int)).isLt
  rw [u64_wrap (by omega) (by omega), e1]
  omega
theorem or_zero : bits .or .u64 (whi 0) (wlo 0) = 0 := by decide +kernel
theorem rd_oneAt {w : World} {n : Nat} {cs : Array Value} {E k : Nat} (h : n = w.heap.size) : Rd (w.alloc (.cells cs E)) (some ⟨n, 0, none⟩) k [cs.toList] := by subst h; exact rd_one
theorem own_swap {w : World} {base E : Nat} {t : List Int} {r g n c : Nat} (h : Own w base E 1 (.slice (some ⟨g, 0, none⟩) n c) ((turned t r).map encB)) (hr : 2 * r + 1 < t.length) :
    Own ((w.setCell ⟨g, r, none⟩ (.int .u8 (t.getD (t.length - 1 - r) 0))).setCell ⟨g, t.length - 1 - r, none⟩ (.int .u8 (t.getD r 0))) base E 1 (.slice (some ⟨g, 0, none⟩) n c) ((turned t (r + 1)).map encB) := by
  obtain ⟨e1, e2⟩ := turned_get t r hr
  have h1 := h.put rfl (i := r) (r := encB (t.getD r 0)) (by rw [List.getElem?_map, e1]; rfl) (j := 0) (by omega) (.int .u8 (t.getD (t.length - 1 - r) 0))
  have h2 := h1.put rfl (i := t.length - 1 - r) (r := encB (t.getD (t.length - 1 - r) 0)) (by rw [List.getElem?_set_ne (by omega), List.getElem?_map, e2]; rfl) (j := 0) (by omega) (.int .u8 (t.getD r 0))
  rw [turned_step t r hr, List.map_set, List.map_set]
  simpa [encB] using h2
theorem own_cells {w : World} {base E : Nat} {t : List Int} {r g n c : Nat} (h : Own w base E 1 (.slice (some ⟨g, 0, none⟩) n c) ((turned t r).map encB)) {x : Nat} {v : Int} (hx : (turned t r)[x]? = some v) : w.cell? ⟨g, x, none⟩ = some (.int .u8 v) := by
  obtain ⟨b, o, hA, _, hc⟩ := h.rd.1 x (encB v) (by rw [List.getElem?_map, hx]; rfl)
  injection hA with hA
  injection hA with hA hB _
  subst hA hB
  have := hc 0 _ rfl
  simpa using this
theorem addr_plain (b o j : Nat) : (⟨b, o, none⟩ : Addr).add j = ⟨b, o + j, none⟩ := by unfold Addr.add; split <;> simp_all
def slen : Value → Nat
  | .slice _ n _ => n
  | _ => 0
end Go.Proofs.Ytiidplinmempcaa

/- What every law's row asks of the call's end: the arguments read on as they did, where nothing below the heap's old size has turned. -/
namespace Go.Proofs.Ytiidplinmempcaa
open Go.ChangeShapes Go.WideShapes Go.ChangeAt Go.RowKit Go.Joins
theorem Try.own : ownKnob Try.prog.godebug = none := by kernel_rfl
theorem Try.laidOut : laidOutB Try.prog = true := by kernel_rfl
theorem in64_of_wf {x : Int} (h : (Lit.int .i64 x).wf = true) : In64 x := by
  simp [Lit.wf, IntKind.min, IntKind.max, IntKind.signed, IntKind.bits] at h
  exact ⟨by omega, by omega⟩
theorem word_of_wf {x : Int} (h : (Lit.int .u64 x).wf = true) : 0 ≤ x ∧ x < 18446744073709551616 := by
  simp [Lit.wf, IntKind.min, IntKind.max, IntKind.signed, IntKind.bits] at h
  exact ⟨by omega, by omega⟩
theorem reads_on {H : Type} {enc : TypeId × Value → H} {W W' : World} (hb : Below W.heap.size W W') : ∀ {ts : List TypeId} {vs : List Value} {ds : List (DataW H)} {ps : List MemPlace},
    (∀ t ∈ ts, Try.prog.readableRec t = true ∧ t < Try.prog.types.size) → DataW.TrodAll enc Try.prog W 0 (fun _ => true) true ts vs ds ps → (∀ x ∈ ps, x.block < W.heap.size) →
    DataW.TrodAll enc Try.prog W' 0 (fun b => decide (b < W.heap.size)) true ts vs ds ps
  | [], _, _, _, _, h, _ => by
    obtain ⟨rfl, rfl, rfl⟩ := trodAll_nil h
    exact trodAll_mk0
  | t :: ts, _, _, _, ht, h, hl => by
    obtain ⟨v, vs, d, ds, p, q, rfl, rfl, rfl, h1, h2⟩ := trodAll_cons h
    have h3 := ht t (by simp)
    exact ⟨p, q, Below.trod Try.laidOut h3.1 h3.2 h1 hb (fun x hx => hl x (by simp [hx])), reads_on hb (fun t ht' => ht t (by simp [ht'])) h2 (fun x hx => hl x (by simp [hx])), rfl⟩
theorem law_ends {H : Type} {enc : TypeId × Value → H} {f : Func} {s : ChangeSpec} {W W' : World} {args : Array Value} {ds gs : List (DataW H)} {before : List MemPlace}
    (hW : DataW.Whole enc Try.prog f.params.toList s.vars false W args.toList ds gs before) (hvars : s.vars = []) (hts : ∀ t ∈ f.params.toList, Try.prog.readableRec t = true ∧ t < Try.prog.types.size)
    (hrt : f.resultTypes = #[4]) (hr : (s.fn H (ds ++ gs)).results = [.lit (.bool true)]) (ha : (s.fn H (ds ++ gs)).args = ds) (hv : (s.fn H (ds ++ gs)).vars = []) (hb : Below W.heap.size W W') :
    s.post enc Try.prog f false true false false W args (.bool true) W' := by
  have hW' := hW
  obtain ⟨p, q, hA, hV, rfl, hfz, hnd⟩ := hW
  rw [hvars] at hV
  obtain ⟨rfl, rfl⟩ := trodVars_none hV
  refine ⟨ds, [], _, [], p, [], hW', ?_, ?_, ?_, hb.frame _, fun h => by cases h⟩
  · rw [hrt, hr]; exact trodAll_mk1 (shut_bool Try.underlying4 _)
  · rw [ha]; exact reads_on hb hts hA (fun x hx => by simpa using hW'.lt x (by simp [hx]))
  · rw [hv, hvars]; rfl
end Go.Proofs.Ytiidplinmempcaa

/- A slice, handed in: the list that it reads as. -/
namespace Go.Proofs.Ytiidplinmempcaa
open Go.ChangeShapes Go.WideShapes Go.ChangeAt Go.RowKit Go.Joins Go.Deep
theorem block_lt {w : World} {a : Addr} {v : Value} (h : w.cell? a = some v) : a.block < w.heap.size := by
  rcases Nat.lt_or_ge a.block w.heap.size with h1 | h1
  · exact h1
  · unfold World.cell? at h
    rw [Array.getElem?_eq_none h1] at h
    split at h <;> simp_all
theorem list_choose {α : Type} {n : Nat} {p : Nat → α → Prop} (h : ∀ i, i < n → ∃ x, p i x) : ∃ l : List α, l.length = n ∧ ∀ i (hi : i < l.length), p i l[i] := by
  induction n with
  | zero => exact ⟨[], rfl, fun i hi => absurd hi (by simp)⟩
  | succ n ih =>
    obtain ⟨l, hl, hp⟩ := ih (fun i hi => h i (by omega))
    obtain ⟨x, hx⟩ := h n (by omega)
    refine ⟨l ++ [x], by simp [hl], fun i hi => ?_⟩
    simp at hi
    rcases Nat.lt_or_ge i l.length with h1 | h1
    · rw [List.getElem_append_left h1]; exact hp i h1
    · obtain rfl : i = l.length := by omega
      simp [hl]; exact hx
theorem slice_open0 {H : Type} {enc : TypeId × Value → H} {P : Program} {w : World} {spare : Nat → Bool} {held : Bool} {t e : TypeId} {k : Nat} {α : Type} {ok : α → Prop} {enc1 : α → List Value} {fuel : Nat} {cs0 : List Value} {y0 : DataW H × List MemPlace}
    (ht : P.underlying t = some (.slice e)) (ce : P.cellsOf e = k) (helem : ∀ (cs : List Value) (n : Nat) y, cs.length = k → DataW.trod enc P w 0 spare held n e cs = some y → ∃ x : α, ok x ∧ cs = enc1 x)
    (hk : ∀ x, ok x → (enc1 x).length = k) (hk0 : 0 < k) (hf : DataW.trod enc P w 0 spare held fuel t cs0 = some y0) :
    ∃ (l : List α) (A : Option Addr) (c : Nat), cs0 = [.slice A l.length c] ∧ (∀ x ∈ l, ok x) ∧ l.length ≤ c ∧ c ≤ maxLen ∧ (A = none → c = 0) ∧ Rd w A k (l.map enc1) := by
  rcases open_slice ht hf with ⟨hcs, _⟩ | ⟨a, len, cap, m, n, D, Pl, hcs, _, hl, hm, hmm, _, hall⟩
  · subst hcs
    exact ⟨[], none, 0, rfl, by simp, by simp, by simp, fun _ => rfl, fun i r hr => by simp at hr⟩
  · subst hcs
    have each : ∀ i, i < len → ∃ x : α, ok x ∧ ∀ j v, (enc1 x)[j]? = some v → w.cell? ((a.add (i * k)).add j) = some v := by
      intro i hi
      obtain ⟨cs, h1, h2⟩ := hall i (by rw [hmm]; split <;> omega)
      rw [ce] at h1
      obtain ⟨_, hlen, hcell⟩ := World.cells?_some h1
      obtain ⟨x, hx, rfl⟩ := helem cs n _ hlen h2
      refine ⟨x, hx, fun j v hv => ?_⟩
      have hj : j < k := by
        rw [← hlen]
        rcases Nat.lt_or_ge j (enc1 x).length with h3 | h3
        · exact h3
        · rw [List.getElem?_eq_none h3] at hv; cases hv
      rw [hcell j hj, hv]
    obtain ⟨l, hll, hp⟩ := list_choose each
    subst hll
    refine ⟨l, some a, cap, rfl, fun x hx => ?_, hl, hm, (fun h => by cases h), fun i r hr => ?_⟩
    · obtain ⟨i, hi, rfl⟩ := List.mem_iff_getElem.1 hx
      exact (hp i hi).1
    · rw [List.getElem?_map] at hr
      cases hli : l[i]? with
      | none => rw [hli] at hr; cases hr
      | some x =>
        rw [hli] at hr
        simp at hr
        subst hr
        obtain ⟨hi, rfl⟩ := List.getElem?_eq_some_iff.1 hli
        have hp2 := (hp i hi).2
        have hlk := hk _ (hp i hi).1
        obtain ⟨u, hu⟩ : ∃ u, (enc1 l[i])[0]? = some u := ⟨(enc1 l[i])[0], List.getElem?_eq_getElem (by omega)⟩
        have h0 := hp2 0 u hu
        obtain ⟨b, off, spot⟩ := a
        have hb : b < w.heap.size := by
          have := block_lt h0
          unfold Addr.add at this
          split at this <;> split at this <;> exact this
        by_cases hi0 : i = 0
        · subst hi0
          have hspot : spot = none := by simpa [Addr.add] using World.cell?_spot h0
          subst hspot
          refine ⟨b, off, rfl, hb, fun j v hv => ?_⟩
          have := hp2 j v hv
          rwa [add_plain, add_plain] at this
        · have hl0 : 0 < l.length := by omega
          have hlk0 := hk _ (hp 0 hl0).1
          obtain ⟨u0, hu0⟩ : ∃ u, (enc1 l[0])[0]? = some u := ⟨(enc1 l[0])[0], List.getElem?_eq_getElem (by omega)⟩
          have h00 := (hp 0 hl0).2 0 u0 hu0
          have hspot : spot = none := by simpa [Addr.add] using World.cell?_spot h00
          subst hspot
          refine ⟨b, off, rfl, hb, fun j v hv => ?_⟩
          have := hp2 j v hv
          rwa [add_plain, add_plain] at this
/-- A slice handed in, read row by row by a relation. -/
theorem slice_rel {H : Type} {enc : TypeId × Value → H} {P : Program} {w : World} {spare : Nat → Bool} {held : Bool} {t e : TypeId} {k : Nat} {α : Type} {R : List Value → α → Prop} {fuel : Nat} {cs0 : List Value} {y0 : DataW H × List MemPlace}
    (ht : P.underlying t = some (.slice e)) (ce : P.cellsOf e = k) (helem : ∀ (cs : List Value) (n : Nat) y, cs.length = k → DataW.trod enc P w 0 spare held n e cs = some y → ∃ x : α, R cs x ∧ cs.length = k)
    (hk0 : 0 < k) (hf : DataW.trod enc P w 0 spare held fuel t cs0 = some y0) :
    ∃ (l : List α) (rows : List (List Value)) (A : Option Addr) (c : Nat), cs0 = [.slice A l.length c] ∧ Each R rows l ∧ Rs w k rows A c := by
  obtain ⟨rows, A, c, h1, h2, h3, h4, h5, h6⟩ := slice_open0 (α := List Value) (ok := fun r => (∃ x, R r x) ∧ r.length = k) (enc1 := fun r => r) ht ce (fun cs n y hl hy => by
    obtain ⟨x, hx, hlen⟩ := helem cs n y hl hy
    exact ⟨cs, ⟨⟨x, hx⟩, hlen⟩, rfl⟩) (fun r h => h.2) hk0 hf
  obtain ⟨l, hl, hp⟩ := list_choose (n := rows.length) (p := fun i x => ∃ r, rows[i]? = some r ∧ R r x) (fun i hi => by
    obtain ⟨⟨x, hx⟩, _⟩ := h2 rows[i] (List.getElem_mem hi)
    exact ⟨x, rows[i], List.getElem?_eq_getElem hi, hx⟩)
  rw [List.map_id'] at h6
  refine ⟨l, rows, A, c, by rw [hl]; exact h1, ⟨hl.symm, fun i a b ha hb => ?_⟩, ⟨h6, h3, h4, h5⟩⟩
  obtain ⟨hi, rfl⟩ := List.getElem?_eq_some_iff.1 hb
  obtain ⟨r, hr, hx⟩ := hp i hi
  rw [ha] at hr
  injection hr with hr
  subst hr
  exact hx
theorem slice_open {H : Type} {enc : TypeId × Value → H} {P : Program} {w : World} {spare : Nat → Bool} {held : Bool} {t e : TypeId} {k : Nat} {α : Type} {ok : α → Prop} {enc1 : α → List Value} {v : Value} {d : DataW H} {ps : List MemPlace}
    (ht : P.underlying t = some (.slice e)) (ce : P.cellsOf e = k) (helem : ∀ (cs : List Value) (n : Nat) y, cs.length = k → DataW.trod enc P w 0 spare held n e cs = some y → ∃ x : α, ok x ∧ cs = enc1 x)
    (hk : ∀ x, ok x → (enc1 x).length = k) (hk0 : 0 < k) {r : Reach} {b0 : Nat} (hval : Value.okWide P w r b0 t v) (h : DataW.Trod enc P w 0 spare held t v d ps) :
    ∃ (l : List α) (A : Option Addr) (c : Nat), v = .slice A l.length c ∧ (∀ x ∈ l, ok x) ∧ l.length ≤ c ∧ c ≤ maxLen ∧ (A = none → c = 0) ∧ Rd w A k (l.map enc1) := by
  obtain ⟨a0, len0, cap0, rfl⟩ := okWide_slice ht hval
  obtain ⟨fuel, hf⟩ := h
  rcases open_slice ht hf with ⟨hcs, _⟩ | ⟨a, len, cap, m, n, D, Pl, hcs, _, hl, hm, hmm, _, hall⟩
  · simp [Value.cells] at hcs
    obtain ⟨rfl, rfl, rfl⟩ := hcs
    exact ⟨[], none, 0, rfl, by simp, by simp, by simp, fun _ => rfl, fun i r hr => by simp at hr⟩
  · simp [Value.cells] at hcs
    obtain ⟨rfl, rfl, rfl⟩ := hcs
    have each : ∀ i, i < len0 → ∃ x : α, ok x ∧ ∀ j v, (enc1 x)[j]? = some v → w.cell? ((a.add (i * k)).add j) = some v := by
      intro i hi
      obtain ⟨cs, h1, h2⟩ := hall i (by rw [hmm]; split <;> omega)
      rw [ce] at h1
      obtain ⟨_, hlen, hcell⟩ := World.cells?_some h1
      obtain ⟨x, hx, rfl⟩ := helem cs n _ hlen h2
      refine ⟨x, hx, fun j v hv => ?_⟩
      have hj : j < k := by
        rw [← hlen]
        rcases Nat.lt_or_ge j (enc1 x).length with h3 | h3
        · exact h3
        · rw [List.getElem?_eq_none h3] at hv; cases hv
      rw [hcell j hj, hv]
    obtain ⟨l, hll, hp⟩ := list_choose each
    subst hll
    refine ⟨l, some a, cap0, rfl, fun x hx => ?_, hl, hm, (fun h => by cases h), fun i r hr => ?_⟩
    · obtain ⟨i, hi, rfl⟩ := List.mem_iff_getElem.1 hx
      exact (hp i hi).1
    · rw [List.getElem?_map] at hr
      cases hli : l[i]? with
      | none => rw [hli] at hr; cases hr
      | some x =>
        rw [hli] at hr
        simp at hr
        subst hr
        obtain ⟨hi, rfl⟩ := List.getElem?_eq_some_iff.1 hli
        have hp2 := (hp i hi).2
        have hlk := hk _ (hp i hi).1
        obtain ⟨u, hu⟩ : ∃ u, (enc1 l[i])[0]? = some u := ⟨(enc1 l[i])[0], List.getElem?_eq_getElem (by omega)⟩
        have h0 := hp2 0 u hu
        obtain ⟨b, off, spot⟩ := a
        have hb : b < w.heap.size := by
          have := block_lt h0
          unfold Addr.add at this
          split at this <;> split at this <;> exact this
        by_cases hi0 : i = 0
        · subst hi0
          have hspot : spot = none := by simpa [Addr.add] using World.cell?_spot h0
          subst hspot
          refine ⟨b, off, rfl, hb, fun j v hv => ?_⟩
          have := hp2 j v hv
          rwa [add_plain, add_plain] at this
        · have hl0 : 0 < l.length := by omega
          have hlk0 := hk _ (hp 0 hl0).1
          obtain ⟨u0, hu0⟩ : ∃ u, (enc1 l[0])[0]? = some u := ⟨(enc1 l[0])[0], List.getElem?_eq_getElem (by omega)⟩
          have h00 := (hp 0 hl0).2 0 u0 hu0
          have hspot : spot = none := by simpa [Addr.add] using World.cell?_spot h00
          subst hspot
          refine ⟨b, off, rfl, hb, fun j v hv => ?_⟩
          have := hp2 j v hv
          rwa [add_plain, add_plain] at this
end Go.Proofs.Ytiidplinmempcaa
