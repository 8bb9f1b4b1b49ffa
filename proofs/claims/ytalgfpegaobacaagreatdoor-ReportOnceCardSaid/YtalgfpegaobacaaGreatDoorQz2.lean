/- Joined. -/
import Derived.Shelf.Small.Bits
import Derived.Shelf.Strconv.Itoa0
import Derived.Shelf.Bits.Mul64
import Derived.Test.YtalgfpegaobacaaGreatDoorProg
import Derived.Lib.ItoaNum
/-
 DERIVED: THE SHELF's CONTRACTS AT THIS DUMP, IN PLAIN WORDS (tools/lay-plain.mjs out of 'TryShelf.lean', which tools/lay-shelf.mjs wrote): THE SAME DECLARATIONS UNDER THE SAME NAMES: 'import', 'namespace', 'open', 'def', 'theorem' AND NOTHING ELSE: no command of the shelf's: FOR A HAND-IN. Each laying: the table of numbers ('.._ren') and one theorem, a field a fact of the dump's own or the kernel's comparison; each contract: ONE APPLICATION.
-/
namespace Go.Proofs
open Go.Shelf
def Tryz.lays134_ren : Go.Shelf.Ren := ⟨fun | 134 => 237 | 129 => 183 | n => n, fun | 53 => 179 | 3 => 3 | 4 => 4 | 46 => 247 | 5 => 5 | 9 => 9 | n => n, fun | n => n⟩
theorem Tryz.lays134 : Go.Proofs.Lays.n134 Tryz.prog Tryz.lays134_ren := {
 mixed := by kernel_rfl
 f129 := Tryz.func183.trans (congrArg some (by kernel_rfl))
 f134 := Tryz.func237.trans (congrArg some (by kernel_rfl))
 t3 := Tryz.underlying3
 a3 := Tryz.isAgg3
 z3 := Tryz.sizeOf3
 v3 := Tryz.zeroValue3
 t4 := Tryz.underlying4
 a4 := Tryz.isAgg4
 z4 := Tryz.sizeOf4
 v4 := Tryz.zeroValue4
 t5 := Tryz.underlying5
 a5 := Tryz.isAgg5
 z5 := Tryz.sizeOf5
 v5 := Tryz.zeroValue5
 t9 := Tryz.underlying9
 a9 := Tryz.isAgg9
 z9 := Tryz.sizeOf9
 v9 := Tryz.zeroValue9
 t46 := Tryz.underlying247
 a46 := Tryz.isAgg247
 z46 := Tryz.sizeOf247
 v46 := Tryz.zeroValue247
 t53 := Tryz.underlying179
 a53 := Tryz.isAgg179
 z53 := Tryz.sizeOf179
 v53 := Tryz.zeroValue179 }
theorem Tryz.bits_LeadingZeros64 (x : Int) (w : World) (h0 : 0 ≤ x) (h1 : x ≤ 18446744073709551615) :
  Calls Tryz.prog 237 #[.int .u64 x] w fun e w' => e = .returned (.int .i64 (64 - (Lib.bitLen x.toNat : Int))) ∧ w' = w := Any.bits_LeadingZeros64 Tryz.lays134 x w h0 h1
def Tryz.lays264_ren : Go.Shelf.Ren := ⟨fun | 264 => 228 | n => n, fun | 53 => 179 | 46 => 247 | n => n, fun | n => n⟩
theorem Tryz.lays264 : Go.Proofs.Lays.n264 Tryz.prog Tryz.lays264_ren := {
 mixed := by kernel_rfl
 f264 := Tryz.func228.trans (congrArg some (by kernel_rfl))
 t46 := Tryz.underlying247
 a46 := Tryz.isAgg247
 z46 := Tryz.sizeOf247
 v46 := Tryz.zeroValue247
 t53 := Tryz.underlying179
 a53 := Tryz.isAgg179
 z53 := Tryz.sizeOf179
 v53 := Tryz.zeroValue179 }
open Go.RowKit Go.Lib in
theorem Tryz.bits_Mul64 (x y : Nat) (hx : x < 18446744073709551616) (hy : y < 18446744073709551616) (w : World) :
  Calls Tryz.prog 228 #[.int .u64 x, .int .u64 y] w fun e w' => e = .returned (.tuple #[.int .u64 ((x * y / 18446744073709551616 : Nat) : Int), .int .u64 ((x * y % 18446744073709551616 : Nat) : Int)]) ∧ w' = w := Any.bits_Mul64 Tryz.lays264 x y hx hy w
end Go.Proofs
namespace Go.Proofs.YtalgfpegaobacaaGreatDoor
set_option linter.all false
open Go.RowKit
/- The long division of bits.Div64. Plain. -/
theorem div_is {n d q : Int} (h1 : q * d ≤ n) (h2 : n < (q + 1) * d) (hd : 0 < d) : n / d = q := by
 have a := Int.ediv_lt_of_lt_mul hd h2
 have b := Int.le_ediv_of_mul_le hd h1
 omega
structure DInv (U v a b q r : Int) : Prop where
 eq : q * a + r = U
 r0 : 0 ≤ r
 q0 : 0 ≤ q
 qB : q ≤ 4294967297
 ge : U * 4294967296 + v < (q + 1) * (a * 4294967296 + b)
structure DIn (U v a b : Int) : Prop where
 a0 : 2147483648 ≤ a
 aB : a < 4294967296
 b0 : 0 ≤ b
 bB : b < 4294967296
 v0 : 0 ≤ v
 vB : v < 4294967296
 u0 : 0 ≤ U
 uB : U < a * 4294967296 + b
theorem expand2 (q a b : Int) : q * (a * 4294967296 + b) = q * a * 4294967296 + q * b := by rw [Int.mul_add, Int.mul_assoc]
theorem expand1 (q a b : Int) : (q + 1) * (a * 4294967296 + b) = q * a * 4294967296 + q * b + a * 4294967296 + b := by rw [Int.add_mul, expand2]; omega
theorem DInv.start {U v a b : Int} (h : DIn U v a b) : DInv U v a b (U / a) (U - U / a * a) ∧ U - U / a * a < a := by
 obtain ⟨a0, aB, b0, bB, v0, vB, u0, uB⟩ := h
 have e := Int.mul_ediv_add_emod U a
 have e1 := Int.emod_nonneg U (show a ≠ 0 by omega)
 have e2 := Int.emod_lt_of_pos U (show 0 < a by omega)
 have q0 : 0 ≤ U / a := Int.ediv_nonneg u0 (by omega)
 rw [Int.mul_comm] at e
 generalize U / a = q at e q0
 generalize U % a = r at e e1 e2
 refine ⟨⟨by omega, by omega, q0, ?_, ?_⟩, by omega⟩
 ·by_cases hq : q ≤ 4294967297
  ·exact hq
  ·exfalso
   have : 4294967298 * a ≤ q * a := Int.mul_le_mul_of_nonneg_right (by omega) (by omega)
   omega
 ·rw [expand1]
  have : 0 ≤ q * b := Int.mul_nonneg q0 b0
  omega
def dAsk (v b q r : Int) : Bool := decide (4294967296 ≤ q) || decide (4294967296 * r + v < q * b)
theorem DInv.step {U v a b q r : Int} (h : DIn U v a b) (i : DInv U v a b q r) (hc : dAsk v b q r = true) : DInv U v a b (q - 1) (r + a) ∧ 1 ≤ q := by
 obtain ⟨a0, aB, b0, bB, v0, vB, u0, uB⟩ := h
 obtain ⟨eq, r0, q0, qB, ge⟩ := i
 have hlt : U * 4294967296 + v < q * (a * 4294967296 + b) := by
  rw [expand2]
  by_cases hq : 4294967296 ≤ q
  ·have h1 : 4294967296 * a ≤ q * a := Int.mul_le_mul_of_nonneg_right hq (by omega)
   have h2 : 4294967296 * b ≤ q * b := Int.mul_le_mul_of_nonneg_right hq (by omega)
   omega
  ·unfold dAsk at hc
   simp [hq] at hc
   omega
 have q1 : 1 ≤ q := by
  by_cases h : 1 ≤ q
  ·exact h
  ·exfalso
   have : q = 0 := by omega
   subst this
   omega
 refine ⟨⟨by rw [Int.sub_mul]; omega, by omega, by omega, by omega, ?_⟩, q1⟩
 rw [show q - 1 + 1 = q by omega]
 exact hlt
theorem DInv.stop {U v a b q r : Int} (h : DIn U v a b) (i : DInv U v a b q r) (hc : dAsk v b q r = false) : q = (U * 4294967296 + v) / (a * 4294967296 + b) := by
 obtain ⟨a0, aB, b0, bB, v0, vB, u0, uB⟩ := h
 obtain ⟨eq, r0, q0, qB, ge⟩ := i
 refine (div_is ?_ ge (by omega)).symm
 rw [expand2]
 unfold dAsk at hc
 simp at hc
 omega
theorem DInv.over {U v a b q r : Int} (h : DIn U v a b) (i : DInv U v a b q r) (hq : q ≤ 4294967296) (hc : 4294967296 ≤ r) : q = (U * 4294967296 + v) / (a * 4294967296 + b) := by
 obtain ⟨a0, aB, b0, bB, v0, vB, u0, uB⟩ := h
 obtain ⟨eq, r0, q0, qB, ge⟩ := i
 refine (div_is ?_ ge (by omega)).symm
 rw [expand2]
 have : q * b ≤ 4294967296 * b := Int.mul_le_mul_of_nonneg_right hq b0
 omega
theorem DIn.quo {U v a b q : Int} (h : DIn U v a b) (hq : q = (U * 4294967296 + v) / (a * 4294967296 + b)) : 0 ≤ q ∧ q < 4294967296 ∧ 0 ≤ U * 4294967296 + v - q * (a * 4294967296 + b) ∧ U * 4294967296 + v - q * (a * 4294967296 + b) < a * 4294967296 + b := by
 obtain ⟨a0, aB, b0, bB, v0, vB, u0, uB⟩ := h
 have e := Int.mul_ediv_add_emod (U * 4294967296 + v) (a * 4294967296 + b)
 have e1 := Int.emod_nonneg (U * 4294967296 + v) (show a * 4294967296 + b ≠ 0 by omega)
 have e2 := Int.emod_lt_of_pos (U * 4294967296 + v) (show 0 < a * 4294967296 + b by omega)
 rw [← hq, Int.mul_comm] at e
 have l1 : (U * 4294967296 + v) / (a * 4294967296 + b) < 4294967296 := Int.ediv_lt_of_lt_mul (by omega) (by omega)
 have l2 : 0 ≤ (U * 4294967296 + v) / (a * 4294967296 + b) := Int.ediv_nonneg (by omega) (by omega)
 rw [← hq] at l1 l2
 omega
theorem DInv.mul_le {U v a b q r : Int} (h : DIn U v a b) (i : DInv U v a b q r) : 0 ≤ q * b ∧ q * b ≤ 18446744073709551615 := by
 have h1 : q * b ≤ 4294967297 * b := Int.mul_le_mul_of_nonneg_right i.qB h.b0
 have h2 := h.bB
 exact ⟨Int.mul_nonneg i.q0 h.b0, by omega⟩
theorem pow_split {s : Nat} (hs : s ≤ 64) : (2 : Int) ^ s * 2 ^ (64 - s) = 18446744073709551616 := by
 rw [← Int.pow_add, show s + (64 - s) = 64 by omega]; rfl
theorem words {hi lo P T : Int} (hP : 0 < P) (hPT : P * T = 18446744073709551616) : (hi * P + lo / T) * 18446744073709551616 + lo * P % 18446744073709551616 = (hi * 18446744073709551616 + lo) * P := by
 have hT : lo / T = lo * P / 18446744073709551616 := by rw [← hPT, Int.mul_comm lo P, Int.mul_ediv_mul_of_pos _ _ hP]
 rw [hT]
 have e := Int.mul_ediv_add_emod (lo * P) 18446744073709551616
 rw [Int.add_mul (hi * 18446744073709551616), Int.mul_right_comm]
 omega
theorem div_end {n y P U u1 u0 d q1 q0 : Int} (hP : 0 < P) (hd : d = y * P) (hn : U * 18446744073709551616 + (u1 * 4294967296 + u0) = n * P)
  (h2 : q0 = ((U * 4294967296 + u1 - q1 * d) * 4294967296 + u0) / d) (hy : 0 < y) :
  q1 * 4294967296 + q0 = n / y ∧ ((U * 4294967296 + u1 - q1 * d) * 4294967296 + u0 - q0 * d) / P = n % y := by
 have hd0 : 0 < d := by rw [hd]; exact Int.mul_pos hy hP
 have e1 := Int.mul_ediv_add_emod (U * 4294967296 + u1) d
 have e2 := Int.mul_ediv_add_emod ((U * 4294967296 + u1 - q1 * d) * 4294967296 + u0) d
 have e3 := Int.emod_nonneg ((U * 4294967296 + u1 - q1 * d) * 4294967296 + u0) (show d ≠ 0 by omega)
 have e4 := Int.emod_lt_of_pos ((U * 4294967296 + u1 - q1 * d) * 4294967296 + u0) hd0
 rw [← h2, Int.mul_comm d q0] at e2
 generalize hR : ((U * 4294967296 + u1 - q1 * d) * 4294967296 + u0) % d = R at e2 e3 e4
 have hR2 : (U * 4294967296 + u1 - q1 * d) * 4294967296 + u0 - q0 * d = R := by omega
 rw [hR2]
 have hq : (q1 * 4294967296 + q0) * d = q1 * d * 4294967296 + q0 * d := by rw [Int.add_mul, Int.mul_right_comm]
 have hnP : n * P = (q1 * 4294967296 + q0) * y * P + R := by rw [← hn, Int.mul_assoc (q1 * 4294967296 + q0), ← hd, hq]; omega
 have hRP : R = (n - (q1 * 4294967296 + q0) * y) * P := by rw [Int.sub_mul]; omega
 have hdiv : R / P = n - (q1 * 4294967296 + q0) * y := by rw [hRP, Int.mul_ediv_cancel _ (by omega)]
 have hm0 : 0 ≤ n - (q1 * 4294967296 + q0) * y := by rw [← hdiv]; exact Int.ediv_nonneg e3 (by omega)
 have hm1 : n - (q1 * 4294967296 + q0) * y < y := by
  rw [← hdiv]
  exact Int.ediv_lt_of_lt_mul hP (by rw [← hd]; exact e4)
 have hnq : n / y = q1 * 4294967296 + q0 := div_is (by omega) (by rw [Int.add_mul]; omega) hy
 refine ⟨hnq.symm, ?_⟩
 rw [hdiv, Int.emod_def, hnq, Int.mul_comm y]
theorem shift_norm {y : Int} (h0 : 1 ≤ y) (h1 : y ≤ 18446744073709551615) : ∃ s : Nat, 64 - (Lib.bitLen y.toNat : Int) = s ∧ s ≤ 63 ∧ 9223372036854775808 ≤ y * 2 ^ s ∧ y * 2 ^ s ≤ 18446744073709551615 := by
 obtain ⟨y, rfl⟩ := Int.eq_ofNat_of_zero_le (show 0 ≤ y by omega)
 have hb : 1 ≤ Lib.bitLen y ∧ 2 ^ (Lib.bitLen y - 1) ≤ y ∧ y < 2 ^ Lib.bitLen y := Lib.bitLenAux_bounds 64 y (by omega) (by omega)
 have hle : Lib.bitLen y ≤ 64 := Lib.bitLen_le y 64 (Nat.le_refl _) (by omega)
 obtain ⟨b1, b2, b3⟩ := hb
 rw [Int.toNat_natCast]
 generalize Lib.bitLen y = k at *
 have s1 : 2 ^ (k - 1) * 2 ^ (64 - k) ≤ y * 2 ^ (64 - k) := Nat.mul_le_mul_right _ b2
 have s2 : (y + 1) * 2 ^ (64 - k) ≤ 2 ^ k * 2 ^ (64 - k) := Nat.mul_le_mul_right _ b3
 rw [← Nat.pow_add, show k - 1 + (64 - k) = 63 by omega] at s1
 rw [← Nat.pow_add, show k + (64 - k) = 64 by omega, Nat.add_mul] at s2
 have s3 : 0 < 2 ^ (64 - k) := Nat.pow_pos (by omega)
 refine ⟨64 - k, by omega, by omega, ?_, ?_⟩
 ·have : ((y * 2 ^ (64 - k) : Nat) : Int) = (y : Int) * 2 ^ (64 - k) := by rw [Int.natCast_mul, Int.natCast_pow]; rfl
  rw [← this]; omega
 ·have : ((y * 2 ^ (64 - k) : Nat) : Int) = (y : Int) * 2 ^ (64 - k) := by rw [Int.natCast_mul, Int.natCast_pow]; rfl
  rw [← this]; omega
/- Plain lists: where the first is of which something holds. -/
def idxOf {α : Type} (p : α → Bool) (l : List α) : Int := match l.findIdx? p with | some k => k | none => -1
theorem idx_hit {α : Type} {p : α → Bool} {l : List α} {k : Nat} (h : k < l.length) (hm : p l[k] = true) (hn : ∀ j (_ : j < l.length), j < k → p l[j] = false) : idxOf p l = k := by
 have : l.findIdx? p = some k := by
  rw [List.findIdx?_eq_some_iff_getElem]
  exact ⟨h, hm, fun j hj => by simp [hn j (by omega) hj]⟩
 simp [idxOf, this]
theorem idx_miss {α : Type} {p : α → Bool} {l : List α} (hn : ∀ j (_ : j < l.length), p l[j] = false) : idxOf p l = -1 := by
 have : l.findIdx? p = none := by
  rw [List.findIdx?_eq_none_iff]
  intro x hx
  obtain ⟨j, hj, rfl⟩ := List.mem_iff_getElem.1 hx
  exact hn j hj
 simp [idxOf, this]
/- Digits in tens. Plain. -/
def dgs : Nat → Nat → List Int
 | 0, _ => []
 | f + 1, m => (48 + m % 10 : Nat) :: (if m / 10 = 0 then [] else dgs f (m / 10))
def left (o : List Int) (f m : Nat) : List Int := if o = [] ∨ m ≠ 0 then dgs f m else []
def back (n : Int) : List Int := dgs 40 n.natAbs ++ (if n < 0 then [45] else [])
def turned (l : List Int) (i : Nat) : List Int := (List.range l.length).map fun x => if x < i ∨ l.length - 1 - i < x then l.getD (l.length - 1 - x) 0 else l.getD x 0
/- Plain lists: where the first is, in two cases. -/
theorem idxCases {α : Type} (p : α → Bool) (l : List α) : (∃ k, ∃ h : k < l.length, p l[k] = true ∧ (∀ j (_ : j < l.length), j < k → p l[j] = false) ∧ idxOf p l = k) ∨ ((∀ j (_ : j < l.length), p l[j] = false) ∧ idxOf p l = -1) := by
 unfold idxOf
 cases h : l.findIdx? p with
 | none =>
  right
  refine ⟨fun j hj => ?_, rfl⟩
  rw [List.findIdx?_eq_none_iff] at h
  exact h _ (List.getElem_mem hj)
 | some k =>
  left
  rw [List.findIdx?_eq_some_iff_getElem] at h
  obtain ⟨hk, h1, h2⟩ := h
  exact ⟨k, hk, h1, fun j hj hjk => by have := h2 j hjk; simpa using this, rfl⟩
end Go.Proofs.YtalgfpegaobacaaGreatDoor
