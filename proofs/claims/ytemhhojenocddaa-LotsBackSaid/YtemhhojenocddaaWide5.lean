/- Contracts of wide.Sub, Add. -/
import Derived.Test.YtemhhojenocddaaWide4
namespace Go.Proofs.Ytemhhojenocddaa
open Go.RowKit
theorem tot_zero : tot 0 = #[.int .i64 0, .int .i64 0, .int .u64 0] := by simp [tot, whi, wlo, wrap128]
theorem not_u64 (x : Int) (h : 0 ≤ x) (h' : x ≤ 18446744073709551615) : bits .xor .u64 IntKind.u64.max x = 18446744073709551615 - x := by
  obtain ⟨x, rfl⟩ := Int.eq_ofNat_of_zero_le h
  show IntKind.u64.wrap ((BitVec.ofInt 64 IntKind.u64.max ^^^ BitVec.ofInt 64 (x : Int)).toNat : Int) = _
  have e : BitVec.ofInt 64 IntKind.u64.max = BitVec.allOnes 64 := by decide
  rw [e, BitVec.allOnes_xor, BitVec.toNat_not, BitVec.ofInt_natCast, BitVec.toNat_ofNat, IntKind.wrap_u64]
  omega
theorem not_i64 (x : Int) (h : -9223372036854775808 ≤ x) (h' : x ≤ 9223372036854775807) : bits .xor .i64 (-1) x = - x - 1 := by
  show IntKind.i64.wrap ((BitVec.ofInt 64 (-1) ^^^ BitVec.ofInt 64 x).toNat : Int) = _
  have e : BitVec.ofInt 64 (-1) = BitVec.allOnes 64 := by decide
  rw [e, BitVec.allOnes_xor, BitVec.toNat_not, BitVec.toNat_ofInt, IntKind.wrap_i64]
  omega
theorem not_hi (b : Int) (hb : In128 b) : bits .xor .i64 (-1) (whi b) = whi (- b - 1) := by
  have h := whi_i hb
  rw [not_i64 _ h.1 h.2]; unfold whi; omega
theorem not_lo (b : Int) : bits .xor .u64 IntKind.u64.max (wlo b) = wlo (- b - 1) := by
  have h := wlo_u b
  rw [not_u64 _ h.1 h.2]; unfold wlo; omega
end Go.Proofs.Ytemhhojenocddaa
