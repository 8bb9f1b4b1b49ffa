/- Contracts of fix.Sum, Product. -/
import Derived.Test.YtpjehhkmdndcmaaFix1
import Derived.Test.YtpjehhkmdndcmaaWide6
namespace Go.Proofs.Ytpjehhkmdndcmaa
open Go.RowKit
theorem elW : Elem Try.prog 135 28 2 16 := elem_of Try.underlying135 (z := .agg #[.int .i64 0, .int .u64 0]) (by kernel_rfl) rfl (by omega)
theorem sum64_bound (l : List Int) (hin : ∀ n ∈ l, In64 n) : -(l.length * 9223372036854775808 : Int) ≤ l.sum ∧ l.sum ≤ l.length * 9223372036854775808 := by
  induction l with
  | nil => simp
  | cons a l ih =>
    have h1 := hin a (by simp)
    have h2 := ih (fun n hn => hin n (by simp [hn]))
    unfold In64 at h1
    simp only [List.sum_cons, List.length_cons]
    omega
end Go.Proofs.Ytpjehhkmdndcmaa
