/- Joined. -/
import Derived.Test.YtalgfpegaobacaaGreatDoorQa1
import Derived.Test.YtalgfpegaobacaaGreatDoorQz14
import Derived.Test.YtalgfpegaobacaaGreatDoorQa7
namespace Go.Proofs.YtalgfpegaobacaaGreatDoor
set_option linter.all false
open Go.RowKit
theorem addr_plain (b o j : Nat) : (⟨b, o, none⟩ : Addr).add j = ⟨b, o + j, none⟩ := by unfold Addr.add; split <;> simp_all
end Go.Proofs.YtalgfpegaobacaaGreatDoor
