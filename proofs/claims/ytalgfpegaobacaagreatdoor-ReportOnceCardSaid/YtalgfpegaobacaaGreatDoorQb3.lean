/- Joined. -/
import Derived.Test.YtalgfpegaobacaaGreatDoorQb1
import Derived.Test.YtalgfpegaobacaaGreatDoorQz18
namespace Go.Proofs.YtalgfpegaobacaaGreatDoor
set_option linter.all false
open Go.RowKit
theorem units_nodup {x : Acct} (h : okAAc x) : (unitsA x).Nodup := by
 unfold unitsA
 split
 ·simp
 ·have hp := (risC_pair h.2.2.2.2).1
  unfold List.Nodup
  rw [List.pairwise_map]
  exact hp.imp fun hab he => by
   injection he with _ h2
   omega
end Go.Proofs.YtalgfpegaobacaaGreatDoor
