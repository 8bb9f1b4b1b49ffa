/- Joined. -/
import Derived.Test.YtalgfpegaobacaaGreatDoorQz7
namespace Go.Proofs.YtalgfpegaobacaaGreatDoor
set_option linter.all false
set_option maxHeartbeats 4000000
set_option maxRecDepth 100000
open Go.RowKit
open Lib (hid)
theorem risC_pair : ∀ {l : List Int} {p : Int} (_ : risC p l = true), l.Pairwise (· < ·) ∧ ∀ c ∈ l, p < c ∧ c ≤ 16
 | [], _, _ => by simp
 | d :: t, p, h => by
  rw [risC_cons] at h
  have ⟨h1, h2⟩ := risC_pair h.2.2
  refine ⟨List.pairwise_cons.2 ⟨fun c hc => (h2 c hc).1, h1⟩, fun c hc => ?_⟩
  rcases List.mem_cons.1 hc with rfl | hc
  ·omega
  ·have := h2 c hc; omega
def hasA (x : Acct) (u : Un) : Bool := decide (u ∈ unitsA x)
theorem units_len (x : Acct) : (unitsA x).length ≤ x.clients.length + 1 := by
 unfold unitsA; split <;> simp
end Go.Proofs.YtalgfpegaobacaaGreatDoor
