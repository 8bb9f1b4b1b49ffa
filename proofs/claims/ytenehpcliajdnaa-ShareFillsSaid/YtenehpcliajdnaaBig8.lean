/- The contract of the reference's Wide. -/
import Derived.Test.YtenehpcliajdnaaBig6
import Derived.Test.YtenehpcliajdnaaBits1
namespace Go.Proofs.Ytenehpcliajdnaa
open Go.RowKit
theorem encB_one (l : List Int) : ∀ r ∈ l.map encB, r.length = 1 ∧ ∀ u ∈ r, u.oneCell' = true := by
  intro r hr
  obtain ⟨m, _, rfl⟩ := List.mem_map.1 hr
  refine ⟨rfl, ?_⟩
  simp only [encB, List.mem_cons, List.not_mem_nil, or_false, forall_eq]
  rfl
theorem IsBig.up {w w' : World} {x : Int} {s : Bool} {A B : Option Addr} {l : List Int} {c d : Nat} (h : IsBig w x s A l c) (hne : l ≠ []) (hr : Rd w' B 1 ((0 :: l).map encB)) (hc : (0 :: l).length ≤ d) (hm : d ≤ maxLen) : IsBig w' (2 * x) s B (0 :: l) d := by
  refine ⟨hr, bit_cons h.bit (by omega) (by omega), top_cons h.top hne, ?_, hc, hm, ?_⟩
  · rw [val_cons, h.val]; unfold iabs; split <;> split <;> omega
  · rw [h.sgn, decide_eq_decide]; omega
theorem pw64 : pw 64 = 18446744073709551616 := by decide
end Go.Proofs.Ytenehpcliajdnaa
