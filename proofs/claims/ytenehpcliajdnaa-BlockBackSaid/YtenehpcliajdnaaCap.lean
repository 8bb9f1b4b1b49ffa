/- What a closure holds. No program in sight. -/
import Derived.Test.YtenehpcliajdnaaNum
namespace Go.Proofs.Ytenehpcliajdnaa
open Go.RowKit
/-- What a closure holds of one variable: its cells. -/
def CapC (w : World) (g : Nat) (vs : List Value) : Prop := g < w.heap.size ∧ ∀ (j : Nat) (v : Value), vs[j]? = some v → w.cell? ⟨g, j, none⟩ = some v
theorem CapC.keep {w w' : World} {g : Nat} {vs : List Value} (h : CapC w g vs) (hb : Below w.heap.size w w') : CapC w' g vs := ⟨Nat.lt_of_lt_of_le h.1 hb.size, fun j v hv => cell_via hb h.1 (h.2 j v hv)⟩
theorem CapC.low {w w' : World} {g B : Nat} {vs : List Value} (h : CapC w g vs) (hg : g < B) (hb : Below B w w') : CapC w' g vs := ⟨Nat.lt_of_lt_of_le h.1 hb.size, fun j v hv => cell_via hb hg (h.2 j v hv)⟩
end Go.Proofs.Ytenehpcliajdnaa
