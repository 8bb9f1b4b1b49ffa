/- A function whose result is a big number in a cell of its own: its end. -/
import Derived.Test.YtemhhojenocddaaBig7
namespace Go.Proofs.Ytemhhojenocddaa
open Go.RowKit
theorem bigRet {fn : Func} {slot : Nat} (hfn : fn.results = #[.cell slot 69]) {a : Act} {w wf : World} {g L : Nat} {n : Int} {s : Bool} {A : Option Addr} {l : List Int} {c : Nat}
    (ha : a.tmps[slot]?.getD undef = .pointer (some ⟨g, 0, none⟩)) (hd : a.defers = []) (h0 : wf.cell? ⟨g, 0, none⟩ = some (.bool false)) (h1 : wf.cell? ⟨g, 1, none⟩ = some (.slice none 0 0))
    (hB : IsBig wf n s A l c) (hl : l.length ≤ L) (hb : Below w.heap.size w ((wf.setCell ⟨g, 0, none⟩ (.bool s)).setCell ⟨g, 1, none⟩ (.slice A l.length c))) :
    bodyPost Try.prog fn (BigPost w n L) .ret a ((wf.setCell ⟨g, 0, none⟩ (.bool s)).setCell ⟨g, 1, none⟩ (.slice A l.length c)) := by
  refine bodyPost_ret (v := .agg #[.bool s, .slice A l.length c]) (by simp [results, hfn, ha, go_sem, h0, h1]; try rfl) hd ⟨s, A, l, c, rfl, (hB.far h0 (by simp) _).far ((World.cell?_setCell_other _ _ _ _ (by simp)).trans h1) (by simp) _, hl, hb⟩
end Go.Proofs.Ytemhhojenocddaa
