/- Instruments handed in. -/
import Derived.Test.YtpjehhkmdndcmaaIntsOpen
import Derived.Test.YtpjehhkmdndcmaaInstT
namespace Go.Proofs.Ytpjehhkmdndcmaa
open Go.ChangeShapes Go.WideShapes Go.ChangeAt Go.RowKit Go.Joins
def okInst (x : Inst) : Prop := In64 x.id ∧ In64 x.mult ∧ In64 x.price ∧ In64 x.next ∧ ∀ m ∈ x.moves, In64 m
set_option maxRecDepth 100000 in
theorem Inst_cells {H : Type} {enc : TypeId × Value → H} {W : World} {spare : Nat → Bool} {held : Bool} (cs : List Value) (n : Nat) (y : DataW H × List MemPlace) (hlen : cs.length = 5) (h : DataW.trod enc Try.prog W 0 spare held n 24 cs = some y) :
    ∃ (x : Inst) (A : Option Addr) (c : Nat), okInst x ∧ cs = [.int .i64 x.id, .int .i64 x.mult, .int .i64 x.price, .int .i64 x.next, .slice A x.moves.length c] ∧ Rs W 1 (x.moves.map encI) A c := by
  obtain ⟨xs, n, _, rfl, _, hxs, hf⟩ := DataW.trod_struct Try.underlying24 h
  match cs, hlen, xs, hxs with
  | [c0, c1, c2, c3, c4], _, [y0, y1, y2, y3, y4], _ =>
    have h0 : DataW.trod enc Try.prog W 0 spare held n 3 (([c0, c1, c2, c3, c4].drop 0).take (Try.prog.cellsOf 3)) = some y0 := hf 0 _ rfl
    have h1 : DataW.trod enc Try.prog W 0 spare held n 2 (([c0, c1, c2, c3, c4].drop 1).take (Try.prog.cellsOf 2)) = some y1 := hf 1 _ rfl
    have h2 : DataW.trod enc Try.prog W 0 spare held n 2 (([c0, c1, c2, c3, c4].drop 2).take (Try.prog.cellsOf 2)) = some y2 := hf 2 _ rfl
    have h3 : DataW.trod enc Try.prog W 0 spare held n 2 (([c0, c1, c2, c3, c4].drop 3).take (Try.prog.cellsOf 2)) = some y3 := hf 3 _ rfl
    have h4 : DataW.trod enc Try.prog W 0 spare held n 22 (([c0, c1, c2, c3, c4].drop 4).take (Try.prog.cellsOf 22)) = some y4 := hf 4 _ rfl
    obtain ⟨x0, e0, _, w0⟩ := DataW.trod_int (k := .i64) (by kernel_rfl) h0
    obtain ⟨x1, e1, _, w1⟩ := DataW.trod_int (k := .i64) (by kernel_rfl) h1
    obtain ⟨x2, e2, _, w2⟩ := DataW.trod_int (k := .i64) (by kernel_rfl) h2
    obtain ⟨x3, e3, _, w3⟩ := DataW.trod_int (k := .i64) (by kernel_rfl) h3
    obtain ⟨l, A, c, e4⟩ := ints_cells h4
    have e5 := e4.eq
    rw [show Try.prog.cellsOf _ = 1 from by kernel_rfl] at e0 e1 e2 e3 e5
    simp at e0 e1 e2 e3 e5
    subst e0 e1 e2 e3 e5
    exact ⟨⟨x0, x1, x2, x3, l⟩, A, c, ⟨in64_of_wf w0, in64_of_wf w1, in64_of_wf w2, in64_of_wf w3, e4.ok⟩, rfl, e4.rs⟩
set_option maxRecDepth 100000 in
theorem Inst_open {H : Type} {enc : TypeId × Value → H} {W : World} {spare : Nat → Bool} {held : Bool} {r : Reach} {b0 : Nat} {v : Value} {d : DataW H} {p : List MemPlace} (hv : Value.okWide Try.prog W r b0 24 v) (h : DataW.Trod enc Try.prog W 0 spare held 24 v d p) :
    ∃ (x : Inst) (A : Option Addr) (c : Nat), okInst x ∧ v = .agg #[.int .i64 (x).id, .int .i64 (x).mult, .int .i64 (x).price, .int .i64 (x).next, .slice A (x).moves.length c] ∧ Rs W 1 (x.moves.map encI) A c := by
  obtain ⟨cs, rfl, hsz⟩ := okWide_struct Try.underlying24 hv
  obtain ⟨fuel, hf⟩ := h
  rw [show Try.prog.cellsOf _ = 5 from by kernel_rfl] at hsz
  obtain ⟨x, A, c, hx, he, hr⟩ := Inst_cells cs.toList fuel _ (by simpa using hsz) (by simpa [Value.cells] using hf)
  refine ⟨x, A, c, hx, ?_, hr⟩
  obtain ⟨l⟩ := cs
  simp only at he
  rw [he]
end Go.Proofs.Ytpjehhkmdndcmaa
