/- Groups handed in. -/
import Derived.Test.YtenehpcliajdnaaOpen
import Derived.Test.YtenehpcliajdnaaBlkT
namespace Go.Proofs.Ytenehpcliajdnaa
open Go.ChangeShapes Go.WideShapes Go.ChangeAt Go.RowKit Go.Joins
set_option maxRecDepth 100000 in
theorem Un_cells {H : Type} {enc : TypeId × Value → H} {W : World} {spare : Nat → Bool} {held : Bool} (cs : List Value) (n : Nat) (y : DataW H × List MemPlace) (hlen : cs.length = 2) (h : DataW.trod enc Try.prog W 0 spare held n 49 cs = some y) : ∃ x : Un, okUn x ∧ cs = encUn x := by
  obtain ⟨xs, n, _, rfl, _, hxs, hf⟩ := DataW.trod_struct Try.underlying49 h
  match cs, hlen, xs, hxs with
  | [c0, c1], _, [y0, y1], _ =>
    have h0 : DataW.trod enc Try.prog W 0 spare held n 3 (([c0, c1].drop 0).take (Try.prog.cellsOf 3)) = some y0 := hf 0 _ rfl
    have h1 : DataW.trod enc Try.prog W 0 spare held n 3 (([c0, c1].drop 1).take (Try.prog.cellsOf 3)) = some y1 := hf 1 _ rfl
    obtain ⟨x0, e0, _, w0⟩ := DataW.trod_int (k := .i64) (by kernel_rfl) h0
    rw [show Try.prog.cellsOf _ = 1 from by kernel_rfl] at e0
    simp at e0
    subst e0
    obtain ⟨x1, e1, _, w1⟩ := DataW.trod_int (k := .i64) (by kernel_rfl) h1
    rw [show Try.prog.cellsOf _ = 1 from by kernel_rfl] at e1
    simp at e1
    subst e1
    exact ⟨⟨x0, x1⟩, ⟨in64_of_wf w0, in64_of_wf w1⟩, rfl⟩
set_option maxRecDepth 100000 in
theorem Un_open {H : Type} {enc : TypeId × Value → H} {W : World} {spare : Nat → Bool} {held : Bool} {r : Reach} {b0 : Nat} {v : Value} {d : DataW H} {p : List MemPlace} (hv : Value.okWide Try.prog W r b0 49 v) (h : DataW.Trod enc Try.prog W 0 spare held 49 v d p) : ∃ x : Un, okUn x ∧ v = .agg #[.int .i64 x.acc, .int .i64 x.cli] := by
  obtain ⟨cs, rfl, hsz⟩ := okWide_struct Try.underlying49 hv
  obtain ⟨fuel, hf⟩ := h
  rw [show Try.prog.cellsOf _ = 2 from by kernel_rfl] at hsz
  obtain ⟨x, hx, he⟩ := Un_cells cs.toList fuel _ (by simpa using hsz) (by simpa [Value.cells] using hf)
  refine ⟨x, hx, ?_⟩
  obtain ⟨l⟩ := cs
  simp only at he
  rw [he]; rfl
set_option maxRecDepth 100000 in
theorem Group_cells {H : Type} {enc : TypeId × Value → H} {W : World} {spare : Nat → Bool} {held : Bool} (cs : List Value) (n : Nat) (y : DataW H × List MemPlace) (hlen : cs.length = 6) (h : DataW.trod enc Try.prog W 0 spare held n 51 cs = some y) : ∃ x : Group, okGroup x ∧ cs = encGroup x := by
  obtain ⟨xs, n, _, rfl, _, hxs, hf⟩ := DataW.trod_struct Try.underlying51 h
  match cs, hlen, xs, hxs with
  | [c0, c1, c2, c3, c4, c5], _, [y0, y1, y2, y3, y4], _ =>
    have h0 : DataW.trod enc Try.prog W 0 spare held n 3 (([c0, c1, c2, c3, c4, c5].drop 0).take (Try.prog.cellsOf 3)) = some y0 := hf 0 _ rfl
    have h1 : DataW.trod enc Try.prog W 0 spare held n 49 (([c0, c1, c2, c3, c4, c5].drop 1).take (Try.prog.cellsOf 49)) = some y1 := hf 1 _ rfl
    have h2 : DataW.trod enc Try.prog W 0 spare held n 3 (([c0, c1, c2, c3, c4, c5].drop 3).take (Try.prog.cellsOf 3)) = some y2 := hf 2 _ rfl
    have h3 : DataW.trod enc Try.prog W 0 spare held n 2 (([c0, c1, c2, c3, c4, c5].drop 4).take (Try.prog.cellsOf 2)) = some y3 := hf 3 _ rfl
    have h4 : DataW.trod enc Try.prog W 0 spare held n 2 (([c0, c1, c2, c3, c4, c5].drop 5).take (Try.prog.cellsOf 2)) = some y4 := hf 4 _ rfl
    obtain ⟨x0, e0, _, w0⟩ := DataW.trod_int (k := .i64) (by kernel_rfl) h0
    rw [show Try.prog.cellsOf _ = 1 from by kernel_rfl] at e0
    simp at e0
    subst e0
    rw [show Try.prog.cellsOf _ = 2 from by kernel_rfl] at h1
    obtain ⟨x1, w1, e1⟩ := Un_cells [c1, c2] n _ rfl h1
    simp only [encUn, List.cons.injEq, and_true] at e1
    obtain ⟨rfl, rfl⟩ := e1
    obtain ⟨x2, e2, _, w2⟩ := DataW.trod_int (k := .i64) (by kernel_rfl) h2
    rw [show Try.prog.cellsOf _ = 1 from by kernel_rfl] at e2
    simp at e2
    subst e2
    obtain ⟨x3, e3, _, w3⟩ := DataW.trod_int (k := .i64) (by kernel_rfl) h3
    rw [show Try.prog.cellsOf _ = 1 from by kernel_rfl] at e3
    simp at e3
    subst e3
    obtain ⟨x4, e4, _, w4⟩ := DataW.trod_int (k := .i64) (by kernel_rfl) h4
    rw [show Try.prog.cellsOf _ = 1 from by kernel_rfl] at e4
    simp at e4
    subst e4
    exact ⟨⟨x0, x1, x2, x3, x4⟩, ⟨in64_of_wf w0, w1.1, w1.2, in64_of_wf w2, in64_of_wf w3, in64_of_wf w4⟩, rfl⟩
set_option maxRecDepth 100000 in
theorem Group_open {H : Type} {enc : TypeId × Value → H} {W : World} {spare : Nat → Bool} {held : Bool} {r : Reach} {b0 : Nat} {v : Value} {d : DataW H} {p : List MemPlace} (hv : Value.okWide Try.prog W r b0 51 v) (h : DataW.Trod enc Try.prog W 0 spare held 51 v d p) : ∃ x : Group, okGroup x ∧ v = .agg #[.int .i64 x.id, .int .i64 x.unit.acc, .int .i64 x.unit.cli, .int .i64 x.inst, .int .i64 x.price, .int .i64 x.left] := by
  obtain ⟨cs, rfl, hsz⟩ := okWide_struct Try.underlying51 hv
  obtain ⟨fuel, hf⟩ := h
  rw [show Try.prog.cellsOf _ = 6 from by kernel_rfl] at hsz
  obtain ⟨x, hx, he⟩ := Group_cells cs.toList fuel _ (by simpa using hsz) (by simpa [Value.cells] using hf)
  refine ⟨x, hx, ?_⟩
  obtain ⟨l⟩ := cs
  simp only at he
  rw [he]; rfl
set_option maxRecDepth 100000 in
theorem groups_open {H : Type} {enc : TypeId × Value → H} {W : World} {spare : Nat → Bool} {held : Bool} {base : Nat} {r : Reach} {v : Value} {d : DataW H} {p : List MemPlace}
    (hv : Value.okWide Try.prog W r base 45 v) (h : DataW.Trod enc Try.prog W 0 spare held 45 v d p) :
    ∃ (l : List Group) (A : Option Addr) (c : Nat), v = .slice A l.length c ∧ l.length ≤ maxLen ∧ (∀ x ∈ l, okGroup x) ∧ Rs W 6 (l.map encGroup) A c := by
  obtain ⟨a0, len0, cap0, rfl⟩ := okWide_slice Try.underlying45 hv
  obtain ⟨fuel, hf⟩ := h
  obtain ⟨l, A, c, h1, h2, h3, h4, h5, h6⟩ := slice_open0 (enc1 := encGroup) Try.underlying45 (by kernel_rfl) (fun cs n y => Group_cells cs n y) (fun _ _ => rfl) (by omega) hf
  simp [Value.cells] at h1
  obtain ⟨rfl, rfl, rfl⟩ := h1
  exact ⟨l, _, _, rfl, Nat.le_trans h3 h4, h2, ⟨h6, by rw [List.length_map]; exact h3, h4, h5⟩⟩
end Go.Proofs.Ytenehpcliajdnaa
