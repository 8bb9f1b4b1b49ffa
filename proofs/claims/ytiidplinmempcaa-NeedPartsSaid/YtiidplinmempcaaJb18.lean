/- Joined: IntsOpen, AcctOpen. -/
import Derived.Test.YtiidplinmempcaaJz8
import Derived.Test.YtiidplinmempcaaJb6
/- Rows of whole numbers handed in. -/
namespace Go.Proofs.Ytiidplinmempcaa
open Go.ChangeShapes Go.WideShapes Go.ChangeAt Go.RowKit Go.Joins
set_option maxRecDepth 100000 in
theorem J_cells {H : Type} {enc : TypeId × Value → H} {W : World} {spare : Nat → Bool} {held : Bool} {t : TypeId} (ht : (t = 2 ∨ t = 3)) (cs : List Value) (n : Nat) (y : DataW H × List MemPlace) (_hlen : cs.length = 1) (h : DataW.trod enc Try.prog W 0 spare held n t cs = some y) : ∃ x : Int, In64 x ∧ cs = encI x := by
  rcases ht with rfl | rfl
  · obtain ⟨x0, e0, _, w0⟩ := DataW.trod_int (k := .i64) (by kernel_rfl) h
    exact ⟨x0, in64_of_wf w0, e0⟩
  · obtain ⟨x0, e0, _, w0⟩ := DataW.trod_int (k := .i64) (by kernel_rfl) h
    exact ⟨x0, in64_of_wf w0, e0⟩
/-- The cell of a slice of whole numbers. -/
structure IntsC (W : World) (cs : List Value) (l : List Int) (A : Option Addr) (c : Nat) : Prop where
  eq : cs = [.slice A l.length c]
  ok : ∀ x ∈ l, In64 x
  rs : Rs W 1 (l.map encI) A c
set_option maxRecDepth 100000 in
theorem ints_cells {H : Type} {enc : TypeId × Value → H} {W : World} {spare : Nat → Bool} {held : Bool} {n : Nat} {cs : List Value} {y : DataW H × List MemPlace} (h : DataW.trod enc Try.prog W 0 spare held n 110 cs = some y) : ∃ l A c, IntsC W cs l A c := by
  obtain ⟨l, A, c, h1, h2, h3, h4, h5, h6⟩ := slice_open0 (enc1 := encI) Try.underlying110 (by kernel_rfl) (fun cs n y => J_cells (.inl rfl) cs n y) (fun _ _ => rfl) (by omega) h
  exact ⟨l, A, c, h1, h2, h6, by rw [List.length_map]; exact h3, h4, h5⟩
set_option maxRecDepth 100000 in
theorem nats_cells {H : Type} {enc : TypeId × Value → H} {W : World} {spare : Nat → Bool} {held : Bool} {n : Nat} {cs : List Value} {y : DataW H × List MemPlace} (h : DataW.trod enc Try.prog W 0 spare held n 87 cs = some y) : ∃ l A c, IntsC W cs l A c := by
  obtain ⟨l, A, c, h1, h2, h3, h4, h5, h6⟩ := slice_open0 (enc1 := encI) Try.underlying87 (by kernel_rfl) (fun cs n y => J_cells (.inr rfl) cs n y) (fun _ _ => rfl) (by omega) h
  exact ⟨l, A, c, h1, h2, h6, by rw [List.length_map]; exact h3, h4, h5⟩
end Go.Proofs.Ytiidplinmempcaa

/- Accounts, units handed in. -/
namespace Go.Proofs.Ytiidplinmempcaa
open Go.ChangeShapes Go.WideShapes Go.ChangeAt Go.RowKit Go.Joins
set_option maxRecDepth 100000 in
theorem Un_cells {H : Type} {enc : TypeId × Value → H} {W : World} {spare : Nat → Bool} {held : Bool} (cs : List Value) (n : Nat) (y : DataW H × List MemPlace) (hlen : cs.length = 2) (h : DataW.trod enc Try.prog W 0 spare held n 60 cs = some y) : ∃ x : Un, okUn x ∧ cs = encUn x := by
  obtain ⟨xs, n, _, rfl, _, hxs, hf⟩ := DataW.trod_struct Try.underlying60 h
  match cs, hlen, xs, hxs with
  | [c0, c1], _, [y0, y1], _ =>
    have h0 : DataW.trod enc Try.prog W 0 spare held n 3 (([c0, c1].drop 0).take (Try.prog.cellsOf 3)) = some y0 := hf 0 _ rfl
    have h1 : DataW.trod enc Try.prog W 0 spare held n 3 (([c0, c1].drop 1).take (Try.prog.cellsOf 3)) = some y1 := hf 1 _ rfl
    obtain ⟨x0, e0, _, w0⟩ := DataW.trod_int (k := .i64) (by kernel_rfl) h0
    rw [show Try.prog.cellsOf _ = 1 from by kernel_rfl] at e0
    simp at e0
    subst e0
    obtain ⟨x1, e1, _, w1⟩ := DataW.trod_int (k := .i64) (by kernel_rfl) h1
    rw [show Try.prog.cellsOf _ = 1 from by kernel_rfl] at e1
    simp at e1
    subst e1
    exact ⟨⟨x0, x1⟩, ⟨in64_of_wf w0, in64_of_wf w1⟩, rfl⟩
set_option maxRecDepth 100000 in
theorem Un_open {H : Type} {enc : TypeId × Value → H} {W : World} {spare : Nat → Bool} {held : Bool} {r : Reach} {b0 : Nat} {v : Value} {d : DataW H} {p : List MemPlace} (hv : Value.okWide Try.prog W r b0 60 v) (h : DataW.Trod enc Try.prog W 0 spare held 60 v d p) : ∃ x : Un, okUn x ∧ v = .agg #[.int .i64 x.acc, .int .i64 x.cli] := by
  obtain ⟨cs, rfl, hsz⟩ := okWide_struct Try.underlying60 hv
  obtain ⟨fuel, hf⟩ := h
  rw [show Try.prog.cellsOf _ = 2 from by kernel_rfl] at hsz
  obtain ⟨x, hx, he⟩ := Un_cells cs.toList fuel _ (by simpa using hsz) (by simpa [Value.cells] using hf)
  refine ⟨x, hx, ?_⟩
  obtain ⟨l⟩ := cs
  simp only at he
  rw [he]; rfl
set_option maxRecDepth 100000 in
theorem Acct_cells {H : Type} {enc : TypeId × Value → H} {W : World} {spare : Nat → Bool} {held : Bool} (cs : List Value) (n : Nat) (y : DataW H × List MemPlace) (hlen : cs.length = 4) (h : DataW.trod enc Try.prog W 0 spare held n 89 cs = some y) :
    ∃ x : AcctV, cs = encAcctV x ∧ GoodA W x := by
  obtain ⟨xs, n, _, rfl, _, hxs, hf⟩ := DataW.trod_struct Try.underlying89 h
  match cs, hlen, xs, hxs with
  | [c0, c1, c2, c3], _, [y0, y1, y2, y3], _ =>
    have h0 : DataW.trod enc Try.prog W 0 spare held n 3 (([c0, c1, c2, c3].drop 0).take (Try.prog.cellsOf 3)) = some y0 := hf 0 _ rfl
    have h1 : DataW.trod enc Try.prog W 0 spare held n 3 (([c0, c1, c2, c3].drop 1).take (Try.prog.cellsOf 3)) = some y1 := hf 1 _ rfl
    have h2 : DataW.trod enc Try.prog W 0 spare held n 3 (([c0, c1, c2, c3].drop 2).take (Try.prog.cellsOf 3)) = some y2 := hf 2 _ rfl
    have h3 : DataW.trod enc Try.prog W 0 spare held n 87 (([c0, c1, c2, c3].drop 3).take (Try.prog.cellsOf 87)) = some y3 := hf 3 _ rfl
    obtain ⟨x0, e0, _, _⟩ := DataW.trod_int (k := .i64) (by kernel_rfl) h0
    obtain ⟨x1, e1, _, _⟩ := DataW.trod_int (k := .i64) (by kernel_rfl) h1
    obtain ⟨x2, e2, _, _⟩ := DataW.trod_int (k := .i64) (by kernel_rfl) h2
    obtain ⟨l, A, c, e3⟩ := nats_cells h3
    have e5 := e3.eq
    rw [show Try.prog.cellsOf _ = 1 from by kernel_rfl] at e0 e1 e2 e5
    simp at e0 e1 e2 e5
    subst e0 e1 e2 e5
    exact ⟨⟨x0, x1, x2, ⟨A, c, l⟩⟩, rfl, e3.rs⟩
set_option maxRecDepth 100000 in
theorem Acct_open {H : Type} {enc : TypeId × Value → H} {W : World} {spare : Nat → Bool} {held : Bool} {r : Reach} {b0 : Nat} {v : Value} {d : DataW H} {p : List MemPlace} (hv : Value.okWide Try.prog W r b0 89 v) (h : DataW.Trod enc Try.prog W 0 spare held 89 v d p) :
    ∃ x : AcctV, v = .agg #[.int .i64 x.id, .int .i64 x.member, .int .i64 x.kind, .slice x.clients.A x.clients.val.length x.clients.c] ∧ GoodA W x := by
  obtain ⟨cs, rfl, hsz⟩ := okWide_struct Try.underlying89 hv
  obtain ⟨fuel, hf⟩ := h
  rw [show Try.prog.cellsOf _ = 4 from by kernel_rfl] at hsz
  obtain ⟨x, he, hr⟩ := Acct_cells cs.toList fuel _ (by simpa using hsz) (by simpa [Value.cells] using hf)
  refine ⟨x, ?_, hr⟩
  obtain ⟨l⟩ := cs
  simp only at he
  rw [he]; rfl
end Go.Proofs.Ytiidplinmempcaa
