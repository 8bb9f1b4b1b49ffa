/- A slice of members, handed in: the list that it reads as. -/
import Derived.Test.YtffmljkpbgohkaaMemOpen
import Derived.Test.YtffmljkpbgohkaaOpen
import Derived.Test.YtffmljkpbgohkaaMember1
namespace Go.Proofs.Ytffmljkpbgohkaa
open Go.ChangeShapes Go.WideShapes Go.ChangeAt Go.RowKit Go.Joins
set_option maxRecDepth 100000 in
theorem member_cells {H : Type} {enc : TypeId × Value → H} {W : World} {spare : Nat → Bool} {held : Bool} (cs : List Value) (n : Nat) (y : DataW H × List MemPlace) (hlen : cs.length = 4) (h : DataW.trod enc Try.prog W 0 spare held n 36 cs = some y) : ∃ x : Mem, (In64 x.id ∧ In64 x.cap ∧ In64 x.phase ∧ In64 x.til) ∧ cs = encM x := by
  obtain ⟨y0, y1, y2, y3, n, _, _, h0, h1, h2, h3⟩ := trod_struct4 Try.underlying36 h
  match cs, hlen with
  | [c0, c1, c2, c3], _ =>
    obtain ⟨x0, e0, _, w0⟩ := DataW.trod_int (k := .i64) (by kernel_rfl) h0
    obtain ⟨x1, e1, _, w1⟩ := DataW.trod_int (k := .i64) (by kernel_rfl) h1
    obtain ⟨x2, e2, _, w2⟩ := DataW.trod_int (k := .i64) (by kernel_rfl) h2
    obtain ⟨x3, e3, _, w3⟩ := DataW.trod_int (k := .i64) (by kernel_rfl) h3
    rw [show Try.prog.cellsOf _ = 1 from by kernel_rfl] at e0 e1 e2 e3
    simp at e0 e1 e2 e3
    subst e0 e1 e2 e3
    exact ⟨⟨x0, x1, x2, x3⟩, ⟨in64_of_wf w0, in64_of_wf w1, in64_of_wf w2, in64_of_wf w3⟩, rfl⟩
set_option maxRecDepth 100000 in
theorem members_open {H : Type} {enc : TypeId × Value → H} {W : World} {base : Nat} {spare : Nat → Bool} {held : Bool} {r : Reach} {v : Value} {d : DataW H} {p : List MemPlace}
    (hv : Value.okWide Try.prog W r base 42 v) (h : DataW.Trod enc Try.prog W 0 spare held 42 v d p) :
    ∃ (l : List Mem) (A : Option Addr) (c : Nat), v = .slice A l.length c ∧ (∀ x ∈ l, In64 x.id ∧ In64 x.cap ∧ In64 x.phase ∧ In64 x.til) ∧ l.length ≤ c ∧ c ≤ maxLen ∧ (A = none → c = 0) ∧ Rd W A 4 (l.map encM) :=
  slice_open (e := 36) Try.underlying42 (by kernel_rfl) (fun cs n y => member_cells cs n y) (fun _ _ => rfl) (by omega) hv h
end Go.Proofs.Ytffmljkpbgohkaa
