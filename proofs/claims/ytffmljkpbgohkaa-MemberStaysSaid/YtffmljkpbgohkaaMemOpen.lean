/- A member, handed in by value: its four numbers. -/
import Derived.Test.YtffmljkpbgohkaaFrame
namespace Go.Proofs.Ytffmljkpbgohkaa
open Go.ChangeShapes Go.WideShapes Go.ChangeAt Go.RowKit Go.Joins
set_option maxRecDepth 100000 in
theorem member_open {H : Type} {enc : TypeId × Value → H} {W : World} {base : Nat} {spare : Nat → Bool} {held : Bool} {r : Reach} {b0 : Nat} {v : Value} {d : DataW H} {p : List MemPlace}
    (hv : Value.okWide Try.prog W r b0 36 v) (h : DataW.Trod enc Try.prog W base spare held 36 v d p) :
    ∃ i c q t : Int, v = .agg #[.int .i64 i, .int .i64 c, .int .i64 q, .int .i64 t] ∧ In64 i ∧ In64 c ∧ In64 q ∧ In64 t := by
  obtain ⟨v0, v1, v2, v3, y0, y1, y2, y3, n, rfl, _, _, h0, h1, h2, h3⟩ := open_agg4 Try.underlying36 (by kernel_rfl) (by kernel_rfl) hv h
  obtain ⟨i, e0, _, w0⟩ := DataW.trod_int (k := .i64) (by kernel_rfl) h0
  obtain ⟨c, e1, _, w1⟩ := DataW.trod_int (k := .i64) (by kernel_rfl) h1
  obtain ⟨q, e2, _, w2⟩ := DataW.trod_int (k := .i64) (by kernel_rfl) h2
  obtain ⟨t, e3, _, w3⟩ := DataW.trod_int (k := .i64) (by kernel_rfl) h3
  simp at e0 e1 e2 e3
  subst e0 e1 e2 e3
  exact ⟨i, c, q, t, rfl, in64_of_wf w0, in64_of_wf w1, in64_of_wf w2, in64_of_wf w3⟩
end Go.Proofs.Ytffmljkpbgohkaa
