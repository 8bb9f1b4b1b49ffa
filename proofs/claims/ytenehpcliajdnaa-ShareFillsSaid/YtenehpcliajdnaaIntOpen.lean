/- Rows of numbers handed in. -/
import Derived.Test.YtenehpcliajdnaaOpen
import Derived.Test.YtenehpcliajdnaaWide2
namespace Go.Proofs.Ytenehpcliajdnaa
open Go.ChangeShapes Go.WideShapes Go.ChangeAt Go.RowKit Go.Joins
set_option maxRecDepth 100000 in
theorem I_cells {H : Type} {enc : TypeId × Value → H} {W : World} {spare : Nat → Bool} {held : Bool} (cs : List Value) (n : Nat) (y : DataW H × List MemPlace) (_hlen : cs.length = 1) (h : DataW.trod enc Try.prog W 0 spare held n 2 cs = some y) : ∃ x : Int, In64 x ∧ cs = encI x := by
  obtain ⟨x0, e0, _, w0⟩ := DataW.trod_int (k := .i64) (by kernel_rfl) h
  exact ⟨x0, in64_of_wf w0, e0⟩
set_option maxRecDepth 100000 in
theorem ints_open {H : Type} {enc : TypeId × Value → H} {W : World} {spare : Nat → Bool} {held : Bool} {base : Nat} {r : Reach} {v : Value} {d : DataW H} {p : List MemPlace}
    (hv : Value.okWide Try.prog W r base 46 v) (h : DataW.Trod enc Try.prog W 0 spare held 46 v d p) :
    ∃ (l : List Int) (A : Option Addr) (c : Nat), v = .slice A l.length c ∧ (∀ x ∈ l, In64 x) ∧ l.length ≤ c ∧ c ≤ maxLen ∧ (A = none → c = 0) ∧ Rd W A 1 (l.map encI) := by
  obtain ⟨a0, len0, cap0, rfl⟩ := okWide_slice Try.underlying46 hv
  obtain ⟨fuel, hf⟩ := h
  obtain ⟨l, A, c, h1, h2, h3, h4, h5, h6⟩ := slice_open0 (enc1 := encI) Try.underlying46 (by kernel_rfl) (fun cs n y => I_cells cs n y) (fun _ _ => rfl) (by omega) hf
  simp [Value.cells] at h1
  obtain ⟨rfl, rfl, rfl⟩ := h1
  exact ⟨l, _, _, rfl, h2, h3, h4, h5, h6⟩
end Go.Proofs.Ytenehpcliajdnaa
