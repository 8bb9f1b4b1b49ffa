/- Rows of lots handed in. -/
import Derived.Test.YtemhhojenocddaaLotOpen
import Derived.Test.YtemhhojenocddaaSl
namespace Go.Proofs.Ytemhhojenocddaa
open Go.ChangeShapes Go.WideShapes Go.ChangeAt Go.RowKit Go.Joins
set_option maxRecDepth 100000 in
theorem lots_cells {H : Type} {enc : TypeId × Value → H} {W : World} {spare : Nat → Bool} {held : Bool} {fuel : Nat} {cs : List Value} {y : DataW H × List MemPlace} (h : DataW.trod enc Try.prog W 0 spare held fuel 56 cs = some y) :
    ∃ (l : List Lot) (A : Option Addr) (c : Nat), cs = [.slice A l.length c] ∧ (∀ x ∈ l, okLot x) ∧ Rs W 3 (l.map encLot) A c := by
  obtain ⟨l, A, c, h1, h2, h3, h4, h5, h6⟩ := slice_open0 (enc1 := encLot) Try.underlying56 (by kernel_rfl) (fun cs n y => Lot_cells cs n y) (fun _ _ => rfl) (by omega) h
  exact ⟨l, A, c, h1, h2, ⟨h6, by rw [List.length_map]; exact h3, h4, h5⟩⟩
set_option maxRecDepth 100000 in
theorem lotss_open {H : Type} {enc : TypeId × Value → H} {W : World} {spare : Nat → Bool} {held : Bool} {base : Nat} {r : Reach} {v : Value} {d : DataW H} {p : List MemPlace}
    (hv : Value.okWide Try.prog W r base 78 v) (h : DataW.Trod enc Try.prog W 0 spare held 78 v d p) :
    ∃ (ls : List (List Lot)) (A : Option Addr) (c : Nat), v = .slice A ls.length c ∧ (∀ l ∈ ls, (∀ x ∈ l, okLot x) ∧ l.length ≤ maxLen) ∧ RsS 3 encLot W ls A c ∧ ls.length ≤ maxLen := by
  obtain ⟨a0, len0, cap0, rfl⟩ := okWide_slice Try.underlying78 hv
  obtain ⟨fuel, hf⟩ := h
  obtain ⟨ls, rows, A, c, h1, h2, h3⟩ := slice_rel (R := fun r (l : List Lot) => (∃ v, r = enc1 v ∧ IsSl 3 encLot W v l) ∧ (∀ x ∈ l, okLot x) ∧ l.length ≤ maxLen) Try.underlying78 (k := 1) (by kernel_rfl) (fun cs n y hlen hy => by
    obtain ⟨l, A, c, rfl, hok, hrs⟩ := lots_cells hy
    have hc := hrs.cap
    rw [List.length_map] at hc
    exact ⟨l, ⟨⟨_, rfl, isl hrs⟩, hok, Nat.le_trans hc hrs.room⟩, rfl⟩) (by omega) hf
  simp [Value.cells] at h1
  obtain ⟨rfl, rfl, rfl⟩ := h1
  obtain ⟨vs, hvl, hvp⟩ := list_choose (n := ls.length) (p := fun i v => ∃ l, ls[i]? = some l ∧ rows[i]? = some (enc1 v) ∧ IsSl 3 encLot W v l) (fun i hi => by
    obtain ⟨r, hr, ⟨v, rfl, hv⟩, _⟩ := h2.get hi
    exact ⟨v, ls[i], List.getElem?_eq_getElem hi, hr, hv⟩)
  have hrows : rows = vs.map enc1 := by
    apply List.ext_getElem?
    intro i
    rw [List.getElem?_map]
    rcases Nat.lt_or_ge i vs.length with hi | hi
    · obtain ⟨l, _, h5, _⟩ := hvp i hi
      rw [h5, List.getElem?_eq_getElem hi]; rfl
    · rw [List.getElem?_eq_none hi, List.getElem?_eq_none (by rw [h2.len]; omega)]; rfl
  refine ⟨ls, _, _, rfl, fun l hl => ?_, ⟨⟨vs, ⟨hvl, fun i a b ha hb => ?_⟩, by rw [← hrows]; exact h3⟩⟩, ?_⟩
  · obtain ⟨i, hi, rfl⟩ := List.mem_iff_getElem.1 hl
    obtain ⟨r, _, _, h6⟩ := h2.get hi
    exact h6
  · obtain ⟨hi, rfl⟩ := List.getElem?_eq_some_iff.1 ha
    obtain ⟨l, h5, _, h6⟩ := hvp i hi
    rw [hb] at h5
    injection h5 with h5
    subst h5
    exact h6
  · have := h3.cap
    have := h3.room
    rw [h2.len] at *
    omega
end Go.Proofs.Ytemhhojenocddaa
