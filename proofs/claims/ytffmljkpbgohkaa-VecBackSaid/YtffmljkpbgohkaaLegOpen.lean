/- Legs handed in. -/
import Derived.Test.YtffmljkpbgohkaaOpen
import Derived.Test.YtffmljkpbgohkaaLeg
namespace Go.Proofs.Ytffmljkpbgohkaa
open Go.ChangeShapes Go.WideShapes Go.ChangeAt Go.RowKit Go.Joins
set_option maxRecDepth 100000 in
theorem Leg_cells {H : Type} {enc : TypeId × Value → H} {W : World} {spare : Nat → Bool} {held : Bool} (cs : List Value) (n : Nat) (y : DataW H × List MemPlace) (hlen : cs.length = 2) (h : DataW.trod enc Try.prog W 0 spare held n 56 cs = some y) : ∃ x : Leg, okLeg x ∧ cs = encLeg x := by
  obtain ⟨xs, n, _, rfl, _, hxs, hf⟩ := DataW.trod_struct Try.underlying56 h
  match cs, hlen, xs, hxs with
  | [c0, c1], _, [y0, y1], _ =>
    have h0 : DataW.trod enc Try.prog W 0 spare held n 3 (([c0, c1].drop 0).take (Try.prog.cellsOf 3)) = some y0 := hf 0 _ rfl
    have h1 : DataW.trod enc Try.prog W 0 spare held n 2 (([c0, c1].drop 1).take (Try.prog.cellsOf 2)) = some y1 := hf 1 _ rfl
    obtain ⟨x0, e0, _, w0⟩ := DataW.trod_int (k := .i64) (by kernel_rfl) h0
    rw [show Try.prog.cellsOf _ = 1 from by kernel_rfl] at e0
    simp at e0
    subst e0
    obtain ⟨x1, e1, _, w1⟩ := DataW.trod_int (k := .i64) (by kernel_rfl) h1
    rw [show Try.prog.cellsOf _ = 1 from by kernel_rfl] at e1
    simp at e1
    subst e1
    exact ⟨⟨x0, x1⟩, ⟨in64_of_wf w0, in64_of_wf w1⟩, rfl⟩
set_option maxRecDepth 100000 in
theorem Leg_open {H : Type} {enc : TypeId × Value → H} {W : World} {spare : Nat → Bool} {held : Bool} {r : Reach} {b0 : Nat} {v : Value} {d : DataW H} {p : List MemPlace} (hv : Value.okWide Try.prog W r b0 56 v) (h : DataW.Trod enc Try.prog W 0 spare held 56 v d p) : ∃ x : Leg, okLeg x ∧ v = .agg #[.int .i64 x.inst, .int .i64 x.qty] := by
  obtain ⟨cs, rfl, hsz⟩ := okWide_struct Try.underlying56 hv
  obtain ⟨fuel, hf⟩ := h
  rw [show Try.prog.cellsOf _ = 2 from by kernel_rfl] at hsz
  obtain ⟨x, hx, he⟩ := Leg_cells cs.toList fuel _ (by simpa using hsz) (by simpa [Value.cells] using hf)
  refine ⟨x, hx, ?_⟩
  obtain ⟨l⟩ := cs
  simp only at he
  rw [he]; rfl
set_option maxRecDepth 100000 in
theorem legs_cells {H : Type} {enc : TypeId × Value → H} {W : World} {spare : Nat → Bool} {held : Bool} {fuel : Nat} {cs : List Value} {y : DataW H × List MemPlace} (h : DataW.trod enc Try.prog W 0 spare held fuel 25 cs = some y) :
    ∃ (l : List Leg) (A : Option Addr) (c : Nat), cs = [.slice A l.length c] ∧ (∀ x ∈ l, okLeg x) ∧ Rs W 2 (l.map encLeg) A c := by
  obtain ⟨l, A, c, h1, h2, h3, h4, h5, h6⟩ := slice_open0 (enc1 := encLeg) Try.underlying25 (by kernel_rfl) (fun cs n y => Leg_cells cs n y) (fun _ _ => rfl) (by omega) h
  exact ⟨l, A, c, h1, h2, ⟨h6, by rw [List.length_map]; exact h3, h4, h5⟩⟩
set_option maxRecDepth 100000 in
theorem legs_open {H : Type} {enc : TypeId × Value → H} {W : World} {spare : Nat → Bool} {held : Bool} {base : Nat} {r : Reach} {v : Value} {d : DataW H} {p : List MemPlace}
    (hv : Value.okWide Try.prog W r base 25 v) (h : DataW.Trod enc Try.prog W 0 spare held 25 v d p) :
    ∃ (l : List Leg) (A : Option Addr) (c : Nat), v = .slice A l.length c ∧ (∀ x ∈ l, okLeg x) ∧ Rs W 2 (l.map encLeg) A c := by
  obtain ⟨a0, len0, cap0, rfl⟩ := okWide_slice Try.underlying25 hv
  obtain ⟨fuel, hf⟩ := h
  obtain ⟨l, A, c, h1, h2, h3⟩ := legs_cells hf
  simp [Value.cells] at h1
  obtain ⟨rfl, rfl, rfl⟩ := h1
  exact ⟨l, _, _, rfl, h2, h3⟩
set_option maxRecDepth 100000 in
theorem legss_open {H : Type} {enc : TypeId × Value → H} {W : World} {spare : Nat → Bool} {held : Bool} {base : Nat} {r : Reach} {v : Value} {d : DataW H} {p : List MemPlace}
    (hv : Value.okWide Try.prog W r base 22 v) (h : DataW.Trod enc Try.prog W 0 spare held 22 v d p) :
    ∃ (ls : List (List Leg)) (A : Option Addr) (c : Nat), v = .slice A ls.length c ∧ (∀ l ∈ ls, (∀ x ∈ l, okLeg x) ∧ l.length ≤ maxLen) ∧ RsS 2 encLeg W ls A c ∧ ls.length ≤ maxLen := by
  obtain ⟨a0, len0, cap0, rfl⟩ := okWide_slice Try.underlying22 hv
  obtain ⟨fuel, hf⟩ := h
  obtain ⟨ls, rows, A, c, h1, h2, h3⟩ := slice_rel (R := fun r (l : List Leg) => (∃ v, r = enc1 v ∧ IsSl 2 encLeg W v l) ∧ (∀ x ∈ l, okLeg x) ∧ l.length ≤ maxLen) Try.underlying22 (k := 1) (by kernel_rfl) (fun cs n y hlen hy => by
    obtain ⟨l, A, c, rfl, hok, hrs⟩ := legs_cells hy
    have hc := hrs.cap
    rw [List.length_map] at hc
    exact ⟨l, ⟨⟨_, rfl, isl hrs⟩, hok, Nat.le_trans hc hrs.room⟩, rfl⟩) (by omega) hf
  simp [Value.cells] at h1
  obtain ⟨rfl, rfl, rfl⟩ := h1
  obtain ⟨vs, hvl, hvp⟩ := list_choose (n := ls.length) (p := fun i v => ∃ l, ls[i]? = some l ∧ rows[i]? = some (enc1 v) ∧ IsSl 2 encLeg W v l) (fun i hi => by
    obtain ⟨r, hr, ⟨v, rfl, hv⟩, _⟩ := h2.get hi
    exact ⟨v, ls[i], List.getElem?_eq_getElem hi, hr, hv⟩)
  have hrows : rows = vs.map enc1 := by
    apply List.ext_getElem?
    intro i
    rw [List.getElem?_map]
    rcases Nat.lt_or_ge i vs.length with hi | hi
    · obtain ⟨l, _, h5, _⟩ := hvp i hi
      rw [h5, List.getElem?_eq_getElem hi]; rfl
    · rw [List.getElem?_eq_none hi, List.getElem?_eq_none (by rw [h2.len]; omega)]; rfl
  refine ⟨ls, _, _, rfl, fun l hl => ?_, ⟨⟨vs, ⟨hvl, fun i a b ha hb => ?_⟩, by rw [← hrows]; exact h3⟩⟩, ?_⟩
  · obtain ⟨i, hi, rfl⟩ := List.mem_iff_getElem.1 hl
    obtain ⟨r, _, _, h6⟩ := h2.get hi
    exact h6
  · obtain ⟨hi, rfl⟩ := List.getElem?_eq_some_iff.1 ha
    obtain ⟨l, h5, _, h6⟩ := hvp i hi
    rw [hb] at h5
    injection h5 with h5
    subst h5
    exact h6
  · have := h3.cap
    have := h3.room
    rw [h2.len] at *
    omega
end Go.Proofs.Ytffmljkpbgohkaa
