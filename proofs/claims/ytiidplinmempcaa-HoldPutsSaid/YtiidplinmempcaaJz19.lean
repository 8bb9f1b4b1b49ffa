/- Joined: Open, LotOpen, LotsOpen, UnOpen, HoldOpen. -/
import Derived.Test.YtiidplinmempcaaJz18
import Derived.Test.YtiidplinmempcaaJz1
import Derived.Test.YtiidplinmempcaaJz3
import Derived.Test.YtiidplinmempcaaJz2
import Derived.Test.YtiidplinmempcaaJz9
import Derived.Deep.Slices
import Derived.Test.YtiidplinmempcaaRows
/- A slice, handed in: the list that it reads as. -/
namespace Go.Proofs.Ytiidplinmempcaa
open Go.ChangeShapes Go.WideShapes Go.ChangeAt Go.RowKit Go.Joins Go.Deep
theorem block_lt {w : World} {a : Addr} {v : Value} (h : w.cell? a = some v) : a.block < w.heap.size := by
  rcases Nat.lt_or_ge a.block w.heap.size with h1 | h1
  · exact h1
  · unfold World.cell? at h
    rw [Array.getElem?_eq_none h1] at h
    split at h <;> simp_all
theorem list_choose {α : Type} {n : Nat} {p : Nat → α → Prop} (h : ∀ i, i < n → ∃ x, p i x) : ∃ l : List α, l.length = n ∧ ∀ i (hi : i < l.length), p i l[i] := by
  induction n with
  | zero => exact ⟨[], rfl, fun i hi => absurd hi (by simp)⟩
  | succ n ih =>
    obtain ⟨l, hl, hp⟩ := ih (fun i hi => h i (by omega))
    obtain ⟨x, hx⟩ := h n (by omega)
    refine ⟨l ++ [x], by simp [hl], fun i hi => ?_⟩
    simp at hi
    rcases Nat.lt_or_ge i l.length with h1 | h1
    · rw [List.getElem_append_left h1]; exact hp i h1
    · obtain rfl : i = l.length := by omega
      simp [hl]; exact hx
theorem slice_open0 {H : Type} {enc : TypeId × Value → H} {P : Program} {w : World} {spare : Nat → Bool} {held : Bool} {t e : TypeId} {k : Nat} {α : Type} {ok : α → Prop} {enc1 : α → List Value} {fuel : Nat} {cs0 : List Value} {y0 : DataW H × List MemPlace}
    (ht : P.underlying t = some (.slice e)) (ce : P.cellsOf e = k) (helem : ∀ (cs : List Value) (n : Nat) y, cs.length = k → DataW.trod enc P w 0 spare held n e cs = some y → ∃ x : α, ok x ∧ cs = enc1 x)
    (hk : ∀ x, ok x → (enc1 x).length = k) (hk0 : 0 < k) (hf : DataW.trod enc P w 0 spare held fuel t cs0 = some y0) :
    ∃ (l : List α) (A : Option Addr) (c : Nat), cs0 = [.slice A l.length c] ∧ (∀ x ∈ l, ok x) ∧ l.length ≤ c ∧ c ≤ maxLen ∧ (A = none → c = 0) ∧ Rd w A k (l.map enc1) := by
  rcases open_slice ht hf with ⟨hcs, _⟩ | ⟨a, len, cap, m, n, D, Pl, hcs, _, hl, hm, hmm, _, hall⟩
  · subst hcs
    exact ⟨[], none, 0, rfl, by simp, by simp, by simp, fun _ => rfl, fun i r hr => by simp at hr⟩
  · subst hcs
    have each : ∀ i, i < len → ∃ x : α, ok x ∧ ∀ j v, (enc1 x)[j]? = some v → w.cell? ((a.add (i * k)).add j) = some v := by
      intro i hi
      obtain ⟨cs, h1, h2⟩ := hall i (by rw [hmm]; split <;> omega)
      rw [ce] at h1
      obtain ⟨_, hlen, hcell⟩ := World.cells?_some h1
      obtain ⟨x, hx, rfl⟩ := helem cs n _ hlen h2
      refine ⟨x, hx, fun j v hv => ?_⟩
      have hj : j < k := by
        rw [← hlen]
        rcases Nat.lt_or_ge j (enc1 x).length with h3 | h3
        · exact h3
        · rw [List.getElem?_eq_none h3] at hv; cases hv
      rw [hcell j hj, hv]
    obtain ⟨l, hll, hp⟩ := list_choose each
    subst hll
    refine ⟨l, some a, cap, rfl, fun x hx => ?_, hl, hm, (fun h => by cases h), fun i r hr => ?_⟩
    · obtain ⟨i, hi, rfl⟩ := List.mem_iff_getElem.1 hx
      exact (hp i hi).1
    · rw [List.getElem?_map] at hr
      cases hli : l[i]? with
      | none => rw [hli] at hr; cases hr
      | some x =>
        rw [hli] at hr
        simp at hr
        subst hr
        obtain ⟨hi, rfl⟩ := List.getElem?_eq_some_iff.1 hli
        have hp2 := (hp i hi).2
        have hlk := hk _ (hp i hi).1
        obtain ⟨u, hu⟩ : ∃ u, (enc1 l[i])[0]? = some u := ⟨(enc1 l[i])[0], List.getElem?_eq_getElem (by omega)⟩
        have h0 := hp2 0 u hu
        obtain ⟨b, off, spot⟩ := a
        have hb : b < w.heap.size := by
          have := block_lt h0
          unfold Addr.add at this
          split at this <;> split at this <;> exact this
        by_cases hi0 : i = 0
        · subst hi0
          have hspot : spot = none := by simpa [Addr.add] using World.cell?_spot h0
          subst hspot
          refine ⟨b, off, rfl, hb, fun j v hv => ?_⟩
          have := hp2 j v hv
          rwa [add_plain, add_plain] at this
        · have hl0 : 0 < l.length := by omega
          have hlk0 := hk _ (hp 0 hl0).1
          obtain ⟨u0, hu0⟩ : ∃ u, (enc1 l[0])[0]? = some u := ⟨(enc1 l[0])[0], List.getElem?_eq_getElem (by omega)⟩
          have h00 := (hp 0 hl0).2 0 u0 hu0
          have hspot : spot = none := by simpa [Addr.add] using World.cell?_spot h00
          subst hspot
          refine ⟨b, off, rfl, hb, fun j v hv => ?_⟩
          have := hp2 j v hv
          rwa [add_plain, add_plain] at this
/-- A slice handed in, read row by row by a relation. -/
theorem slice_rel {H : Type} {enc : TypeId × Value → H} {P : Program} {w : World} {spare : Nat → Bool} {held : Bool} {t e : TypeId} {k : Nat} {α : Type} {R : List Value → α → Prop} {fuel : Nat} {cs0 : List Value} {y0 : DataW H × List MemPlace}
    (ht : P.underlying t = some (.slice e)) (ce : P.cellsOf e = k) (helem : ∀ (cs : List Value) (n : Nat) y, cs.length = k → DataW.trod enc P w 0 spare held n e cs = some y → ∃ x : α, R cs x ∧ cs.length = k)
    (hk0 : 0 < k) (hf : DataW.trod enc P w 0 spare held fuel t cs0 = some y0) :
    ∃ (l : List α) (rows : List (List Value)) (A : Option Addr) (c : Nat), cs0 = [.slice A l.length c] ∧ Each R rows l ∧ Rs w k rows A c := by
  obtain ⟨rows, A, c, h1, h2, h3, h4, h5, h6⟩ := slice_open0 (α := List Value) (ok := fun r => (∃ x, R r x) ∧ r.length = k) (enc1 := fun r => r) ht ce (fun cs n y hl hy => by
    obtain ⟨x, hx, hlen⟩ := helem cs n y hl hy
    exact ⟨cs, ⟨⟨x, hx⟩, hlen⟩, rfl⟩) (fun r h => h.2) hk0 hf
  obtain ⟨l, hl, hp⟩ := list_choose (n := rows.length) (p := fun i x => ∃ r, rows[i]? = some r ∧ R r x) (fun i hi => by
    obtain ⟨⟨x, hx⟩, _⟩ := h2 rows[i] (List.getElem_mem hi)
    exact ⟨x, rows[i], List.getElem?_eq_getElem hi, hx⟩)
  rw [List.map_id'] at h6
  refine ⟨l, rows, A, c, by rw [hl]; exact h1, ⟨hl.symm, fun i a b ha hb => ?_⟩, ⟨h6, h3, h4, h5⟩⟩
  obtain ⟨hi, rfl⟩ := List.getElem?_eq_some_iff.1 hb
  obtain ⟨r, hr, hx⟩ := hp i hi
  rw [ha] at hr
  injection hr with hr
  subst hr
  exact hx
theorem slice_open {H : Type} {enc : TypeId × Value → H} {P : Program} {w : World} {spare : Nat → Bool} {held : Bool} {t e : TypeId} {k : Nat} {α : Type} {ok : α → Prop} {enc1 : α → List Value} {v : Value} {d : DataW H} {ps : List MemPlace}
    (ht : P.underlying t = some (.slice e)) (ce : P.cellsOf e = k) (helem : ∀ (cs : List Value) (n : Nat) y, cs.length = k → DataW.trod enc P w 0 spare held n e cs = some y → ∃ x : α, ok x ∧ cs = enc1 x)
    (hk : ∀ x, ok x → (enc1 x).length = k) (hk0 : 0 < k) {r : Reach} {b0 : Nat} (hval : Value.okWide P w r b0 t v) (h : DataW.Trod enc P w 0 spare held t v d ps) :
    ∃ (l : List α) (A : Option Addr) (c : Nat), v = .slice A l.length c ∧ (∀ x ∈ l, ok x) ∧ l.length ≤ c ∧ c ≤ maxLen ∧ (A = none → c = 0) ∧ Rd w A k (l.map enc1) := by
  obtain ⟨a0, len0, cap0, rfl⟩ := okWide_slice ht hval
  obtain ⟨fuel, hf⟩ := h
  rcases open_slice ht hf with ⟨hcs, _⟩ | ⟨a, len, cap, m, n, D, Pl, hcs, _, hl, hm, hmm, _, hall⟩
  · simp [Value.cells] at hcs
    obtain ⟨rfl, rfl, rfl⟩ := hcs
    exact ⟨[], none, 0, rfl, by simp, by simp, by simp, fun _ => rfl, fun i r hr => by simp at hr⟩
  · simp [Value.cells] at hcs
    obtain ⟨rfl, rfl, rfl⟩ := hcs
    have each : ∀ i, i < len0 → ∃ x : α, ok x ∧ ∀ j v, (enc1 x)[j]? = some v → w.cell? ((a.add (i * k)).add j) = some v := by
      intro i hi
      obtain ⟨cs, h1, h2⟩ := hall i (by rw [hmm]; split <;> omega)
      rw [ce] at h1
      obtain ⟨_, hlen, hcell⟩ := World.cells?_some h1
      obtain ⟨x, hx, rfl⟩ := helem cs n _ hlen h2
      refine ⟨x, hx, fun j v hv => ?_⟩
      have hj : j < k := by
        rw [← hlen]
        rcases Nat.lt_or_ge j (enc1 x).length with h3 | h3
        · exact h3
        · rw [List.getElem?_eq_none h3] at hv; cases hv
      rw [hcell j hj, hv]
    obtain ⟨l, hll, hp⟩ := list_choose each
    subst hll
    refine ⟨l, some a, cap0, rfl, fun x hx => ?_, hl, hm, (fun h => by cases h), fun i r hr => ?_⟩
    · obtain ⟨i, hi, rfl⟩ := List.mem_iff_getElem.1 hx
      exact (hp i hi).1
    · rw [List.getElem?_map] at hr
      cases hli : l[i]? with
      | none => rw [hli] at hr; cases hr
      | some x =>
        rw [hli] at hr
        simp at hr
        subst hr
        obtain ⟨hi, rfl⟩ := List.getElem?_eq_some_iff.1 hli
        have hp2 := (hp i hi).2
        have hlk := hk _ (hp i hi).1
        obtain ⟨u, hu⟩ : ∃ u, (enc1 l[i])[0]? = some u := ⟨(enc1 l[i])[0], List.getElem?_eq_getElem (by omega)⟩
        have h0 := hp2 0 u hu
        obtain ⟨b, off, spot⟩ := a
        have hb : b < w.heap.size := by
          have := block_lt h0
          unfold Addr.add at this
          split at this <;> split at this <;> exact this
        by_cases hi0 : i = 0
        · subst hi0
          have hspot : spot = none := by simpa [Addr.add] using World.cell?_spot h0
          subst hspot
          refine ⟨b, off, rfl, hb, fun j v hv => ?_⟩
          have := hp2 j v hv
          rwa [add_plain, add_plain] at this
        · have hl0 : 0 < l.length := by omega
          have hlk0 := hk _ (hp 0 hl0).1
          obtain ⟨u0, hu0⟩ : ∃ u, (enc1 l[0])[0]? = some u := ⟨(enc1 l[0])[0], List.getElem?_eq_getElem (by omega)⟩
          have h00 := (hp 0 hl0).2 0 u0 hu0
          have hspot : spot = none := by simpa [Addr.add] using World.cell?_spot h00
          subst hspot
          refine ⟨b, off, rfl, hb, fun j v hv => ?_⟩
          have := hp2 j v hv
          rwa [add_plain, add_plain] at this
end Go.Proofs.Ytiidplinmempcaa

/- Lots handed in. -/
namespace Go.Proofs.Ytiidplinmempcaa
open Go.ChangeShapes Go.WideShapes Go.ChangeAt Go.RowKit Go.Joins
set_option maxRecDepth 100000 in
theorem Lot_cells {H : Type} {enc : TypeId × Value → H} {W : World} {spare : Nat → Bool} {held : Bool} (cs : List Value) (n : Nat) (y : DataW H × List MemPlace) (hlen : cs.length = 3) (h : DataW.trod enc Try.prog W 0 spare held n 62 cs = some y) : ∃ x : Lot, okLot x ∧ cs = encLot x := by
  obtain ⟨xs, n, _, rfl, _, hxs, hf⟩ := DataW.trod_struct Try.underlying62 h
  match cs, hlen, xs, hxs with
  | [c0, c1, c2], _, [y0, y1, y2], _ =>
    have h0 : DataW.trod enc Try.prog W 0 spare held n 3 (([c0, c1, c2].drop 0).take (Try.prog.cellsOf 3)) = some y0 := hf 0 _ rfl
    have h1 : DataW.trod enc Try.prog W 0 spare held n 3 (([c0, c1, c2].drop 1).take (Try.prog.cellsOf 3)) = some y1 := hf 1 _ rfl
    have h2 : DataW.trod enc Try.prog W 0 spare held n 2 (([c0, c1, c2].drop 2).take (Try.prog.cellsOf 2)) = some y2 := hf 2 _ rfl
    obtain ⟨x0, e0, _, w0⟩ := DataW.trod_int (k := .i64) (by kernel_rfl) h0
    rw [show Try.prog.cellsOf _ = 1 from by kernel_rfl] at e0
    simp at e0
    subst e0
    obtain ⟨x1, e1, _, w1⟩ := DataW.trod_int (k := .i64) (by kernel_rfl) h1
    rw [show Try.prog.cellsOf _ = 1 from by kernel_rfl] at e1
    simp at e1
    subst e1
    obtain ⟨x2, e2, _, w2⟩ := DataW.trod_int (k := .i64) (by kernel_rfl) h2
    rw [show Try.prog.cellsOf _ = 1 from by kernel_rfl] at e2
    simp at e2
    subst e2
    exact ⟨⟨x0, x1, x2⟩, ⟨in64_of_wf w0, in64_of_wf w1, in64_of_wf w2⟩, rfl⟩
set_option maxRecDepth 100000 in
theorem Lot_open {H : Type} {enc : TypeId × Value → H} {W : World} {spare : Nat → Bool} {held : Bool} {r : Reach} {b0 : Nat} {v : Value} {d : DataW H} {p : List MemPlace} (hv : Value.okWide Try.prog W r b0 62 v) (h : DataW.Trod enc Try.prog W 0 spare held 62 v d p) : ∃ x : Lot, okLot x ∧ v = .agg #[.int .i64 x.asset, .int .i64 x.tag, .int .i64 x.qty] := by
  obtain ⟨cs, rfl, hsz⟩ := okWide_struct Try.underlying62 hv
  obtain ⟨fuel, hf⟩ := h
  rw [show Try.prog.cellsOf _ = 3 from by kernel_rfl] at hsz
  obtain ⟨x, hx, he⟩ := Lot_cells cs.toList fuel _ (by simpa using hsz) (by simpa [Value.cells] using hf)
  refine ⟨x, hx, ?_⟩
  obtain ⟨l⟩ := cs
  simp only at he
  rw [he]; rfl
set_option maxRecDepth 100000 in
theorem lots_open {H : Type} {enc : TypeId × Value → H} {W : World} {spare : Nat → Bool} {held : Bool} {base : Nat} {r : Reach} {v : Value} {d : DataW H} {p : List MemPlace}
    (hv : Value.okWide Try.prog W r base 97 v) (h : DataW.Trod enc Try.prog W 0 spare held 97 v d p) :
    ∃ (l : List Lot) (A : Option Addr) (c : Nat), v = .slice A l.length c ∧ l.length ≤ maxLen ∧ (∀ x ∈ l, okLot x) ∧ Rs W 3 (l.map encLot) A c := by
  obtain ⟨a0, len0, cap0, rfl⟩ := okWide_slice Try.underlying97 hv
  obtain ⟨fuel, hf⟩ := h
  obtain ⟨l, A, c, h1, h2, h3, h4, h5, h6⟩ := slice_open0 (enc1 := encLot) Try.underlying97 (by kernel_rfl) (fun cs n y => Lot_cells cs n y) (fun _ _ => rfl) (by omega) hf
  simp [Value.cells] at h1
  obtain ⟨rfl, rfl, rfl⟩ := h1
  exact ⟨l, _, _, rfl, Nat.le_trans h3 h4, h2, ⟨h6, by rw [List.length_map]; exact h3, h4, h5⟩⟩
end Go.Proofs.Ytiidplinmempcaa

/- Rows of lots handed in. -/
namespace Go.Proofs.Ytiidplinmempcaa
open Go.ChangeShapes Go.WideShapes Go.ChangeAt Go.RowKit Go.Joins
set_option maxRecDepth 100000 in
theorem lots_cells {H : Type} {enc : TypeId × Value → H} {W : World} {spare : Nat → Bool} {held : Bool} {fuel : Nat} {cs : List Value} {y : DataW H × List MemPlace} (h : DataW.trod enc Try.prog W 0 spare held fuel 97 cs = some y) :
    ∃ (l : List Lot) (A : Option Addr) (c : Nat), cs = [.slice A l.length c] ∧ (∀ x ∈ l, okLot x) ∧ Rs W 3 (l.map encLot) A c := by
  obtain ⟨l, A, c, h1, h2, h3, h4, h5, h6⟩ := slice_open0 (enc1 := encLot) Try.underlying97 (by kernel_rfl) (fun cs n y => Lot_cells cs n y) (fun _ _ => rfl) (by omega) h
  exact ⟨l, A, c, h1, h2, ⟨h6, by rw [List.length_map]; exact h3, h4, h5⟩⟩
end Go.Proofs.Ytiidplinmempcaa

/- Units handed in. -/
namespace Go.Proofs.Ytiidplinmempcaa
open Go.ChangeShapes Go.WideShapes Go.ChangeAt Go.RowKit Go.Joins
set_option maxRecDepth 100000 in
theorem Un_cells {H : Type} {enc : TypeId × Value → H} {W : World} {spare : Nat → Bool} {held : Bool} (cs : List Value) (n : Nat) (y : DataW H × List MemPlace) (hlen : cs.length = 2) (h : DataW.trod enc Try.prog W 0 spare held n 60 cs = some y) : ∃ x : Un, okUn x ∧ cs = encUn x := by
  obtain ⟨xs, n, _, rfl, _, hxs, hf⟩ := DataW.trod_struct Try.underlying60 h
  match cs, hlen, xs, hxs with
  | [c0, c1], _, [y0, y1], _ =>
    have h0 : DataW.trod enc Try.prog W 0 spare held n 3 (([c0, c1].drop 0).take (Try.prog.cellsOf 3)) = some y0 := hf 0 _ rfl
    have h1 : DataW.trod enc Try.prog W 0 spare held n 3 (([c0, c1].drop 1).take (Try.prog.cellsOf 3)) = some y1 := hf 1 _ rfl
    obtain ⟨x0, e0, _, w0⟩ := DataW.trod_int (k := .i64) (by kernel_rfl) h0
    rw [show Try.prog.cellsOf _ = 1 from by kernel_rfl] at e0
    simp at e0
    subst e0
    obtain ⟨x1, e1, _, w1⟩ := DataW.trod_int (k := .i64) (by kernel_rfl) h1
    rw [show Try.prog.cellsOf _ = 1 from by kernel_rfl] at e1
    simp at e1
    subst e1
    exact ⟨⟨x0, x1⟩, ⟨in64_of_wf w0, in64_of_wf w1⟩, rfl⟩
set_option maxRecDepth 100000 in
theorem Un_open {H : Type} {enc : TypeId × Value → H} {W : World} {spare : Nat → Bool} {held : Bool} {r : Reach} {b0 : Nat} {v : Value} {d : DataW H} {p : List MemPlace} (hv : Value.okWide Try.prog W r b0 60 v) (h : DataW.Trod enc Try.prog W 0 spare held 60 v d p) : ∃ x : Un, okUn x ∧ v = .agg #[.int .i64 x.acc, .int .i64 x.cli] := by
  obtain ⟨cs, rfl, hsz⟩ := okWide_struct Try.underlying60 hv
  obtain ⟨fuel, hf⟩ := h
  rw [show Try.prog.cellsOf _ = 2 from by kernel_rfl] at hsz
  obtain ⟨x, hx, he⟩ := Un_cells cs.toList fuel _ (by simpa using hsz) (by simpa [Value.cells] using hf)
  refine ⟨x, hx, ?_⟩
  obtain ⟨l⟩ := cs
  simp only at he
  rw [he]; rfl
end Go.Proofs.Ytiidplinmempcaa

/- Holds handed in. -/
namespace Go.Proofs.Ytiidplinmempcaa
open Go.ChangeShapes Go.WideShapes Go.ChangeAt Go.RowKit Go.Joins

set_option maxRecDepth 100000 in
theorem HoldV_cells {H : Type} {enc : TypeId × Value → H} {W : World} {spare : Nat → Bool} {held : Bool} (cs : List Value) (n : Nat) (y : DataW H × List MemPlace) (hlen : cs.length = 3) (h : DataW.trod enc Try.prog W 0 spare held n 137 cs = some y) :
    ∃ x : HoldV, cs = encHoldV x ∧ (∀ z ∈ x.lots.val, okLot z) ∧ Rs W 3 (x.lots.val.map encLot) x.lots.A x.lots.c := by
  obtain ⟨xs, n, _, rfl, _, hxs, hf⟩ := DataW.trod_struct Try.underlying137 h
  match cs, hlen, xs, hxs with
  | [c0, c1, c2], _, [y0, y1], _ =>
    have h0 : DataW.trod enc Try.prog W 0 spare held n 60 (([c0, c1, c2].drop 0).take (Try.prog.cellsOf 60)) = some y0 := hf 0 _ rfl
    have h1 : DataW.trod enc Try.prog W 0 spare held n 97 (([c0, c1, c2].drop 2).take (Try.prog.cellsOf 97)) = some y1 := hf 1 _ rfl
    rw [show Try.prog.cellsOf _ = 2 from by kernel_rfl] at h0
    obtain ⟨x0, _, e0⟩ := Un_cells [c0, c1] n _ rfl h0
    simp only [encUn, List.cons.injEq, and_true] at e0
    obtain ⟨rfl, rfl⟩ := e0
    rw [show Try.prog.cellsOf _ = 1 from by kernel_rfl] at h1
    obtain ⟨l, A, c, e1, hok, hrs⟩ := lots_cells h1
    simp at e1
    subst e1
    exact ⟨⟨x0, ⟨A, c, l⟩⟩, rfl, hok, hrs⟩
set_option maxRecDepth 100000 in
theorem HoldV_open {H : Type} {enc : TypeId × Value → H} {W : World} {spare : Nat → Bool} {held : Bool} {base : Nat} {r : Reach} {v : Value} {d : DataW H} {p : List MemPlace}
    (hv : Value.okWide Try.prog W r base 58 v) (h : DataW.Trod enc Try.prog W 0 spare held 58 v d p) :
    ∃ (l : List HoldV) (A : Option Addr) (c : Nat), v = .slice A l.length c ∧ l.length ≤ maxLen ∧ Rd W A 3 (l.map encHoldV) ∧ (∀ x ∈ l, Rs W 3 (x.lots.val.map encLot) x.lots.A x.lots.c) ∧ ∀ x ∈ l, ∀ z ∈ x.lots.val, okLot z := by
  obtain ⟨a0, len0, cap0, rfl⟩ := okWide_slice Try.underlying58 hv
  obtain ⟨fuel, hf⟩ := h
  obtain ⟨ls, rows, A, c, h1, h2, h3⟩ := slice_rel (R := fun r (x : HoldV) => r = encHoldV x ∧ (∀ z ∈ x.lots.val, okLot z) ∧ Rs W 3 (x.lots.val.map encLot) x.lots.A x.lots.c) Try.underlying58 (k := 3) (by kernel_rfl) (fun cs n y hlen hy => by
    obtain ⟨x, e, hok, hrs⟩ := HoldV_cells cs n y hlen hy
    exact ⟨x, ⟨e, hok, hrs⟩, by rw [e]; rfl⟩) (by omega) hf
  simp [Value.cells] at h1
  obtain ⟨rfl, rfl, rfl⟩ := h1
  have hrows : rows = ls.map encHoldV := by
    apply List.ext_getElem?
    intro i
    rw [List.getElem?_map]
    rcases Nat.lt_or_ge i ls.length with hi | hi
    · obtain ⟨r, hr, hq, _⟩ := h2.get hi
      rw [hr, List.getElem?_eq_getElem hi, hq]; rfl
    · rw [List.getElem?_eq_none hi, List.getElem?_eq_none (by rw [h2.len]; omega)]; rfl
  have hcap := h3.cap
  have hroom := h3.room
  rw [h2.len] at hcap
  refine ⟨ls, _, _, rfl, by omega, by rw [← hrows]; exact h3.rd, fun x hx => ?_, fun x hx => ?_⟩
  · obtain ⟨i, hi, rfl⟩ := List.mem_iff_getElem.1 hx
    obtain ⟨r, _, _, _, hg⟩ := h2.get hi
    exact hg
  · obtain ⟨i, hi, rfl⟩ := List.mem_iff_getElem.1 hx
    obtain ⟨r, _, _, hg, _⟩ := h2.get hi
    exact hg
end Go.Proofs.Ytiidplinmempcaa
