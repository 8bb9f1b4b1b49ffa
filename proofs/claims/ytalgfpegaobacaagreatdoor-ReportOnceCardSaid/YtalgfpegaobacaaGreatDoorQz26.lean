/- Joined. -/
import Derived.Test.YtalgfpegaobacaaGreatDoorQz21
import Derived.Test.YtalgfpegaobacaaGreatDoorQz22
namespace Go.Proofs.YtalgfpegaobacaaGreatDoor
set_option linter.all false
set_option maxRecDepth 100000
open Go.RowKit
section
open Go.ChangeShapes Go.WideShapes Go.ChangeAt Go.RowKit Go.Joins
/- States handed in. -/
theorem Mb_cells {H : Type} {enc : TypeId × Value → H} {W : World} {spare : Nat → Bool} {held : Bool} (cs : List Value) (n : Nat) (y : DataW H × List MemPlace) (hlen : cs.length = 4) (h : DataW.trod enc Tryz.prog W 0 spare held n 49 cs = some y) : ∃ x : Mb, okMb x ∧ cs = encMb x := by
 obtain ⟨xs, n, _, rfl, _, hxs, hf⟩ := DataW.trod_struct Tryz.underlying49 h
 match cs, hlen, xs, hxs with
 | [c0, c1, c2, c3], _, [y0, y1, y2, y3], _ =>
  have h0 : DataW.trod enc Tryz.prog W 0 spare held n 3 (([c0, c1, c2, c3].drop 0).take (Tryz.prog.cellsOf 3)) = some y0 := hf 0 _ rfl
  have h1 : DataW.trod enc Tryz.prog W 0 spare held n 2 (([c0, c1, c2, c3].drop 1).take (Tryz.prog.cellsOf 2)) = some y1 := hf 1 _ rfl
  have h2 : DataW.trod enc Tryz.prog W 0 spare held n 3 (([c0, c1, c2, c3].drop 2).take (Tryz.prog.cellsOf 3)) = some y2 := hf 2 _ rfl
  have h3 : DataW.trod enc Tryz.prog W 0 spare held n 3 (([c0, c1, c2, c3].drop 3).take (Tryz.prog.cellsOf 3)) = some y3 := hf 3 _ rfl
  obtain ⟨x0, e0, _, w0⟩ := DataW.trod_int (k := .i64) (by kernel_rfl) h0
  rw [show Tryz.prog.cellsOf _ = 1 from by kernel_rfl] at e0
  simp at e0
  subst e0
  obtain ⟨x1, e1, _, w1⟩ := DataW.trod_int (k := .i64) (by kernel_rfl) h1
  rw [show Tryz.prog.cellsOf _ = 1 from by kernel_rfl] at e1
  simp at e1
  subst e1
  obtain ⟨x2, e2, _, w2⟩ := DataW.trod_int (k := .i64) (by kernel_rfl) h2
  rw [show Tryz.prog.cellsOf _ = 1 from by kernel_rfl] at e2
  simp at e2
  subst e2
  obtain ⟨x3, e3, _, w3⟩ := DataW.trod_int (k := .i64) (by kernel_rfl) h3
  rw [show Tryz.prog.cellsOf _ = 1 from by kernel_rfl] at e3
  simp at e3
  subst e3
  exact ⟨⟨x0, x1, x2, x3⟩, ⟨in64_of_wf w0, in64_of_wf w1, in64_of_wf w2, in64_of_wf w3⟩, rfl⟩
theorem Choice_cells {H : Type} {enc : TypeId × Value → H} {W : World} {spare : Nat → Bool} {held : Bool} (cs : List Value) (n : Nat) (y : DataW H × List MemPlace) (hlen : cs.length = 5) (h : DataW.trod enc Tryz.prog W 0 spare held n 112 cs = some y) : ∃ x : Choice, okChoice x ∧ cs = encChoice x := by
 obtain ⟨xs, n, _, rfl, _, hxs, hf⟩ := DataW.trod_struct Tryz.underlying112 h
 match cs, hlen, xs, hxs with
 | [c0, c1, c2, c3, c4], _, [y0, y1, y2], _ =>
  have h0 : DataW.trod enc Tryz.prog W 0 spare held n 60 (([c0, c1, c2, c3, c4].drop 0).take (Tryz.prog.cellsOf 60)) = some y0 := hf 0 _ rfl
  have h1 : DataW.trod enc Tryz.prog W 0 spare held n 60 (([c0, c1, c2, c3, c4].drop 2).take (Tryz.prog.cellsOf 60)) = some y1 := hf 1 _ rfl
  have h2 : DataW.trod enc Tryz.prog W 0 spare held n 4 (([c0, c1, c2, c3, c4].drop 4).take (Tryz.prog.cellsOf 4)) = some y2 := hf 2 _ rfl
  rw [show Tryz.prog.cellsOf _ = 2 from by kernel_rfl] at h0
  obtain ⟨x0, w0, e0⟩ := Un_cells [c0, c1] n _ rfl h0
  simp only [encUn, List.cons.injEq, and_true] at e0
  obtain ⟨rfl, rfl⟩ := e0
  rw [show Tryz.prog.cellsOf _ = 2 from by kernel_rfl] at h1
  obtain ⟨x1, w1, e1⟩ := Un_cells [c2, c3] n _ rfl h1
  simp only [encUn, List.cons.injEq, and_true] at e1
  obtain ⟨rfl, rfl⟩ := e1
  obtain ⟨x2, e2, _⟩ := DataW.trod_bool (by kernel_rfl) h2
  rw [show Tryz.prog.cellsOf _ = 1 from by kernel_rfl] at e2
  simp at e2
  subst e2
  exact ⟨⟨x0, x1, x2⟩, ⟨w0.1, w0.2, w1.1, w1.2⟩, rfl⟩
theorem Group_cells {H : Type} {enc : TypeId × Value → H} {W : World} {spare : Nat → Bool} {held : Bool} (cs : List Value) (n : Nat) (y : DataW H × List MemPlace) (hlen : cs.length = 6) (h : DataW.trod enc Tryz.prog W 0 spare held n 62 cs = some y) : ∃ x : Group, okGroup x ∧ cs = encGroup x := by
 obtain ⟨xs, n, _, rfl, _, hxs, hf⟩ := DataW.trod_struct Tryz.underlying62 h
 match cs, hlen, xs, hxs with
 | [c0, c1, c2, c3, c4, c5], _, [y0, y1, y2, y3, y4], _ =>
  have h0 : DataW.trod enc Tryz.prog W 0 spare held n 3 (([c0, c1, c2, c3, c4, c5].drop 0).take (Tryz.prog.cellsOf 3)) = some y0 := hf 0 _ rfl
  have h1 : DataW.trod enc Tryz.prog W 0 spare held n 60 (([c0, c1, c2, c3, c4, c5].drop 1).take (Tryz.prog.cellsOf 60)) = some y1 := hf 1 _ rfl
  have h2 : DataW.trod enc Tryz.prog W 0 spare held n 3 (([c0, c1, c2, c3, c4, c5].drop 3).take (Tryz.prog.cellsOf 3)) = some y2 := hf 2 _ rfl
  have h3 : DataW.trod enc Tryz.prog W 0 spare held n 2 (([c0, c1, c2, c3, c4, c5].drop 4).take (Tryz.prog.cellsOf 2)) = some y3 := hf 3 _ rfl
  have h4 : DataW.trod enc Tryz.prog W 0 spare held n 2 (([c0, c1, c2, c3, c4, c5].drop 5).take (Tryz.prog.cellsOf 2)) = some y4 := hf 4 _ rfl
  obtain ⟨x0, e0, _, w0⟩ := DataW.trod_int (k := .i64) (by kernel_rfl) h0
  rw [show Tryz.prog.cellsOf _ = 1 from by kernel_rfl] at e0
  simp at e0
  subst e0
  rw [show Tryz.prog.cellsOf _ = 2 from by kernel_rfl] at h1
  obtain ⟨x1, w1, e1⟩ := Un_cells [c1, c2] n _ rfl h1
  simp only [encUn, List.cons.injEq, and_true] at e1
  obtain ⟨rfl, rfl⟩ := e1
  obtain ⟨x2, e2, _, w2⟩ := DataW.trod_int (k := .i64) (by kernel_rfl) h2
  rw [show Tryz.prog.cellsOf _ = 1 from by kernel_rfl] at e2
  simp at e2
  subst e2
  obtain ⟨x3, e3, _, w3⟩ := DataW.trod_int (k := .i64) (by kernel_rfl) h3
  rw [show Tryz.prog.cellsOf _ = 1 from by kernel_rfl] at e3
  simp at e3
  subst e3
  obtain ⟨x4, e4, _, w4⟩ := DataW.trod_int (k := .i64) (by kernel_rfl) h4
  rw [show Tryz.prog.cellsOf _ = 1 from by kernel_rfl] at e4
  simp at e4
  subst e4
  exact ⟨⟨x0, x1, x2, x3, x4⟩, ⟨in64_of_wf w0, w1.1, w1.2, in64_of_wf w2, in64_of_wf w3, in64_of_wf w4⟩, rfl⟩
theorem Give_cells {H : Type} {enc : TypeId × Value → H} {W : World} {spare : Nat → Bool} {held : Bool} (cs : List Value) (n : Nat) (y : DataW H × List MemPlace) (hlen : cs.length = 11) (h : DataW.trod enc Tryz.prog W 0 spare held n 66 cs = some y) : ∃ x : Give, okGive x ∧ cs = encGive x := by
 obtain ⟨xs, n, _, rfl, _, hxs, hf⟩ := DataW.trod_struct Tryz.underlying66 h
 match cs, hlen, xs, hxs with
 | [c0, c1, c2, c3, c4, c5, c6, c7, c8, c9, c10], _, [y0, y1, y2, y3, y4, y5, y6, y7], _ =>
  have h0 : DataW.trod enc Tryz.prog W 0 spare held n 3 (([c0, c1, c2, c3, c4, c5, c6, c7, c8, c9, c10].drop 0).take (Tryz.prog.cellsOf 3)) = some y0 := hf 0 _ rfl
  have h1 : DataW.trod enc Tryz.prog W 0 spare held n 60 (([c0, c1, c2, c3, c4, c5, c6, c7, c8, c9, c10].drop 1).take (Tryz.prog.cellsOf 60)) = some y1 := hf 1 _ rfl
  have h2 : DataW.trod enc Tryz.prog W 0 spare held n 60 (([c0, c1, c2, c3, c4, c5, c6, c7, c8, c9, c10].drop 3).take (Tryz.prog.cellsOf 60)) = some y2 := hf 2 _ rfl
  have h3 : DataW.trod enc Tryz.prog W 0 spare held n 64 (([c0, c1, c2, c3, c4, c5, c6, c7, c8, c9, c10].drop 5).take (Tryz.prog.cellsOf 64)) = some y3 := hf 3 _ rfl
  have h4 : DataW.trod enc Tryz.prog W 0 spare held n 2 (([c0, c1, c2, c3, c4, c5, c6, c7, c8, c9, c10].drop 7).take (Tryz.prog.cellsOf 2)) = some y4 := hf 4 _ rfl
  have h5 : DataW.trod enc Tryz.prog W 0 spare held n 3 (([c0, c1, c2, c3, c4, c5, c6, c7, c8, c9, c10].drop 8).take (Tryz.prog.cellsOf 3)) = some y5 := hf 5 _ rfl
  have h6 : DataW.trod enc Tryz.prog W 0 spare held n 3 (([c0, c1, c2, c3, c4, c5, c6, c7, c8, c9, c10].drop 9).take (Tryz.prog.cellsOf 3)) = some y6 := hf 6 _ rfl
  have h7 : DataW.trod enc Tryz.prog W 0 spare held n 3 (([c0, c1, c2, c3, c4, c5, c6, c7, c8, c9, c10].drop 10).take (Tryz.prog.cellsOf 3)) = some y7 := hf 7 _ rfl
  obtain ⟨x0, e0, _, w0⟩ := DataW.trod_int (k := .i64) (by kernel_rfl) h0
  rw [show Tryz.prog.cellsOf _ = 1 from by kernel_rfl] at e0
  simp at e0
  subst e0
  rw [show Tryz.prog.cellsOf _ = 2 from by kernel_rfl] at h1
  obtain ⟨x1, w1, e1⟩ := Un_cells [c1, c2] n _ rfl h1
  simp only [encUn, List.cons.injEq, and_true] at e1
  obtain ⟨rfl, rfl⟩ := e1
  rw [show Tryz.prog.cellsOf _ = 2 from by kernel_rfl] at h2
  obtain ⟨x2, w2, e2⟩ := Un_cells [c3, c4] n _ rfl h2
  simp only [encUn, List.cons.injEq, and_true] at e2
  obtain ⟨rfl, rfl⟩ := e2
  rw [show Tryz.prog.cellsOf _ = 2 from by kernel_rfl] at h3
  obtain ⟨x3, w3, e3⟩ := Leg_cells [c5, c6] n _ rfl h3
  simp only [encLeg, List.cons.injEq, and_true] at e3
  obtain ⟨rfl, rfl⟩ := e3
  obtain ⟨x4, e4, _, w4⟩ := DataW.trod_int (k := .i64) (by kernel_rfl) h4
  rw [show Tryz.prog.cellsOf _ = 1 from by kernel_rfl] at e4
  simp at e4
  subst e4
  obtain ⟨x5, e5, _, w5⟩ := DataW.trod_int (k := .i64) (by kernel_rfl) h5
  rw [show Tryz.prog.cellsOf _ = 1 from by kernel_rfl] at e5
  simp at e5
  subst e5
  obtain ⟨x6, e6, _, w6⟩ := DataW.trod_int (k := .i64) (by kernel_rfl) h6
  rw [show Tryz.prog.cellsOf _ = 1 from by kernel_rfl] at e6
  simp at e6
  subst e6
  obtain ⟨x7, e7, _, w7⟩ := DataW.trod_int (k := .i64) (by kernel_rfl) h7
  rw [show Tryz.prog.cellsOf _ = 1 from by kernel_rfl] at e7
  simp at e7
  subst e7
  exact ⟨⟨x0, x1, x2, x3, x4, x5, x6, x7⟩, ⟨in64_of_wf w0, w1.1, w1.2, w2.1, w2.2, w3.1, w3.2, in64_of_wf w4, in64_of_wf w5, in64_of_wf w6, in64_of_wf w7⟩, rfl⟩
theorem N_cells {H : Type} {enc : TypeId × Value → H} {W : World} {spare : Nat → Bool} {held : Bool} (cs : List Value) (n : Nat) (y : DataW H × List MemPlace) (_hlen : cs.length = 1) (h : DataW.trod enc Tryz.prog W 0 spare held n 3 cs = some y) : ∃ x : Int, In64 x ∧ cs = encI x := by
 obtain ⟨x0, e0, _, w0⟩ := DataW.trod_int (k := .i64) (by kernel_rfl) h
 exact ⟨x0, in64_of_wf w0, e0⟩
theorem nlist_cells {H : Type} {enc : TypeId × Value → H} {W : World} {spare : Nat → Bool} {held : Bool} {fuel : Nat} {cs : List Value} {y : DataW H × List MemPlace} (h : DataW.trod enc Tryz.prog W 0 spare held fuel 52 cs = some y) :
  ∃ (l : List Int) (A : Option Addr) (c : Nat), cs = [.slice A l.length c] ∧ (∀ x ∈ l, In64 x) ∧ Rs W 1 (l.map encI) A c := by
 obtain ⟨l, A, c, h1, h2, h3, h4, h5, h6⟩ := slice_open0 (enc1 := encI) Tryz.underlying52 (by kernel_rfl) (fun cs n y => N_cells cs n y) (fun _ _ => rfl) (by omega) h
 exact ⟨l, A, c, h1, h2, ⟨h6, by rw [List.length_map]; exact h3, h4, h5⟩⟩
theorem members_cells {H : Type} {enc : TypeId × Value → H} {W : World} {spare : Nat → Bool} {held : Bool} {fuel : Nat} {cs : List Value} {y : DataW H × List MemPlace} (h : DataW.trod enc Tryz.prog W 0 spare held fuel 22 cs = some y) :
  ∃ (l : List Mb) (A : Option Addr) (c : Nat), cs = [.slice A l.length c] ∧ (∀ x ∈ l, okMb x) ∧ Rs W 4 (l.map encMb) A c := by
 obtain ⟨l, A, c, h1, h2, h3, h4, h5, h6⟩ := slice_open0 (enc1 := encMb) Tryz.underlying22 (by kernel_rfl) (fun cs n y => Mb_cells cs n y) (fun _ _ => rfl) (by omega) h
 exact ⟨l, A, c, h1, h2, ⟨h6, by rw [List.length_map]; exact h3, h4, h5⟩⟩
theorem choices_cells {H : Type} {enc : TypeId × Value → H} {W : World} {spare : Nat → Bool} {held : Bool} {fuel : Nat} {cs : List Value} {y : DataW H × List MemPlace} (h : DataW.trod enc Tryz.prog W 0 spare held fuel 26 cs = some y) :
  ∃ (l : List Choice) (A : Option Addr) (c : Nat), cs = [.slice A l.length c] ∧ (∀ x ∈ l, okChoice x) ∧ Rs W 5 (l.map encChoice) A c := by
 obtain ⟨l, A, c, h1, h2, h3, h4, h5, h6⟩ := slice_open0 (enc1 := encChoice) Tryz.underlying26 (by kernel_rfl) (fun cs n y => Choice_cells cs n y) (fun _ _ => rfl) (by omega) h
 exact ⟨l, A, c, h1, h2, ⟨h6, by rw [List.length_map]; exact h3, h4, h5⟩⟩
theorem groups_cells {H : Type} {enc : TypeId × Value → H} {W : World} {spare : Nat → Bool} {held : Bool} {fuel : Nat} {cs : List Value} {y : DataW H × List MemPlace} (h : DataW.trod enc Tryz.prog W 0 spare held fuel 27 cs = some y) :
  ∃ (l : List Group) (A : Option Addr) (c : Nat), cs = [.slice A l.length c] ∧ (∀ x ∈ l, okGroup x) ∧ Rs W 6 (l.map encGroup) A c := by
 obtain ⟨l, A, c, h1, h2, h3, h4, h5, h6⟩ := slice_open0 (enc1 := encGroup) Tryz.underlying27 (by kernel_rfl) (fun cs n y => Group_cells cs n y) (fun _ _ => rfl) (by omega) h
 exact ⟨l, A, c, h1, h2, ⟨h6, by rw [List.length_map]; exact h3, h4, h5⟩⟩
theorem gives_cells {H : Type} {enc : TypeId × Value → H} {W : World} {spare : Nat → Bool} {held : Bool} {fuel : Nat} {cs : List Value} {y : DataW H × List MemPlace} (h : DataW.trod enc Tryz.prog W 0 spare held fuel 28 cs = some y) :
  ∃ (l : List Give) (A : Option Addr) (c : Nat), cs = [.slice A l.length c] ∧ (∀ x ∈ l, okGive x) ∧ Rs W 11 (l.map encGive) A c := by
 obtain ⟨l, A, c, h1, h2, h3, h4, h5, h6⟩ := slice_open0 (enc1 := encGive) Tryz.underlying28 (by kernel_rfl) (fun cs n y => Give_cells cs n y) (fun _ _ => rfl) (by omega) h
 exact ⟨l, A, c, h1, h2, ⟨h6, by rw [List.length_map]; exact h3, h4, h5⟩⟩
theorem AcctG_cells {H : Type} {enc : TypeId × Value → H} {W : World} {spare : Nat → Bool} {held : Bool} (cs : List Value) (n : Nat) (y : DataW H × List MemPlace) (hlen : cs.length = 4) (h : DataW.trod enc Tryz.prog W 0 spare held n 54 cs = some y) :
  ∃ x : AcctV, cs = encAcctV x ∧ GoodA W x ∧ In64 x.id ∧ In64 x.member ∧ In64 x.kind ∧ ∀ z ∈ x.clients.val, In64 z := by
 obtain ⟨xs, n, _, rfl, _, hxs, hf⟩ := DataW.trod_struct Tryz.underlying54 h
 match cs, hlen, xs, hxs with
 | [c0, c1, c2, c3], _, [y0, y1, y2, y3], _ =>
  have h0 : DataW.trod enc Tryz.prog W 0 spare held n 3 (([c0, c1, c2, c3].drop 0).take (Tryz.prog.cellsOf 3)) = some y0 := hf 0 _ rfl
  have h1 : DataW.trod enc Tryz.prog W 0 spare held n 3 (([c0, c1, c2, c3].drop 1).take (Tryz.prog.cellsOf 3)) = some y1 := hf 1 _ rfl
  have h2 : DataW.trod enc Tryz.prog W 0 spare held n 3 (([c0, c1, c2, c3].drop 2).take (Tryz.prog.cellsOf 3)) = some y2 := hf 2 _ rfl
  have h3 : DataW.trod enc Tryz.prog W 0 spare held n 52 (([c0, c1, c2, c3].drop 3).take (Tryz.prog.cellsOf 52)) = some y3 := hf 3 _ rfl
  obtain ⟨x0, e0, _, w0⟩ := DataW.trod_int (k := .i64) (by kernel_rfl) h0
  obtain ⟨x1, e1, _, w1⟩ := DataW.trod_int (k := .i64) (by kernel_rfl) h1
  obtain ⟨x2, e2, _, w2⟩ := DataW.trod_int (k := .i64) (by kernel_rfl) h2
  obtain ⟨l, A, c, e3, q3, r3⟩ := nlist_cells h3
  rw [show Tryz.prog.cellsOf _ = 1 from by kernel_rfl] at e0 e1 e2 e3
  simp at e0 e1 e2 e3
  subst e0 e1 e2 e3
  exact ⟨⟨x0, x1, x2, ⟨A, c, l⟩⟩, rfl, r3, in64_of_wf w0, in64_of_wf w1, in64_of_wf w2, q3⟩
theorem acctsG_cells {H : Type} {enc : TypeId × Value → H} {W : World} {spare : Nat → Bool} {held : Bool} {fuel : Nat} {cs : List Value} {y : DataW H × List MemPlace} (h : DataW.trod enc Tryz.prog W 0 spare held fuel 25 cs = some y) :
  ∃ (l : List AcctV) (A : Option Addr) (c : Nat), cs = [.slice A l.length c] ∧ l.length ≤ maxLen ∧ Rd W A 4 (l.map encAcctV) ∧ (∀ x ∈ l, GoodA W x) ∧ ∀ x ∈ l, In64 x.id ∧ In64 x.member ∧ In64 x.kind ∧ ∀ z ∈ x.clients.val, In64 z := by
 obtain ⟨ls, rows, A, c, h1, h2, h3⟩ := slice_rel (R := fun r (x : AcctV) => r = encAcctV x ∧ GoodA W x ∧ In64 x.id ∧ In64 x.member ∧ In64 x.kind ∧ ∀ z ∈ x.clients.val, In64 z) Tryz.underlying25 (k := 4) (by kernel_rfl) (fun cs n y hlen hy => by
  obtain ⟨x, rfl, hrs⟩ := AcctG_cells cs n y hlen hy
  exact ⟨x, ⟨rfl, hrs⟩, rfl⟩) (by omega) h
 have hrows : rows = ls.map encAcctV := by
  apply List.ext_getElem?
  intro i
  rw [List.getElem?_map]
  rcases Nat.lt_or_ge i ls.length with hi | hi
  ·obtain ⟨r, hr, hq, _⟩ := h2.get hi
   rw [hr, List.getElem?_eq_getElem hi, hq]; rfl
  ·rw [List.getElem?_eq_none hi, List.getElem?_eq_none (by rw [h2.len]; omega)]; rfl
 have hcap := h3.cap
 have hroom := h3.room
 rw [h2.len] at hcap
 refine ⟨ls, A, c, h1, by omega, by rw [← hrows]; exact h3.rd, fun x hx => ?_, fun x hx => ?_⟩
 ·obtain ⟨i, hi, rfl⟩ := List.mem_iff_getElem.1 hx
  obtain ⟨r, _, _, hg, _⟩ := h2.get hi
  exact hg
 ·obtain ⟨i, hi, rfl⟩ := List.mem_iff_getElem.1 hx
  obtain ⟨r, _, _, _, hg⟩ := h2.get hi
  exact hg
theorem rs_len {w : World} {k : Nat} {α : Type} {f : α → List Value} {l : List α} {A : Option Addr} {c : Nat} (h : Rs w k (l.map f) A c) : l.length ≤ maxLen := by
 have h1 := h.cap
 have h2 := h.room
 rw [List.length_map] at h1
 omega
theorem State_open {H : Type} {enc : TypeId × Value → H} {W : World} {spare : Nat → Bool} {held : Bool} {r : Reach} {b0 : Nat} {v : Value} {d : DataW H} {p : List MemPlace} (hv : Value.okWide Tryz.prog W r b0 33 v) (h : DataW.Trod enc Tryz.prog W 0 spare held 33 v d p) :
  ∃ s : StV, v = .agg #[.int .i64 (s).day, .slice (s).mem.A (s).mem.val.length (s).mem.c, .slice (s).ins.A (s).ins.val.length (s).ins.c, .slice (s).ats.A (s).ats.val.length (s).ats.c, .slice (s).acs.A (s).acs.val.length (s).acs.c, .slice (s).cho.A (s).cho.val.length (s).cho.c, .slice (s).grp.A (s).grp.val.length (s).grp.c, .slice (s).giv.A (s).giv.val.length (s).giv.c, .slice (s).bk.A (s).bk.val.length (s).bk.c, .slice (s).sale.A (s).sale.val.length (s).sale.c, .slice (s).pu.A (s).pu.val.length (s).pu.c, .slice (s).ho.A (s).ho.val.length (s).ho.c] ∧ RawSt W s := by
 obtain ⟨cs, rfl, hsz⟩ := okWide_struct Tryz.underlying33 hv
 obtain ⟨fuel, hf⟩ := h
 rw [show Tryz.prog.cellsOf _ = 12 from by kernel_rfl] at hsz
 simp only [Value.cells] at hf
 obtain ⟨cl⟩ := cs
 obtain ⟨xs, n, _, _, _, hxs, hf⟩ := DataW.trod_struct Tryz.underlying33 hf
 match cl, hsz, xs, hxs with
 | [c0, c1, c2, c3, c4, c5, c6, c7, c8, c9, c10, c11], _, [y0, y1, y2, y3, y4, y5, y6, y7, y8, y9, y10, y11], _ =>
  have h0 : DataW.trod enc Tryz.prog W 0 spare held n 3 (([c0, c1, c2, c3, c4, c5, c6, c7, c8, c9, c10, c11].drop 0).take (Tryz.prog.cellsOf 3)) = some y0 := hf 0 _ rfl
  have h1 : DataW.trod enc Tryz.prog W 0 spare held n 22 (([c0, c1, c2, c3, c4, c5, c6, c7, c8, c9, c10, c11].drop 1).take (Tryz.prog.cellsOf 22)) = some y1 := hf 1 _ rfl
  have h2 : DataW.trod enc Tryz.prog W 0 spare held n 23 (([c0, c1, c2, c3, c4, c5, c6, c7, c8, c9, c10, c11].drop 2).take (Tryz.prog.cellsOf 23)) = some y2 := hf 2 _ rfl
  have h3 : DataW.trod enc Tryz.prog W 0 spare held n 24 (([c0, c1, c2, c3, c4, c5, c6, c7, c8, c9, c10, c11].drop 3).take (Tryz.prog.cellsOf 24)) = some y3 := hf 3 _ rfl
  have h4 : DataW.trod enc Tryz.prog W 0 spare held n 25 (([c0, c1, c2, c3, c4, c5, c6, c7, c8, c9, c10, c11].drop 4).take (Tryz.prog.cellsOf 25)) = some y4 := hf 4 _ rfl
  have h5 : DataW.trod enc Tryz.prog W 0 spare held n 26 (([c0, c1, c2, c3, c4, c5, c6, c7, c8, c9, c10, c11].drop 5).take (Tryz.prog.cellsOf 26)) = some y5 := hf 5 _ rfl
  have h6 : DataW.trod enc Tryz.prog W 0 spare held n 27 (([c0, c1, c2, c3, c4, c5, c6, c7, c8, c9, c10, c11].drop 6).take (Tryz.prog.cellsOf 27)) = some y6 := hf 6 _ rfl
  have h7 : DataW.trod enc Tryz.prog W 0 spare held n 28 (([c0, c1, c2, c3, c4, c5, c6, c7, c8, c9, c10, c11].drop 7).take (Tryz.prog.cellsOf 28)) = some y7 := hf 7 _ rfl
  have h8 : DataW.trod enc Tryz.prog W 0 spare held n 29 (([c0, c1, c2, c3, c4, c5, c6, c7, c8, c9, c10, c11].drop 8).take (Tryz.prog.cellsOf 29)) = some y8 := hf 8 _ rfl
  have h9 : DataW.trod enc Tryz.prog W 0 spare held n 29 (([c0, c1, c2, c3, c4, c5, c6, c7, c8, c9, c10, c11].drop 9).take (Tryz.prog.cellsOf 29)) = some y9 := hf 9 _ rfl
  have h10 : DataW.trod enc Tryz.prog W 0 spare held n 30 (([c0, c1, c2, c3, c4, c5, c6, c7, c8, c9, c10, c11].drop 10).take (Tryz.prog.cellsOf 30)) = some y10 := hf 10 _ rfl
  have h11 : DataW.trod enc Tryz.prog W 0 spare held n 31 (([c0, c1, c2, c3, c4, c5, c6, c7, c8, c9, c10, c11].drop 11).take (Tryz.prog.cellsOf 31)) = some y11 := hf 11 _ rfl
  rw [show Tryz.prog.cellsOf _ = 1 from by kernel_rfl] at h0 h1 h2 h3 h4 h5 h6 h7 h8 h9 h10 h11
  obtain ⟨x0, e0, _, w0⟩ := DataW.trod_int (k := .i64) (by kernel_rfl) h0
  obtain ⟨l1, A1, d1, e1, q1, r1⟩ := members_cells h1
  obtain ⟨l2, A2, d2, e2, q2, r2, g2⟩ := insts_cells h2
  obtain ⟨l3, A3, d3, e3, q3, r3⟩ := assets_cells h3
  obtain ⟨l4, A4, d4, e4, q4, r4, g4, k4⟩ := acctsG_cells h4
  obtain ⟨l5, A5, d5, e5, q5, r5⟩ := choices_cells h5
  obtain ⟨l6, A6, d6, e6, q6, r6⟩ := groups_cells h6
  obtain ⟨l7, A7, d7, e7, q7, r7⟩ := gives_cells h7
  obtain ⟨l8, A8, d8, e8, q8, r8, g8, k8⟩ := poss_cells h8
  obtain ⟨l9, A9, d9, e9, q9, r9, g9, k9⟩ := poss_cells h9
  obtain ⟨l10, A10, d10, e10, q10, r10⟩ := flows_cells h10
  obtain ⟨l11, A11, d11, e11, q11, r11, g11, k11⟩ := holds_cells h11
  simp at e0 e1 e2 e3 e4 e5 e6 e7 e8 e9 e10 e11
  subst e0 e1 e2 e3 e4 e5 e6 e7 e8 e9 e10 e11
  refine ⟨⟨x0, ⟨A1, d1, l1⟩, ⟨A2, d2, l2⟩, ⟨A3, d3, l3⟩, ⟨A4, d4, l4⟩, ⟨A5, d5, l5⟩, ⟨A6, d6, l6⟩, ⟨A7, d7, l7⟩, ⟨A8, d8, l8⟩, ⟨A9, d9, l9⟩, ⟨A10, d10, l10⟩, ⟨A11, d11, l11⟩⟩, rfl, ?_⟩
  exact ⟨⟨rs_len r3, r3.rd, q2, r2, g2, q8, r8, g8, fun x hx z hz => (k8 x hx z hz).2, r10, fun x hx => (q10 x hx).2.2, q11, r11, g11, fun x hx z hz => (k11 x hx z hz).2.2⟩, in64_of_wf w0, rs_len r1, r1.rd, q1, q4, r4, g4, k4, q9, r9, g9, k8, k9, k11, r5, rs_len r6, r6.rd, q6, rs_len r7, r7.rd, q7⟩
end
end Go.Proofs.YtalgfpegaobacaaGreatDoor
