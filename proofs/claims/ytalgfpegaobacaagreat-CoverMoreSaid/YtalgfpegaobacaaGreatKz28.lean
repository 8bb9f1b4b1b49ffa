/- Joined: InstOpen, LegOpen, UnOpen, PosOpen, LotOpen, LotsOpen, HoldOpen, SideOpen, AcctOpen. -/
import Derived.Test.YtalgfpegaobacaaGreatKz27
import Derived.Test.YtalgfpegaobacaaGreatKz8
import Derived.Test.YtalgfpegaobacaaGreatKz7
import Derived.Test.YtalgfpegaobacaaGreatKz15
import Derived.Test.YtalgfpegaobacaaGreatKz5
import Derived.Test.YtalgfpegaobacaaGreatKz19
import Derived.Test.YtalgfpegaobacaaGreatKz24
import Derived.Test.YtalgfpegaobacaaGreatKz13
import Derived.Test.YtalgfpegaobacaaGreatRows
/- Instruments handed in. -/
namespace Go.Proofs.YtalgfpegaobacaaGreat
open Go.ChangeShapes Go.WideShapes Go.ChangeAt Go.RowKit Go.Joins
def okInst (x : Inst) : Prop := In64 x.id ∧ In64 x.mult ∧ In64 x.price ∧ In64 x.next ∧ ∀ m ∈ x.moves, In64 m
set_option maxRecDepth 100000 in
theorem Inst_cells {H : Type} {enc : TypeId × Value → H} {W : World} {spare : Nat → Bool} {held : Bool} (cs : List Value) (n : Nat) (y : DataW H × List MemPlace) (hlen : cs.length = 5) (h : DataW.trod enc Tryz.prog W 0 spare held n 91 cs = some y) :
    ∃ (x : Inst) (A : Option Addr) (c : Nat), okInst x ∧ cs = [.int .i64 x.id, .int .i64 x.mult, .int .i64 x.price, .int .i64 x.next, .slice A x.moves.length c] ∧ Rs W 1 (x.moves.map encI) A c := by
  obtain ⟨xs, n, _, rfl, _, hxs, hf⟩ := DataW.trod_struct Tryz.underlying91 h
  match cs, hlen, xs, hxs with
  | [c0, c1, c2, c3, c4], _, [y0, y1, y2, y3, y4], _ =>
    have h0 : DataW.trod enc Tryz.prog W 0 spare held n 3 (([c0, c1, c2, c3, c4].drop 0).take (Tryz.prog.cellsOf 3)) = some y0 := hf 0 _ rfl
    have h1 : DataW.trod enc Tryz.prog W 0 spare held n 2 (([c0, c1, c2, c3, c4].drop 1).take (Tryz.prog.cellsOf 2)) = some y1 := hf 1 _ rfl
    have h2 : DataW.trod enc Tryz.prog W 0 spare held n 2 (([c0, c1, c2, c3, c4].drop 2).take (Tryz.prog.cellsOf 2)) = some y2 := hf 2 _ rfl
    have h3 : DataW.trod enc Tryz.prog W 0 spare held n 2 (([c0, c1, c2, c3, c4].drop 3).take (Tryz.prog.cellsOf 2)) = some y3 := hf 3 _ rfl
    have h4 : DataW.trod enc Tryz.prog W 0 spare held n 68 (([c0, c1, c2, c3, c4].drop 4).take (Tryz.prog.cellsOf 68)) = some y4 := hf 4 _ rfl
    obtain ⟨x0, e0, _, w0⟩ := DataW.trod_int (k := .i64) (by kernel_rfl) h0
    obtain ⟨x1, e1, _, w1⟩ := DataW.trod_int (k := .i64) (by kernel_rfl) h1
    obtain ⟨x2, e2, _, w2⟩ := DataW.trod_int (k := .i64) (by kernel_rfl) h2
    obtain ⟨x3, e3, _, w3⟩ := DataW.trod_int (k := .i64) (by kernel_rfl) h3
    obtain ⟨l, A, c, e4⟩ := ints_cells h4
    have e5 := e4.eq
    rw [show Tryz.prog.cellsOf _ = 1 from by kernel_rfl] at e0 e1 e2 e3 e5
    simp at e0 e1 e2 e3 e5
    subst e0 e1 e2 e3 e5
    exact ⟨⟨x0, x1, x2, x3, l⟩, A, c, ⟨in64_of_wf w0, in64_of_wf w1, in64_of_wf w2, in64_of_wf w3, e4.ok⟩, rfl, e4.rs⟩
end Go.Proofs.YtalgfpegaobacaaGreat

/- Legs handed in. -/
namespace Go.Proofs.YtalgfpegaobacaaGreat
open Go.ChangeShapes Go.WideShapes Go.ChangeAt Go.RowKit Go.Joins
set_option maxRecDepth 100000 in
theorem Leg_cells {H : Type} {enc : TypeId × Value → H} {W : World} {spare : Nat → Bool} {held : Bool} (cs : List Value) (n : Nat) (y : DataW H × List MemPlace) (hlen : cs.length = 2) (h : DataW.trod enc Tryz.prog W 0 spare held n 162 cs = some y) : ∃ x : Leg, okLeg x ∧ cs = encLeg x := by
  obtain ⟨xs, n, _, rfl, _, hxs, hf⟩ := DataW.trod_struct Tryz.underlying162 h
  match cs, hlen, xs, hxs with
  | [c0, c1], _, [y0, y1], _ =>
    have h0 : DataW.trod enc Tryz.prog W 0 spare held n 3 (([c0, c1].drop 0).take (Tryz.prog.cellsOf 3)) = some y0 := hf 0 _ rfl
    have h1 : DataW.trod enc Tryz.prog W 0 spare held n 2 (([c0, c1].drop 1).take (Tryz.prog.cellsOf 2)) = some y1 := hf 1 _ rfl
    obtain ⟨x0, e0, _, w0⟩ := DataW.trod_int (k := .i64) (by kernel_rfl) h0
    rw [show Tryz.prog.cellsOf _ = 1 from by kernel_rfl] at e0
    simp at e0
    subst e0
    obtain ⟨x1, e1, _, w1⟩ := DataW.trod_int (k := .i64) (by kernel_rfl) h1
    rw [show Tryz.prog.cellsOf _ = 1 from by kernel_rfl] at e1
    simp at e1
    subst e1
    exact ⟨⟨x0, x1⟩, ⟨in64_of_wf w0, in64_of_wf w1⟩, rfl⟩
set_option maxRecDepth 100000 in
theorem legs_cells {H : Type} {enc : TypeId × Value → H} {W : World} {spare : Nat → Bool} {held : Bool} {fuel : Nat} {cs : List Value} {y : DataW H × List MemPlace} (h : DataW.trod enc Tryz.prog W 0 spare held fuel 92 cs = some y) :
    ∃ (l : List Leg) (A : Option Addr) (c : Nat), cs = [.slice A l.length c] ∧ (∀ x ∈ l, okLeg x) ∧ Rs W 2 (l.map encLeg) A c := by
  obtain ⟨l, A, c, h1, h2, h3, h4, h5, h6⟩ := slice_open0 (enc1 := encLeg) Tryz.underlying92 (by kernel_rfl) (fun cs n y => Leg_cells cs n y) (fun _ _ => rfl) (by omega) h
  exact ⟨l, A, c, h1, h2, ⟨h6, by rw [List.length_map]; exact h3, h4, h5⟩⟩
end Go.Proofs.YtalgfpegaobacaaGreat

/- Units handed in. -/
namespace Go.Proofs.YtalgfpegaobacaaGreat
open Go.ChangeShapes Go.WideShapes Go.ChangeAt Go.RowKit Go.Joins
set_option maxRecDepth 100000 in
theorem Un_cells {H : Type} {enc : TypeId × Value → H} {W : World} {spare : Nat → Bool} {held : Bool} (cs : List Value) (n : Nat) (y : DataW H × List MemPlace) (hlen : cs.length = 2) (h : DataW.trod enc Tryz.prog W 0 spare held n 41 cs = some y) : ∃ x : Un, okUn x ∧ cs = encUn x := by
  obtain ⟨xs, n, _, rfl, _, hxs, hf⟩ := DataW.trod_struct Tryz.underlying41 h
  match cs, hlen, xs, hxs with
  | [c0, c1], _, [y0, y1], _ =>
    have h0 : DataW.trod enc Tryz.prog W 0 spare held n 3 (([c0, c1].drop 0).take (Tryz.prog.cellsOf 3)) = some y0 := hf 0 _ rfl
    have h1 : DataW.trod enc Tryz.prog W 0 spare held n 3 (([c0, c1].drop 1).take (Tryz.prog.cellsOf 3)) = some y1 := hf 1 _ rfl
    obtain ⟨x0, e0, _, w0⟩ := DataW.trod_int (k := .i64) (by kernel_rfl) h0
    rw [show Tryz.prog.cellsOf _ = 1 from by kernel_rfl] at e0
    simp at e0
    subst e0
    obtain ⟨x1, e1, _, w1⟩ := DataW.trod_int (k := .i64) (by kernel_rfl) h1
    rw [show Tryz.prog.cellsOf _ = 1 from by kernel_rfl] at e1
    simp at e1
    subst e1
    exact ⟨⟨x0, x1⟩, ⟨in64_of_wf w0, in64_of_wf w1⟩, rfl⟩
end Go.Proofs.YtalgfpegaobacaaGreat

/- Positions handed in. -/
namespace Go.Proofs.YtalgfpegaobacaaGreat
open Go.ChangeShapes Go.WideShapes Go.ChangeAt Go.RowKit Go.Joins
set_option maxRecDepth 100000 in
theorem PosV_cells {H : Type} {enc : TypeId × Value → H} {W : World} {spare : Nat → Bool} {held : Bool} (cs : List Value) (n : Nat) (y : DataW H × List MemPlace) (hlen : cs.length = 3) (h : DataW.trod enc Tryz.prog W 0 spare held n 94 cs = some y) :
    ∃ x : PosV, cs = encPosV x ∧ (∀ z ∈ x.legs.val, okLeg z) ∧ Rs W 2 (x.legs.val.map encLeg) x.legs.A x.legs.c := by
  obtain ⟨xs, n, _, rfl, _, hxs, hf⟩ := DataW.trod_struct Tryz.underlying94 h
  match cs, hlen, xs, hxs with
  | [c0, c1, c2], _, [y0, y1], _ =>
    have h0 : DataW.trod enc Tryz.prog W 0 spare held n 41 (([c0, c1, c2].drop 0).take (Tryz.prog.cellsOf 41)) = some y0 := hf 0 _ rfl
    have h1 : DataW.trod enc Tryz.prog W 0 spare held n 92 (([c0, c1, c2].drop 2).take (Tryz.prog.cellsOf 92)) = some y1 := hf 1 _ rfl
    rw [show Tryz.prog.cellsOf _ = 2 from by kernel_rfl] at h0
    obtain ⟨x0, _, e0⟩ := Un_cells [c0, c1] n _ rfl h0
    simp only [encUn, List.cons.injEq, and_true] at e0
    obtain ⟨rfl, rfl⟩ := e0
    rw [show Tryz.prog.cellsOf _ = 1 from by kernel_rfl] at h1
    obtain ⟨l, A, c, e1, hok, hrs⟩ := legs_cells h1
    simp at e1
    subst e1
    exact ⟨⟨x0, ⟨A, c, l⟩⟩, rfl, hok, hrs⟩
end Go.Proofs.YtalgfpegaobacaaGreat

/- Lots handed in. -/
namespace Go.Proofs.YtalgfpegaobacaaGreat
open Go.ChangeShapes Go.WideShapes Go.ChangeAt Go.RowKit Go.Joins
set_option maxRecDepth 100000 in
theorem Lot_cells {H : Type} {enc : TypeId × Value → H} {W : World} {spare : Nat → Bool} {held : Bool} (cs : List Value) (n : Nat) (y : DataW H × List MemPlace) (hlen : cs.length = 3) (h : DataW.trod enc Tryz.prog W 0 spare held n 33 cs = some y) : ∃ x : Lot, okLot x ∧ cs = encLot x := by
  obtain ⟨xs, n, _, rfl, _, hxs, hf⟩ := DataW.trod_struct Tryz.underlying33 h
  match cs, hlen, xs, hxs with
  | [c0, c1, c2], _, [y0, y1, y2], _ =>
    have h0 : DataW.trod enc Tryz.prog W 0 spare held n 3 (([c0, c1, c2].drop 0).take (Tryz.prog.cellsOf 3)) = some y0 := hf 0 _ rfl
    have h1 : DataW.trod enc Tryz.prog W 0 spare held n 3 (([c0, c1, c2].drop 1).take (Tryz.prog.cellsOf 3)) = some y1 := hf 1 _ rfl
    have h2 : DataW.trod enc Tryz.prog W 0 spare held n 2 (([c0, c1, c2].drop 2).take (Tryz.prog.cellsOf 2)) = some y2 := hf 2 _ rfl
    obtain ⟨x0, e0, _, w0⟩ := DataW.trod_int (k := .i64) (by kernel_rfl) h0
    rw [show Tryz.prog.cellsOf _ = 1 from by kernel_rfl] at e0
    simp at e0
    subst e0
    obtain ⟨x1, e1, _, w1⟩ := DataW.trod_int (k := .i64) (by kernel_rfl) h1
    rw [show Tryz.prog.cellsOf _ = 1 from by kernel_rfl] at e1
    simp at e1
    subst e1
    obtain ⟨x2, e2, _, w2⟩ := DataW.trod_int (k := .i64) (by kernel_rfl) h2
    rw [show Tryz.prog.cellsOf _ = 1 from by kernel_rfl] at e2
    simp at e2
    subst e2
    exact ⟨⟨x0, x1, x2⟩, ⟨in64_of_wf w0, in64_of_wf w1, in64_of_wf w2⟩, rfl⟩
set_option maxRecDepth 100000 in
theorem Lot_open {H : Type} {enc : TypeId × Value → H} {W : World} {spare : Nat → Bool} {held : Bool} {r : Reach} {b0 : Nat} {v : Value} {d : DataW H} {p : List MemPlace} (hv : Value.okWide Tryz.prog W r b0 33 v) (h : DataW.Trod enc Tryz.prog W 0 spare held 33 v d p) : ∃ x : Lot, okLot x ∧ v = .agg #[.int .i64 x.asset, .int .i64 x.tag, .int .i64 x.qty] := by
  obtain ⟨cs, rfl, hsz⟩ := okWide_struct Tryz.underlying33 hv
  obtain ⟨fuel, hf⟩ := h
  rw [show Tryz.prog.cellsOf _ = 3 from by kernel_rfl] at hsz
  obtain ⟨x, hx, he⟩ := Lot_cells cs.toList fuel _ (by simpa using hsz) (by simpa [Value.cells] using hf)
  refine ⟨x, hx, ?_⟩
  obtain ⟨l⟩ := cs
  simp only at he
  rw [he]; rfl
end Go.Proofs.YtalgfpegaobacaaGreat

/- Rows of lots handed in. -/
namespace Go.Proofs.YtalgfpegaobacaaGreat
open Go.ChangeShapes Go.WideShapes Go.ChangeAt Go.RowKit Go.Joins
set_option maxRecDepth 100000 in
theorem lots_cells {H : Type} {enc : TypeId × Value → H} {W : World} {spare : Nat → Bool} {held : Bool} {fuel : Nat} {cs : List Value} {y : DataW H × List MemPlace} (h : DataW.trod enc Tryz.prog W 0 spare held fuel 65 cs = some y) :
    ∃ (l : List Lot) (A : Option Addr) (c : Nat), cs = [.slice A l.length c] ∧ (∀ x ∈ l, okLot x) ∧ Rs W 3 (l.map encLot) A c := by
  obtain ⟨l, A, c, h1, h2, h3, h4, h5, h6⟩ := slice_open0 (enc1 := encLot) Tryz.underlying65 (by kernel_rfl) (fun cs n y => Lot_cells cs n y) (fun _ _ => rfl) (by omega) h
  exact ⟨l, A, c, h1, h2, ⟨h6, by rw [List.length_map]; exact h3, h4, h5⟩⟩
end Go.Proofs.YtalgfpegaobacaaGreat

/- Holds handed in. -/
namespace Go.Proofs.YtalgfpegaobacaaGreat
open Go.ChangeShapes Go.WideShapes Go.ChangeAt Go.RowKit Go.Joins

set_option maxRecDepth 100000 in
theorem HoldV_cells {H : Type} {enc : TypeId × Value → H} {W : World} {spare : Nat → Bool} {held : Bool} (cs : List Value) (n : Nat) (y : DataW H × List MemPlace) (hlen : cs.length = 3) (h : DataW.trod enc Tryz.prog W 0 spare held n 97 cs = some y) :
    ∃ x : HoldV, cs = encHoldV x ∧ (∀ z ∈ x.lots.val, okLot z) ∧ Rs W 3 (x.lots.val.map encLot) x.lots.A x.lots.c := by
  obtain ⟨xs, n, _, rfl, _, hxs, hf⟩ := DataW.trod_struct Tryz.underlying97 h
  match cs, hlen, xs, hxs with
  | [c0, c1, c2], _, [y0, y1], _ =>
    have h0 : DataW.trod enc Tryz.prog W 0 spare held n 41 (([c0, c1, c2].drop 0).take (Tryz.prog.cellsOf 41)) = some y0 := hf 0 _ rfl
    have h1 : DataW.trod enc Tryz.prog W 0 spare held n 65 (([c0, c1, c2].drop 2).take (Tryz.prog.cellsOf 65)) = some y1 := hf 1 _ rfl
    rw [show Tryz.prog.cellsOf _ = 2 from by kernel_rfl] at h0
    obtain ⟨x0, _, e0⟩ := Un_cells [c0, c1] n _ rfl h0
    simp only [encUn, List.cons.injEq, and_true] at e0
    obtain ⟨rfl, rfl⟩ := e0
    rw [show Tryz.prog.cellsOf _ = 1 from by kernel_rfl] at h1
    obtain ⟨l, A, c, e1, hok, hrs⟩ := lots_cells h1
    simp at e1
    subst e1
    exact ⟨⟨x0, ⟨A, c, l⟩⟩, rfl, hok, hrs⟩
end Go.Proofs.YtalgfpegaobacaaGreat

/- Sides of cover handed in. -/
namespace Go.Proofs.YtalgfpegaobacaaGreat
open Go.ChangeShapes Go.WideShapes Go.ChangeAt Go.RowKit Go.Joins
set_option maxRecDepth 100000 in
theorem Flow_cells {H : Type} {enc : TypeId × Value → H} {W : World} {spare : Nat → Bool} {held : Bool} (cs : List Value) (n : Nat) (y : DataW H × List MemPlace) (hlen : cs.length = 3) (h : DataW.trod enc Tryz.prog W 0 spare held n 50 cs = some y) : ∃ x : Flow, okFlow x ∧ cs = encFlow x := by
  obtain ⟨xs, n, _, rfl, _, hxs, hf⟩ := DataW.trod_struct Tryz.underlying50 h
  match cs, hlen, xs, hxs with
  | [c0, c1, c2], _, [y0, y1], _ =>
    have h0 : DataW.trod enc Tryz.prog W 0 spare held n 41 (([c0, c1, c2].drop 0).take (Tryz.prog.cellsOf 41)) = some y0 := hf 0 _ rfl
    have h1 : DataW.trod enc Tryz.prog W 0 spare held n 2 (([c0, c1, c2].drop 2).take (Tryz.prog.cellsOf 2)) = some y1 := hf 1 _ rfl
    rw [show Tryz.prog.cellsOf _ = 2 from by kernel_rfl] at h0
    obtain ⟨x0, w0, e0⟩ := Un_cells [c0, c1] n _ rfl h0
    simp only [encUn, List.cons.injEq, and_true] at e0
    obtain ⟨rfl, rfl⟩ := e0
    obtain ⟨x1, e1, _, w1⟩ := DataW.trod_int (k := .i64) (by kernel_rfl) h1
    rw [show Tryz.prog.cellsOf _ = 1 from by kernel_rfl] at e1
    simp at e1
    subst e1
    exact ⟨⟨x0, x1⟩, ⟨w0.1, w0.2, in64_of_wf w1⟩, rfl⟩
set_option maxRecDepth 100000 in
theorem assets_cells {H : Type} {enc : TypeId × Value → H} {W : World} {spare : Nat → Bool} {held : Bool} {fuel : Nat} {cs : List Value} {y : DataW H × List MemPlace} (h : DataW.trod enc Tryz.prog W 0 spare held fuel 22 cs = some y) :
    ∃ (l : List Asset) (A : Option Addr) (c : Nat), cs = [.slice A l.length c] ∧ (∀ x ∈ l, okAsset x) ∧ Rs W 3 (l.map encAsset) A c := by
  obtain ⟨l, A, c, h1, h2, h3, h4, h5, h6⟩ := slice_open0 (enc1 := encAsset) Tryz.underlying22 (by kernel_rfl) (fun cs n y => Asset_cells cs n y) (fun _ _ => rfl) (by omega) h
  exact ⟨l, A, c, h1, h2, ⟨h6, by rw [List.length_map]; exact h3, h4, h5⟩⟩
set_option maxRecDepth 100000 in
theorem flows_cells {H : Type} {enc : TypeId × Value → H} {W : World} {spare : Nat → Bool} {held : Bool} {fuel : Nat} {cs : List Value} {y : DataW H × List MemPlace} (h : DataW.trod enc Tryz.prog W 0 spare held fuel 25 cs = some y) :
    ∃ (l : List Flow) (A : Option Addr) (c : Nat), cs = [.slice A l.length c] ∧ (∀ x ∈ l, okFlow x) ∧ Rs W 3 (l.map encFlow) A c := by
  obtain ⟨l, A, c, h1, h2, h3, h4, h5, h6⟩ := slice_open0 (enc1 := encFlow) Tryz.underlying25 (by kernel_rfl) (fun cs n y => Flow_cells cs n y) (fun _ _ => rfl) (by omega) h
  exact ⟨l, A, c, h1, h2, ⟨h6, by rw [List.length_map]; exact h3, h4, h5⟩⟩
set_option maxRecDepth 100000 in
theorem insts_cells {H : Type} {enc : TypeId × Value → H} {W : World} {spare : Nat → Bool} {held : Bool} {fuel : Nat} {cs : List Value} {y : DataW H × List MemPlace} (h : DataW.trod enc Tryz.prog W 0 spare held fuel 23 cs = some y) :
    ∃ (l : List InstV) (A : Option Addr) (c : Nat), cs = [.slice A l.length c] ∧ l.length ≤ maxLen ∧ Rd W A 5 (l.map encInstV) ∧ ∀ x ∈ l, GoodI W x := by
  obtain ⟨ls, rows, A, c, h1, h2, h3⟩ := slice_rel (R := fun r (x : InstV) => r = encInstV x ∧ GoodI W x) Tryz.underlying23 (k := 5) (by kernel_rfl) (fun cs n y hlen hy => by
    obtain ⟨x, B, e, _, rfl, hrs⟩ := Inst_cells cs n y hlen hy
    exact ⟨⟨x.id, x.mult, x.price, x.next, ⟨B, e, x.moves⟩⟩, ⟨rfl, hrs⟩, rfl⟩) (by omega) h
  have hrows : rows = ls.map encInstV := by
    apply List.ext_getElem?
    intro i
    rw [List.getElem?_map]
    rcases Nat.lt_or_ge i ls.length with hi | hi
    · obtain ⟨r, hr, hq, _⟩ := h2.get hi
      rw [hr, List.getElem?_eq_getElem hi, hq]; rfl
    · rw [List.getElem?_eq_none hi, List.getElem?_eq_none (by rw [h2.len]; omega)]; rfl
  have hcap := h3.cap
  have hroom := h3.room
  rw [h2.len] at hcap
  refine ⟨ls, A, c, h1, by omega, by rw [← hrows]; exact h3.rd, fun x hx => ?_⟩
  obtain ⟨i, hi, rfl⟩ := List.mem_iff_getElem.1 hx
  obtain ⟨r, _, _, hg⟩ := h2.get hi
  exact hg
set_option maxRecDepth 100000 in
theorem poss_cells {H : Type} {enc : TypeId × Value → H} {W : World} {spare : Nat → Bool} {held : Bool} {fuel : Nat} {cs : List Value} {y : DataW H × List MemPlace} (h : DataW.trod enc Tryz.prog W 0 spare held fuel 24 cs = some y) :
    ∃ (l : List PosV) (A : Option Addr) (c : Nat), cs = [.slice A l.length c] ∧ l.length ≤ maxLen ∧ Rd W A 3 (l.map encPosV) ∧ (∀ x ∈ l, Rs W 2 (x.legs.val.map encLeg) x.legs.A x.legs.c) ∧ ∀ x ∈ l, ∀ z ∈ x.legs.val, okLeg z := by
  obtain ⟨ls, rows, A, c, h1, h2, h3⟩ := slice_rel (R := fun r (x : PosV) => r = encPosV x ∧ (∀ z ∈ x.legs.val, okLeg z) ∧ Rs W 2 (x.legs.val.map encLeg) x.legs.A x.legs.c) Tryz.underlying24 (k := 3) (by kernel_rfl) (fun cs n y hlen hy => by
    obtain ⟨x, e, hok, hrs⟩ := PosV_cells cs n y hlen hy
    exact ⟨x, ⟨e, hok, hrs⟩, by rw [e]; rfl⟩) (by omega) h
  have hrows : rows = ls.map encPosV := by
    apply List.ext_getElem?
    intro i
    rw [List.getElem?_map]
    rcases Nat.lt_or_ge i ls.length with hi | hi
    · obtain ⟨r, hr, hq, _⟩ := h2.get hi
      rw [hr, List.getElem?_eq_getElem hi, hq]; rfl
    · rw [List.getElem?_eq_none hi, List.getElem?_eq_none (by rw [h2.len]; omega)]; rfl
  have hcap := h3.cap
  have hroom := h3.room
  rw [h2.len] at hcap
  refine ⟨ls, A, c, h1, by omega, by rw [← hrows]; exact h3.rd, fun x hx => ?_, fun x hx => ?_⟩
  · obtain ⟨i, hi, rfl⟩ := List.mem_iff_getElem.1 hx
    obtain ⟨r, _, _, _, hg⟩ := h2.get hi
    exact hg
  · obtain ⟨i, hi, rfl⟩ := List.mem_iff_getElem.1 hx
    obtain ⟨r, _, _, hg, _⟩ := h2.get hi
    exact hg
set_option maxRecDepth 100000 in
theorem holds_cells {H : Type} {enc : TypeId × Value → H} {W : World} {spare : Nat → Bool} {held : Bool} {fuel : Nat} {cs : List Value} {y : DataW H × List MemPlace} (h : DataW.trod enc Tryz.prog W 0 spare held fuel 26 cs = some y) :
    ∃ (l : List HoldV) (A : Option Addr) (c : Nat), cs = [.slice A l.length c] ∧ l.length ≤ maxLen ∧ Rd W A 3 (l.map encHoldV) ∧ (∀ x ∈ l, Rs W 3 (x.lots.val.map encLot) x.lots.A x.lots.c) ∧ ∀ x ∈ l, ∀ z ∈ x.lots.val, okLot z := by
  obtain ⟨ls, rows, A, c, h1, h2, h3⟩ := slice_rel (R := fun r (x : HoldV) => r = encHoldV x ∧ (∀ z ∈ x.lots.val, okLot z) ∧ Rs W 3 (x.lots.val.map encLot) x.lots.A x.lots.c) Tryz.underlying26 (k := 3) (by kernel_rfl) (fun cs n y hlen hy => by
    obtain ⟨x, e, hok, hrs⟩ := HoldV_cells cs n y hlen hy
    exact ⟨x, ⟨e, hok, hrs⟩, by rw [e]; rfl⟩) (by omega) h
  have hrows : rows = ls.map encHoldV := by
    apply List.ext_getElem?
    intro i
    rw [List.getElem?_map]
    rcases Nat.lt_or_ge i ls.length with hi | hi
    · obtain ⟨r, hr, hq, _⟩ := h2.get hi
      rw [hr, List.getElem?_eq_getElem hi, hq]; rfl
    · rw [List.getElem?_eq_none hi, List.getElem?_eq_none (by rw [h2.len]; omega)]; rfl
  have hcap := h3.cap
  have hroom := h3.room
  rw [h2.len] at hcap
  refine ⟨ls, A, c, h1, by omega, by rw [← hrows]; exact h3.rd, fun x hx => ?_, fun x hx => ?_⟩
  · obtain ⟨i, hi, rfl⟩ := List.mem_iff_getElem.1 hx
    obtain ⟨r, _, _, _, hg⟩ := h2.get hi
    exact hg
  · obtain ⟨i, hi, rfl⟩ := List.mem_iff_getElem.1 hx
    obtain ⟨r, _, _, hg, _⟩ := h2.get hi
    exact hg
set_option maxRecDepth 100000 in
theorem Side_open {H : Type} {enc : TypeId × Value → H} {W : World} {spare : Nat → Bool} {held : Bool} {r : Reach} {b0 : Nat} {v : Value} {d : DataW H} {p : List MemPlace} (hv : Value.okWide Tryz.prog W r b0 28 v) (h : DataW.Trod enc Tryz.prog W 0 spare held 28 v d p) :
    ∃ x : SideV, v = .agg #[.slice (x).ats.A (x).ats.val.length (x).ats.c, .slice (x).ins.A (x).ins.val.length (x).ins.c, .slice (x).bk.A (x).bk.val.length (x).bk.c, .slice (x).pu.A (x).pu.val.length (x).pu.c, .slice (x).ho.A (x).ho.val.length (x).ho.c] ∧ RawS W x := by
  obtain ⟨cs, rfl, hsz⟩ := okWide_struct Tryz.underlying28 hv
  obtain ⟨fuel, hf⟩ := h
  rw [show Tryz.prog.cellsOf _ = 5 from by kernel_rfl] at hsz
  simp only [Value.cells] at hf
  obtain ⟨cl⟩ := cs
  obtain ⟨xs, n, _, _, _, hxs, hf⟩ := DataW.trod_struct Tryz.underlying28 hf
  match cl, hsz, xs, hxs with
  | [c0, c1, c2, c3, c4], _, [y0, y1, y2, y3, y4], _ =>
    have h0 : DataW.trod enc Tryz.prog W 0 spare held n 22 (([c0, c1, c2, c3, c4].drop 0).take (Tryz.prog.cellsOf 22)) = some y0 := hf 0 _ rfl
    have h1 : DataW.trod enc Tryz.prog W 0 spare held n 23 (([c0, c1, c2, c3, c4].drop 1).take (Tryz.prog.cellsOf 23)) = some y1 := hf 1 _ rfl
    have h2 : DataW.trod enc Tryz.prog W 0 spare held n 24 (([c0, c1, c2, c3, c4].drop 2).take (Tryz.prog.cellsOf 24)) = some y2 := hf 2 _ rfl
    have h3 : DataW.trod enc Tryz.prog W 0 spare held n 25 (([c0, c1, c2, c3, c4].drop 3).take (Tryz.prog.cellsOf 25)) = some y3 := hf 3 _ rfl
    have h4 : DataW.trod enc Tryz.prog W 0 spare held n 26 (([c0, c1, c2, c3, c4].drop 4).take (Tryz.prog.cellsOf 26)) = some y4 := hf 4 _ rfl
    rw [show Tryz.prog.cellsOf _ = 1 from by kernel_rfl] at h0 h1 h2 h3 h4
    obtain ⟨l0, A0, d0, e0, q0, r0⟩ := assets_cells h0
    obtain ⟨l1, A1, d1, e1, q1, r1, g1⟩ := insts_cells h1
    obtain ⟨l2, A2, d2, e2, q2, r2, g2, k2⟩ := poss_cells h2
    obtain ⟨l3, A3, d3, e3, q3, r3⟩ := flows_cells h3
    obtain ⟨l4, A4, d4, e4, q4, r4, g4, k4⟩ := holds_cells h4
    simp at e0 e1 e2 e3 e4
    subst e0 e1 e2 e3 e4
    refine ⟨⟨⟨A0, d0, l0⟩, ⟨A1, d1, l1⟩, ⟨A2, d2, l2⟩, ⟨A3, d3, l3⟩, ⟨A4, d4, l4⟩⟩, rfl, ⟨?_, r0.rd, q1, r1, g1, q2, r2, g2, fun x hx z hz => (k2 x hx z hz).2, r3, fun x hx => (q3 x hx).2.2, q4, r4, g4, fun x hx z hz => (k4 x hx z hz).2.2⟩⟩
    have h5 := r0.cap
    have h6 := r0.room
    rw [List.length_map] at h5
    show l0.length ≤ maxLen
    omega
end Go.Proofs.YtalgfpegaobacaaGreat

/- Accounts, units handed in. -/
namespace Go.Proofs.YtalgfpegaobacaaGreat
open Go.ChangeShapes Go.WideShapes Go.ChangeAt Go.RowKit Go.Joins
set_option maxRecDepth 100000 in
theorem Acct_cells {H : Type} {enc : TypeId × Value → H} {W : World} {spare : Nat → Bool} {held : Bool} (cs : List Value) (n : Nat) (y : DataW H × List MemPlace) (hlen : cs.length = 4) (h : DataW.trod enc Tryz.prog W 0 spare held n 31 cs = some y) :
    ∃ x : AcctV, cs = encAcctV x ∧ GoodA W x := by
  obtain ⟨xs, n, _, rfl, _, hxs, hf⟩ := DataW.trod_struct Tryz.underlying31 h
  match cs, hlen, xs, hxs with
  | [c0, c1, c2, c3], _, [y0, y1, y2, y3], _ =>
    have h0 : DataW.trod enc Tryz.prog W 0 spare held n 3 (([c0, c1, c2, c3].drop 0).take (Tryz.prog.cellsOf 3)) = some y0 := hf 0 _ rfl
    have h1 : DataW.trod enc Tryz.prog W 0 spare held n 3 (([c0, c1, c2, c3].drop 1).take (Tryz.prog.cellsOf 3)) = some y1 := hf 1 _ rfl
    have h2 : DataW.trod enc Tryz.prog W 0 spare held n 3 (([c0, c1, c2, c3].drop 2).take (Tryz.prog.cellsOf 3)) = some y2 := hf 2 _ rfl
    have h3 : DataW.trod enc Tryz.prog W 0 spare held n 29 (([c0, c1, c2, c3].drop 3).take (Tryz.prog.cellsOf 29)) = some y3 := hf 3 _ rfl
    obtain ⟨x0, e0, _, _⟩ := DataW.trod_int (k := .i64) (by kernel_rfl) h0
    obtain ⟨x1, e1, _, _⟩ := DataW.trod_int (k := .i64) (by kernel_rfl) h1
    obtain ⟨x2, e2, _, _⟩ := DataW.trod_int (k := .i64) (by kernel_rfl) h2
    obtain ⟨l, A, c, e3⟩ := nats_cells h3
    have e5 := e3.eq
    rw [show Tryz.prog.cellsOf _ = 1 from by kernel_rfl] at e0 e1 e2 e5
    simp at e0 e1 e2 e5
    subst e0 e1 e2 e5
    exact ⟨⟨x0, x1, x2, ⟨A, c, l⟩⟩, rfl, e3.rs⟩
set_option maxRecDepth 100000 in
theorem Acct_open {H : Type} {enc : TypeId × Value → H} {W : World} {spare : Nat → Bool} {held : Bool} {r : Reach} {b0 : Nat} {v : Value} {d : DataW H} {p : List MemPlace} (hv : Value.okWide Tryz.prog W r b0 31 v) (h : DataW.Trod enc Tryz.prog W 0 spare held 31 v d p) :
    ∃ x : AcctV, v = .agg #[.int .i64 x.id, .int .i64 x.member, .int .i64 x.kind, .slice x.clients.A x.clients.val.length x.clients.c] ∧ GoodA W x := by
  obtain ⟨cs, rfl, hsz⟩ := okWide_struct Tryz.underlying31 hv
  obtain ⟨fuel, hf⟩ := h
  rw [show Tryz.prog.cellsOf _ = 4 from by kernel_rfl] at hsz
  obtain ⟨x, he, hr⟩ := Acct_cells cs.toList fuel _ (by simpa using hsz) (by simpa [Value.cells] using hf)
  refine ⟨x, ?_, hr⟩
  obtain ⟨l⟩ := cs
  simp only at he
  rw [he]; rfl
end Go.Proofs.YtalgfpegaobacaaGreat
