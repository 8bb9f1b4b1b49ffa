/-
  'novationlaw16.ElectAnew' answers true for every list of steps and every part, and its arguments read on as they did.
  Conditions: none beyond the row's own.
-/
import Derived.Test.YtffmljkpbgohkaaElect20
import Derived.Test.YtffmljkpbgohkaaElectOpen
import Derived.Test.YtffmljkpbgohkaaRows
namespace Go.Proofs.Ytffmljkpbgohkaa
open Go.ChangeShapes Go.WideShapes Go.ChangeAt Go.RowKit Go.Joins
set_option maxRecDepth 100000 in
theorem Do_cells {H : Type} {enc : TypeId × Value → H} {W : World} {spare : Nat → Bool} {held : Bool} (cs : List Value) (n : Nat) (y : DataW H × List MemPlace) (hlen : cs.length = 5) (h : DataW.trod enc Try.prog W 0 spare held n 86 cs = some y) : ∃ x : Do, okDo x ∧ cs = encDo x := by
  obtain ⟨xs, n, _, rfl, _, hxs, hf⟩ := DataW.trod_struct Try.underlying86 h
  match cs, hlen, xs, hxs with
  | [c0, c1, c2, c3, c4], _, [y0, y1, y2], _ =>
    have h0 : DataW.trod enc Try.prog W 0 spare held n 3 (([c0, c1, c2, c3, c4].drop 0).take (Try.prog.cellsOf 3)) = some y0 := hf 0 _ rfl
    have h1 : DataW.trod enc Try.prog W 0 spare held n 66 (([c0, c1, c2, c3, c4].drop 1).take (Try.prog.cellsOf 66)) = some y1 := hf 1 _ rfl
    have h2 : DataW.trod enc Try.prog W 0 spare held n 66 (([c0, c1, c2, c3, c4].drop 3).take (Try.prog.cellsOf 66)) = some y2 := hf 2 _ rfl
    obtain ⟨x0, e0, _, w0⟩ := DataW.trod_int (k := .i64) (by kernel_rfl) h0
    rw [show Try.prog.cellsOf _ = 1 from by kernel_rfl] at e0
    simp at e0
    subst e0
    rw [show Try.prog.cellsOf _ = 2 from by kernel_rfl] at h1
    obtain ⟨x1, w1, e1⟩ := Un_cells [c1, c2] n _ rfl h1
    simp only [encUn, List.cons.injEq, and_true] at e1
    obtain ⟨rfl, rfl⟩ := e1
    rw [show Try.prog.cellsOf _ = 2 from by kernel_rfl] at h2
    obtain ⟨x2, w2, e2⟩ := Un_cells [c3, c4] n _ rfl h2
    simp only [encUn, List.cons.injEq, and_true] at e2
    obtain ⟨rfl, rfl⟩ := e2
    exact ⟨⟨x0, x1, x2⟩, ⟨in64_of_wf w0, w1.1, w1.2, w2.1, w2.2⟩, rfl⟩
set_option maxRecDepth 100000 in
theorem Do_open {H : Type} {enc : TypeId × Value → H} {W : World} {spare : Nat → Bool} {held : Bool} {r : Reach} {b0 : Nat} {v : Value} {d : DataW H} {p : List MemPlace} (hv : Value.okWide Try.prog W r b0 86 v) (h : DataW.Trod enc Try.prog W 0 spare held 86 v d p) : ∃ x : Do, okDo x ∧ v = .agg #[.int .i64 x.kind, .int .i64 x.u.acc, .int .i64 x.u.cli, .int .i64 x.t.acc, .int .i64 x.t.cli] := by
  obtain ⟨cs, rfl, hsz⟩ := okWide_struct Try.underlying86 hv
  obtain ⟨fuel, hf⟩ := h
  rw [show Try.prog.cellsOf _ = 5 from by kernel_rfl] at hsz
  obtain ⟨x, hx, he⟩ := Do_cells cs.toList fuel _ (by simpa using hsz) (by simpa [Value.cells] using hf)
  refine ⟨x, hx, ?_⟩
  obtain ⟨l⟩ := cs
  simp only at he
  rw [he]; rfl
set_option maxRecDepth 100000 in
theorem dos_open {H : Type} {enc : TypeId × Value → H} {W : World} {spare : Nat → Bool} {held : Bool} {base : Nat} {r : Reach} {v : Value} {d : DataW H} {p : List MemPlace}
    (hv : Value.okWide Try.prog W r base 84 v) (h : DataW.Trod enc Try.prog W 0 spare held 84 v d p) :
    ∃ (l : List Do) (A : Option Addr) (c : Nat), v = .slice A l.length c ∧ l.length ≤ maxLen ∧ Rs W 5 (l.map encDo) A c := by
  obtain ⟨a0, len0, cap0, rfl⟩ := okWide_slice Try.underlying84 hv
  obtain ⟨fuel, hf⟩ := h
  obtain ⟨l, A, c, h1, h2, h3, h4, h5, h6⟩ := slice_open0 (enc1 := encDo) Try.underlying84 (by kernel_rfl) (fun cs n y => Do_cells cs n y) (fun _ _ => rfl) (by omega) hf
  simp [Value.cells] at h1
  obtain ⟨rfl, rfl, rfl⟩ := h1
  exact ⟨l, _, _, rfl, Nat.le_trans h3 h4, ⟨h6, by rw [List.length_map]; exact h3, h4, h5⟩⟩
set_option maxRecDepth 100000 in
theorem electAnew_lifted (os : Os) (started : os.Started) (H : Type) (enc : TypeId × Value → H) :
    ReturnsInHanded {} Try.checked os 11 .any (Rows.electAnewSpec.pre6 enc Try.prog Try.f11 Rows.electAnewRow.domain false) (Rows.electAnewSpec.post enc Try.prog Try.f11 false true false false) := by
  refine returnsInHanded_of_change (C := Try.checked) Try.own started (by kernel_rfl) Try.func11
    (ChangeSpec.witness6 (enc := enc) (C := Try.checked) false ⟨#[], #[.slice none 0 0, .agg #[.int .i64 0, .int .i64 0]], []⟩ 8 (by kernel_rfl) (by kernel_rfl) (by kernel_rfl) (by kernel_rfl)) ?_
  intro W base args ds gs before hval0 hW hcnd _
  have hval : ∀ (j : Nat) t v, Try.f11.params[j]? = some t → args[j]? = some v → Value.okWide Try.prog W .any base t v := hval0
  have hW' := hW
  obtain ⟨p, q, hA0, hV, rfl, hfz, hnd⟩ := hW
  have hA : DataW.TrodAll enc Try.prog W 0 (fun _ => true) true Try.f11.params.toList args.toList ds p := hA0
  rw [Try.params11] at hA hval
  obtain ⟨rfl, rfl⟩ := trodVars_none hV
  clear hA0 hval0
  obtain ⟨v0, v1, d0, d1, p0, p1, rfl, rfl, rfl, h0, h1⟩ := trodAll_two hA
  obtain ⟨l, A, c, rfl, hlm, hrs⟩ := dos_open (hval 0 84 v0 rfl rfl) h0
  obtain ⟨x1, _, rfl⟩ := Un_open (hval 1 66 v1 rfl rfl) h1
  refine (electAnew l x1 A c W hlm hrs).mono fun e W' ⟨he, hb⟩ => ?_
  subst he
  exact ⟨_, rfl, law_ends hW' rfl (by rw [Try.params11]; decide +kernel) rfl rfl rfl rfl hb⟩
theorem electAnew_holds : Rows.ElectAnewSaid :=
  OpenClaim.holds_of_wide 11 Try.f11 rfl rfl rfl rfl rfl rfl rfl ⟨rfl, rfl, rfl, rfl, rfl⟩ rfl rfl rfl rfl rfl (by kernel_rfl) Try.func11 (by kernel_rfl)
    (of_decide_eq_true (by kernel_rfl)) (by unfold Func.isWrapper; first | (rw [if_pos (by decide +kernel)]; kernel_rfl) | (rw [if_neg (by decide +kernel)]; exact ⟨rfl, rfl⟩))
    (fun os started H enc _ => electAnew_lifted os started H enc)
end Go.Proofs.Ytffmljkpbgohkaa
