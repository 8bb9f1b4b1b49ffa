/-
  'novationlaw14.MemberParts' answers true for every member and every three int64s, and its arguments read on as they did.
  Conditions: none beyond the row's own.
-/
import Derived.Test.YtffmljkpbgohkaaMember4
import Derived.Test.YtffmljkpbgohkaaFrame
import Derived.Test.YtffmljkpbgohkaaRows
namespace Go.Proofs.Ytffmljkpbgohkaa
open Go.ChangeShapes Go.WideShapes Go.ChangeAt Go.RowKit Go.Joins
theorem memParts_all (i cap p t used a b : Int) (w : World) (hc : In64 cap) :
    Calls Try.prog 5 #[.agg #[.int .i64 i, .int .i64 cap, .int .i64 p, .int .i64 t], .int .i64 used, .int .i64 a, .int .i64 b] w fun e w' => e = .returned (.bool true) ∧ Below w.heap.size w w' := by
  by_cases h : a < 0 ∨ b < 0 ∨ used < 0 ∨ 2305843009213693952 < a ∨ 2305843009213693952 < b ∨ 2305843009213693952 < used
  · exact memParts_out i cap p t used a b w h
  · exact memParts_in i cap p t used a b w hc (by omega) (by omega) (by omega) (by omega) (by omega) (by omega)
set_option maxRecDepth 100000 in
theorem member_open {H : Type} {enc : TypeId × Value → H} {W : World} {base : Nat} {spare : Nat → Bool} {held : Bool} {r : Reach} {b0 : Nat} {v : Value} {d : DataW H} {p : List MemPlace}
    (hv : Value.okWide Try.prog W r b0 36 v) (h : DataW.Trod enc Try.prog W base spare held 36 v d p) :
    ∃ i c q t : Int, v = .agg #[.int .i64 i, .int .i64 c, .int .i64 q, .int .i64 t] ∧ In64 i ∧ In64 c ∧ In64 q ∧ In64 t := by
  obtain ⟨v0, v1, v2, v3, y0, y1, y2, y3, n, rfl, _, _, h0, h1, h2, h3⟩ := open_agg4 Try.underlying36 (by kernel_rfl) (by kernel_rfl) hv h
  obtain ⟨i, e0, _, w0⟩ := DataW.trod_int (k := .i64) (by kernel_rfl) h0
  obtain ⟨c, e1, _, w1⟩ := DataW.trod_int (k := .i64) (by kernel_rfl) h1
  obtain ⟨q, e2, _, w2⟩ := DataW.trod_int (k := .i64) (by kernel_rfl) h2
  obtain ⟨t, e3, _, w3⟩ := DataW.trod_int (k := .i64) (by kernel_rfl) h3
  simp at e0 e1 e2 e3
  subst e0 e1 e2 e3
  exact ⟨i, c, q, t, rfl, in64_of_wf w0, in64_of_wf w1, in64_of_wf w2, in64_of_wf w3⟩
set_option maxRecDepth 100000 in
theorem memParts_lifted (os : Os) (started : os.Started) (H : Type) (enc : TypeId × Value → H) :
    ReturnsInHanded {} Try.checked os 5 .any (Rows.memberPartsSpec.pre6 enc Try.prog Try.f5 Rows.memberPartsRow.domain false) (Rows.memberPartsSpec.post enc Try.prog Try.f5 false true false false) := by
  refine returnsInHanded_of_change (C := Try.checked) Try.own started (by kernel_rfl) Try.func5
    (ChangeSpec.witness6 (enc := enc) (C := Try.checked) false ⟨#[], #[.agg #[.int .i64 0, .int .i64 0, .int .i64 0, .int .i64 0], .int .i64 0, .int .i64 0, .int .i64 0], []⟩ 8 (by kernel_rfl) (by kernel_rfl) (by kernel_rfl) (by kernel_rfl)) ?_
  intro W base args ds gs before hval0 hW hcnd _
  have hval : ∀ (j : Nat) t v, Try.f5.params[j]? = some t → args[j]? = some v → Value.okWide Try.prog W .any base t v := hval0
  have hW' := hW
  obtain ⟨p, q, hA0, hV, rfl, hfz, hnd⟩ := hW
  have hA : DataW.TrodAll enc Try.prog W 0 (fun _ => true) true Try.f5.params.toList args.toList ds p := hA0
  rw [Try.params5] at hA hval
  obtain ⟨v0, v1, v2, v3, d0, d1, d2, d3, p0, p1, p2, p3, rfl, rfl, rfl, h0, h1, h2, h3⟩ := trodAll_four hA
  obtain ⟨rfl, rfl⟩ := trodVars_none hV
  obtain ⟨i, c, m, t, rfl, _, hc, _, _⟩ := member_open (hval 0 36 v0 rfl rfl) h0
  obtain ⟨x1, rfl, rfl, rfl, w1⟩ := open_int Try.underlying2 (hval 1 2 v1 rfl rfl) h1
  obtain ⟨x2, rfl, rfl, rfl, w2⟩ := open_int Try.underlying2 (hval 2 2 v2 rfl rfl) h2
  obtain ⟨x3, rfl, rfl, rfl, w3⟩ := open_int Try.underlying2 (hval 3 2 v3 rfl rfl) h3
  clear hA0 hval0
  refine (memParts_all i c m t x1 x2 x3 W hc).mono fun e W' ⟨he, hb⟩ => ?_
  subst he
  exact ⟨_, rfl, law_ends hW' rfl (by rw [Try.params5]; decide +kernel) rfl rfl rfl rfl hb⟩
theorem memberParts_holds : Rows.MemberPartsSaid :=
  OpenClaim.holds_of_wide 5 Try.f5 rfl rfl rfl rfl rfl rfl rfl ⟨rfl, rfl, rfl, rfl, rfl⟩ rfl rfl rfl rfl rfl (by kernel_rfl) Try.func5 (by kernel_rfl)
    (of_decide_eq_true (by kernel_rfl)) (by unfold Func.isWrapper; first | (rw [if_pos (by decide +kernel)]; kernel_rfl) | (rw [if_neg (by decide +kernel)]; exact ⟨rfl, rfl⟩))
    (fun os started H enc _ => memParts_lifted os started H enc)
#print axioms memberParts_holds
end Go.Proofs.Ytffmljkpbgohkaa
