/-
  'novationlaw27.CoverValues' answers true for every row of assets, every row of lots and every amount of cash, and its arguments read on as they did.
  Conditions: none beyond the row's own.
-/
import Derived.Test.YtalgfpegaobacaaJz13
import Derived.Test.YtalgfpegaobacaaRows
namespace Go.Proofs.Ytalgfpegaobacaa
open Go.ChangeShapes Go.WideShapes Go.ChangeAt Go.RowKit Go.Joins
set_option maxRecDepth 100000 in
theorem coverValues_lifted (os : Os) (started : os.Started) (H : Type) (enc : TypeId × Value → H) :
    ReturnsInHanded {} Try.checked os 3 .any (Rows.coverValuesSpec.pre6 enc Try.prog Try.f3 Rows.coverValuesRow.domain false) (Rows.coverValuesSpec.post enc Try.prog Try.f3 false true false false) := by
  refine returnsInHanded_of_change (C := Try.checked) Try.own started (by kernel_rfl) Try.func3
    (ChangeSpec.witness6 (enc := enc) (C := Try.checked) false ⟨#[], #[.slice none 0 0, .slice none 0 0, .int .i64 0], []⟩ 8 (by kernel_rfl) (by kernel_rfl) (by kernel_rfl) (by kernel_rfl)) ?_
  intro W base args ds gs before hval0 hW hcnd _
  have hval : ∀ (j : Nat) t v, Try.f3.params[j]? = some t → args[j]? = some v → Value.okWide Try.prog W .any base t v := hval0
  have hW' := hW
  obtain ⟨p, q, hA0, hV, rfl, hfz, hnd⟩ := hW
  have hA : DataW.TrodAll enc Try.prog W 0 (fun _ => true) true Try.f3.params.toList args.toList ds p := hA0
  rw [Try.params3] at hA hval
  obtain ⟨rfl, rfl⟩ := trodVars_none hV
  clear hA0 hval0
  obtain ⟨v0, v1, v2, d0, d1, d2, p0, p1, p2, rfl, rfl, rfl, h0, h1, h2⟩ := trodAll_three hA
  obtain ⟨l, A, c, rfl, hlm, _, hrs⟩ := assets_open (hval 0 22 v0 rfl rfl) h0
  obtain ⟨m, B, d, rfl, _, hok, hms⟩ := lots_open (hval 1 23 v1 rfl rfl) h1
  obtain ⟨q, rfl, rfl, rfl, wq⟩ := open_int Try.underlying2 (hval 2 2 v2 rfl rfl) h2
  refine (coverValuesW l m q A B c d W hlm (in64_of_wf wq) (fun x hx => (hok x hx).2.2) hrs.rd hms).mono fun e W' ⟨he, hb⟩ => ?_
  subst he
  exact ⟨_, rfl, law_ends hW' rfl (by rw [Try.params3]; decide +kernel) rfl rfl rfl rfl hb⟩
theorem coverValues_holds : Rows.CoverValuesSaid :=
  OpenClaim.holds_of_wide 3 Try.f3 rfl rfl rfl rfl rfl rfl rfl ⟨rfl, rfl, rfl, rfl, rfl⟩ rfl rfl rfl rfl rfl (by kernel_rfl) Try.func3 (by kernel_rfl)
    (of_decide_eq_true (by kernel_rfl)) (by unfold Func.isWrapper; first | (rw [if_pos (by decide +kernel)]; kernel_rfl) | (rw [if_neg (by decide +kernel)]; exact ⟨rfl, rfl⟩))
    (fun os started H enc _ => coverValues_lifted os started H enc)
end Go.Proofs.Ytalgfpegaobacaa
