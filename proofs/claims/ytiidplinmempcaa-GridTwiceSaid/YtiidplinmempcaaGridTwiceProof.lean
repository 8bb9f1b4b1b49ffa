/-
  'novationlaw24.GridTwice' answers true for every row of instruments and row of legs, and its arguments read on as they did.
  Conditions: none beyond the row's own.
-/
import Derived.Test.YtiidplinmempcaaJbc1
import Derived.Test.YtiidplinmempcaaJz14
namespace Go.Proofs.Ytiidplinmempcaa
open Go.ChangeShapes Go.WideShapes Go.ChangeAt Go.RowKit Go.Joins
set_option maxRecDepth 100000 in
theorem gridTwice_lifted (os : Os) (started : os.Started) (H : Type) (enc : TypeId × Value → H) :
    ReturnsInHanded {} Try.checked os 5 .any (Rows.gridTwiceSpec.pre6 enc Try.prog Try.f5 Rows.gridTwiceRow.domain false) (Rows.gridTwiceSpec.post enc Try.prog Try.f5 false true false false) := by
  refine returnsInHanded_of_change (C := Try.checked) Try.own started (by kernel_rfl) Try.func5
    (ChangeSpec.witness6 (enc := enc) (C := Try.checked) false ⟨#[], #[.slice none 0 0, .slice none 0 0], []⟩ 8 (by kernel_rfl) (by kernel_rfl) (by kernel_rfl) (by kernel_rfl)) ?_
  intro W base args ds gs before hval0 hW hcnd _
  have hval : ∀ (j : Nat) t v, Try.f5.params[j]? = some t → args[j]? = some v → Value.okWide Try.prog W .any base t v := hval0
  have hW' := hW
  obtain ⟨p, q, hA0, hV, rfl, hfz, hnd⟩ := hW
  have hA : DataW.TrodAll enc Try.prog W 0 (fun _ => true) true Try.f5.params.toList args.toList ds p := hA0
  rw [Try.params5] at hA hval
  obtain ⟨rfl, rfl⟩ := trodVars_none hV
  clear hA0 hval0
  obtain ⟨v0, v1, d0, d1, p0, p1, rfl, rfl, rfl, h0, h1⟩ := trodAll_two hA
  obtain ⟨t, A, c, rfl, hlm, hrd, hg⟩ := insts_open (hval 0 22 v0 rfl rfl) h0
  obtain ⟨l, B, d, rfl, hok, hr⟩ := legs_open (hval 1 23 v1 rfl rfl) h1
  refine (gridTwiceW t l A B c d W hlm (legs_lenG hr) (fun y hy => (hok y hy).2) hrd hg hr).mono fun e W' ⟨he, hb⟩ => ?_
  subst he
  exact ⟨_, rfl, law_ends hW' rfl (by rw [Try.params5]; decide +kernel) rfl rfl rfl rfl hb⟩
theorem gridTwice_holds : Rows.GridTwiceSaid :=
  OpenClaim.holds_of_wide 5 Try.f5 rfl rfl rfl rfl rfl rfl rfl ⟨rfl, rfl, rfl, rfl, rfl⟩ rfl rfl rfl rfl rfl (by kernel_rfl) Try.func5 (by kernel_rfl)
    (of_decide_eq_true (by kernel_rfl)) (by unfold Func.isWrapper; first | (rw [if_pos (by decide +kernel)]; kernel_rfl) | (rw [if_neg (by decide +kernel)]; exact ⟨rfl, rfl⟩))
    (fun os started H enc _ => gridTwice_lifted os started H enc)
end Go.Proofs.Ytiidplinmempcaa
