/-
  'novationlaw18.LotsJoins' answers true for every two rows of lots, and its arguments read on as they did.
  Conditions: none beyond the row's own.
-/
import Derived.Test.YtemhhojenocddaaLotL4
import Derived.Test.YtemhhojenocddaaLotOpen
import Derived.Test.YtemhhojenocddaaFrame
import Derived.Test.YtemhhojenocddaaRows
namespace Go.Proofs.Ytemhhojenocddaa
open Go.ChangeShapes Go.WideShapes Go.ChangeAt Go.RowKit Go.Joins
set_option maxRecDepth 100000 in
theorem lotsJoins_lifted (os : Os) (started : os.Started) (H : Type) (enc : TypeId × Value → H) :
    ReturnsInHanded {} Try.checked os 8 .any (Rows.lotsJoinsSpec.pre6 enc Try.prog Try.f8 Rows.lotsJoinsRow.domain false) (Rows.lotsJoinsSpec.post enc Try.prog Try.f8 false true false false) := by
  refine returnsInHanded_of_change (C := Try.checked) Try.own started (by kernel_rfl) Try.func8
    (ChangeSpec.witness6 (enc := enc) (C := Try.checked) false ⟨#[], #[.slice none 0 0, .slice none 0 0], []⟩ 8 (by kernel_rfl) (by kernel_rfl) (by kernel_rfl) (by kernel_rfl)) ?_
  intro W base args ds gs before hval0 hW hcnd _
  have hval : ∀ (j : Nat) t v, Try.f8.params[j]? = some t → args[j]? = some v → Value.okWide Try.prog W .any base t v := hval0
  have hW' := hW
  obtain ⟨p, q, hA0, hV, rfl, hfz, hnd⟩ := hW
  have hA : DataW.TrodAll enc Try.prog W 0 (fun _ => true) true Try.f8.params.toList args.toList ds p := hA0
  rw [Try.params8] at hA hval
  obtain ⟨rfl, rfl⟩ := trodVars_none hV
  clear hA0 hval0
  obtain ⟨v0, v1, d0, d1, p0, p1, rfl, rfl, rfl, h0, h1⟩ := trodAll_two hA
  obtain ⟨l, A, c, rfl, _, hok, hrs⟩ := lots_open (hval 0 56 v0 rfl rfl) h0
  obtain ⟨k, B, d, rfl, _, hok1, hrs1⟩ := lots_open (hval 1 56 v1 rfl rfl) h1
  refine (lotsJoins l k A c B d W (fun y hy => (hok y hy).2.2) (fun y hy => (hok1 y hy).2.2) hrs hrs1).mono fun e W' ⟨he, hb⟩ => ?_
  subst he
  exact ⟨_, rfl, law_ends hW' rfl (by rw [Try.params8]; decide +kernel) rfl rfl rfl rfl hb⟩
theorem lotsJoins_holds : Rows.LotsJoinsSaid :=
  OpenClaim.holds_of_wide 8 Try.f8 rfl rfl rfl rfl rfl rfl rfl ⟨rfl, rfl, rfl, rfl, rfl⟩ rfl rfl rfl rfl rfl (by kernel_rfl) Try.func8 (by kernel_rfl)
    (of_decide_eq_true (by kernel_rfl)) (by unfold Func.isWrapper; first | (rw [if_pos (by decide +kernel)]; kernel_rfl) | (rw [if_neg (by decide +kernel)]; exact ⟨rfl, rfl⟩))
    (fun os started H enc _ => lotsJoins_lifted os started H enc)
end Go.Proofs.Ytemhhojenocddaa
