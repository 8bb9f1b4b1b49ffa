/-
  'novationlaw22.BlockBack' answers true for every row of groups, every number and every row of parts, and its arguments read on as they did.
  Conditions: none beyond the row's own.
-/
import Derived.Test.YtenehpcliajdnaaBlkL4
import Derived.Test.YtenehpcliajdnaaGrpOpen
import Derived.Test.YtenehpcliajdnaaIntOpen
import Derived.Test.YtenehpcliajdnaaFrame
import Derived.Test.YtenehpcliajdnaaRows
namespace Go.Proofs.Ytenehpcliajdnaa
open Go.ChangeShapes Go.WideShapes Go.ChangeAt Go.RowKit Go.Joins
set_option maxRecDepth 100000 in
theorem blockBack_lifted (os : Os) (started : os.Started) (H : Type) (enc : TypeId × Value → H) :
    ReturnsInHanded {} Try.checked os 5 .any (Rows.blockBackSpec.pre6 enc Try.prog Try.f5 Rows.blockBackRow.domain false) (Rows.blockBackSpec.post enc Try.prog Try.f5 false true false false) := by
  refine returnsInHanded_of_change (C := Try.checked) Try.own started (by kernel_rfl) Try.func5
    (ChangeSpec.witness6 (enc := enc) (C := Try.checked) false ⟨#[], #[.slice none 0 0, .int .i64 0, .slice none 0 0], []⟩ 8 (by kernel_rfl) (by kernel_rfl) (by kernel_rfl) (by kernel_rfl)) ?_
  intro W base args ds gs before hval0 hW hcnd _
  have hval : ∀ (j : Nat) t v, Try.f5.params[j]? = some t → args[j]? = some v → Value.okWide Try.prog W .any base t v := hval0
  have hW' := hW
  obtain ⟨p, q, hA0, hV, rfl, hfz, hnd⟩ := hW
  have hA : DataW.TrodAll enc Try.prog W 0 (fun _ => true) true Try.f5.params.toList args.toList ds p := hA0
  rw [Try.params5] at hA hval
  obtain ⟨rfl, rfl⟩ := trodVars_none hV
  clear hA0 hval0
  obtain ⟨v0, v1, v2, d0, d1, d2, p0, p1, p2, rfl, rfl, rfl, h0, h1, h2⟩ := trodAll_three hA
  obtain ⟨l, A, c, rfl, hlm, hok, hrs⟩ := groups_open (hval 0 45 v0 rfl rfl) h0
  obtain ⟨id, rfl, rfl, rfl, wid⟩ := open_int (k := .i64) (by kernel_rfl) (hval 1 3 v1 rfl rfl) h1
  obtain ⟨ps, P, d, rfl, hin, hlc, hcm, _, hrd⟩ := ints_open (hval 2 46 v2 rfl rfl) h2
  refine (blockBack l ps id hin A c P d W hlm (Nat.le_trans hlc hcm) hrs hrd).mono fun e W' ⟨he, hb⟩ => ?_
  subst he
  exact ⟨_, rfl, law_ends hW' rfl (by rw [Try.params5]; decide +kernel) rfl rfl rfl rfl hb⟩
theorem blockBack_holds : Rows.BlockBackSaid :=
  OpenClaim.holds_of_wide 5 Try.f5 rfl rfl rfl rfl rfl rfl rfl ⟨rfl, rfl, rfl, rfl, rfl⟩ rfl rfl rfl rfl rfl (by kernel_rfl) Try.func5 (by kernel_rfl)
    (of_decide_eq_true (by kernel_rfl)) (by unfold Func.isWrapper; first | (rw [if_pos (by decide +kernel)]; kernel_rfl) | (rw [if_neg (by decide +kernel)]; exact ⟨rfl, rfl⟩))
    (fun os started H enc _ => blockBack_lifted os started H enc)
end Go.Proofs.Ytenehpcliajdnaa
