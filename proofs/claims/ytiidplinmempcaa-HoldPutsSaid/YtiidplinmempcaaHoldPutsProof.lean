/-
  'novationlaw26.HoldPuts' answers true for every row of holds, every unit, every lot and every row of lots, and its arguments read on as they did.
  Conditions: none beyond the row's own.
-/
import Derived.Test.YtiidplinmempcaaJz18
import Derived.Test.YtiidplinmempcaaJz19
namespace Go.Proofs.Ytiidplinmempcaa
open Go.ChangeShapes Go.WideShapes Go.ChangeAt Go.RowKit Go.Joins
set_option maxRecDepth 100000 in
theorem holdPuts_lifted (os : Os) (started : os.Started) (H : Type) (enc : TypeId × Value → H) :
    ReturnsInHanded {} Try.checked os 10 .any (Rows.holdPutsSpec.pre6 enc Try.prog Try.f10 Rows.holdPutsRow.domain false) (Rows.holdPutsSpec.post enc Try.prog Try.f10 false true false false) := by
  refine returnsInHanded_of_change (C := Try.checked) Try.own started (by kernel_rfl) Try.func10
    (ChangeSpec.witness6 (enc := enc) (C := Try.checked) false ⟨#[], #[.slice none 0 0, .agg #[.int .i64 0, .int .i64 0], .agg #[.int .i64 0, .int .i64 0, .int .i64 0], .slice none 0 0], []⟩ 8 (by kernel_rfl) (by kernel_rfl) (by kernel_rfl) (by kernel_rfl)) ?_
  intro W base args ds gs before hval0 hW hcnd _
  have hval : ∀ (j : Nat) t v, Try.f10.params[j]? = some t → args[j]? = some v → Value.okWide Try.prog W .any base t v := hval0
  have hW' := hW
  obtain ⟨p, q, hA0, hV, rfl, hfz, hnd⟩ := hW
  have hA : DataW.TrodAll enc Try.prog W 0 (fun _ => true) true Try.f10.params.toList args.toList ds p := hA0
  rw [Try.params10] at hA hval
  obtain ⟨rfl, rfl⟩ := trodVars_none hV
  clear hA0 hval0
  obtain ⟨v0, v1, v2, v3, d0, d1, d2, d3, p0, p1, p2, p3, rfl, rfl, rfl, h0, h1, h2, h3⟩ := trodAll_four hA
  obtain ⟨l, A, c, rfl, hlm, hrd, hg, hok⟩ := HoldV_open (hval 0 58 v0 rfl rfl) h0
  obtain ⟨u, _, rfl⟩ := Un_open (hval 1 60 v1 rfl rfl) h1
  obtain ⟨x, hx, rfl⟩ := Lot_open (hval 2 62 v2 rfl rfl) h2
  obtain ⟨m, B, d, rfl, _, _, hrs⟩ := lots_open (hval 3 97 v3 rfl rfl) h3
  refine (holdPutsW l u x m A B c d W hlm hx.2.2 hrd hg (fun x hx z hz => (hok x hx z hz).2.2) hrs).mono fun e W' ⟨he, hb⟩ => ?_
  subst he
  exact ⟨_, rfl, law_ends hW' rfl (by rw [Try.params10]; decide +kernel) rfl rfl rfl rfl hb⟩
theorem holdPuts_holds : Rows.HoldPutsSaid :=
  OpenClaim.holds_of_wide 10 Try.f10 rfl rfl rfl rfl rfl rfl rfl ⟨rfl, rfl, rfl, rfl, rfl⟩ rfl rfl rfl rfl rfl (by kernel_rfl) Try.func10 (by kernel_rfl)
    (of_decide_eq_true (by kernel_rfl)) (by unfold Func.isWrapper; first | (rw [if_pos (by decide +kernel)]; kernel_rfl) | (rw [if_neg (by decide +kernel)]; exact ⟨rfl, rfl⟩))
    (fun os started H enc _ => holdPuts_lifted os started H enc)
end Go.Proofs.Ytiidplinmempcaa
