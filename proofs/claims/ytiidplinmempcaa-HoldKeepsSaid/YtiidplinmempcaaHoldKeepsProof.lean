/-
  'novationlaw26.HoldKeeps' answers true for every row of holds, every three units, every lot and every tag, and its arguments read on as they did.
  Conditions: none beyond the row's own.
-/
import Derived.Test.YtiidplinmempcaaJa17
import Derived.Test.YtiidplinmempcaaJa18
namespace Go.Proofs.Ytiidplinmempcaa
open Go.ChangeShapes Go.WideShapes Go.ChangeAt Go.RowKit Go.Joins
set_option maxRecDepth 100000 in
theorem holdKeeps_lifted (os : Os) (started : os.Started) (H : Type) (enc : TypeId × Value → H) :
    ReturnsInHanded {} Try.checked os 11 .any (Rows.holdKeepsSpec.pre6 enc Try.prog Try.f11 Rows.holdKeepsRow.domain false) (Rows.holdKeepsSpec.post enc Try.prog Try.f11 false true false false) := by
  refine returnsInHanded_of_change (C := Try.checked) Try.own started (by kernel_rfl) Try.func11
    (ChangeSpec.witness6 (enc := enc) (C := Try.checked) false ⟨#[], #[.slice none 0 0, .agg #[.int .i64 0, .int .i64 0], .agg #[.int .i64 0, .int .i64 0], .agg #[.int .i64 0, .int .i64 0], .agg #[.int .i64 0, .int .i64 0, .int .i64 0], .int .i64 0], []⟩ 8 (by kernel_rfl) (by kernel_rfl) (by kernel_rfl) (by kernel_rfl)) ?_
  intro W base args ds gs before hval0 hW hcnd _
  have hval : ∀ (j : Nat) t v, Try.f11.params[j]? = some t → args[j]? = some v → Value.okWide Try.prog W .any base t v := hval0
  have hW' := hW
  obtain ⟨p, q, hA0, hV, rfl, hfz, hnd⟩ := hW
  have hA : DataW.TrodAll enc Try.prog W 0 (fun _ => true) true Try.f11.params.toList args.toList ds p := hA0
  rw [Try.params11] at hA hval
  obtain ⟨rfl, rfl⟩ := trodVars_none hV
  clear hA0 hval0
  obtain ⟨v0, v1, v2, v3, v4, v5, d0, d1, d2, d3, d4, d5, p0, p1, p2, p3, p4, p5, rfl, rfl, rfl, h0, h1, h2, h3, h4, h5⟩ := trodAll_six hA
  obtain ⟨l, A, c, rfl, hlm, hrd, hg, hok⟩ := HoldV_open (hval 0 58 v0 rfl rfl) h0
  obtain ⟨a, _, rfl⟩ := Un_open (hval 1 60 v1 rfl rfl) h1
  obtain ⟨b, _, rfl⟩ := Un_open (hval 2 60 v2 rfl rfl) h2
  obtain ⟨o, _, rfl⟩ := Un_open (hval 3 60 v3 rfl rfl) h3
  obtain ⟨x, hx, rfl⟩ := Lot_open (hval 4 62 v4 rfl rfl) h4
  obtain ⟨t, rfl, rfl, rfl, wt⟩ := open_int (k := .i64) (by kernel_rfl) (hval 5 3 v5 rfl rfl) h5
  refine (holdKeepsW l a b o x t A c W hlm hx.2.2 hrd hg (fun x hx z hz => (hok x hx z hz).2.2)).mono fun e W' ⟨he, hb⟩ => ?_
  subst he
  exact ⟨_, rfl, law_ends hW' rfl (by rw [Try.params11]; decide +kernel) rfl rfl rfl rfl hb⟩
theorem holdKeeps_holds : Rows.HoldKeepsSaid :=
  OpenClaim.holds_of_wide 11 Try.f11 rfl rfl rfl rfl rfl rfl rfl ⟨rfl, rfl, rfl, rfl, rfl⟩ rfl rfl rfl rfl rfl (by kernel_rfl) Try.func11 (by kernel_rfl)
    (of_decide_eq_true (by kernel_rfl)) (by unfold Func.isWrapper; first | (rw [if_pos (by decide +kernel)]; kernel_rfl) | (rw [if_neg (by decide +kernel)]; exact ⟨rfl, rfl⟩))
    (fun os started H enc _ => holdKeeps_lifted os started H enc)
end Go.Proofs.Ytiidplinmempcaa
