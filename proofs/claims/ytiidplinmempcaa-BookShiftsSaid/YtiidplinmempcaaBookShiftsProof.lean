/-
  'novationlaw19.BookShifts' answers true for every row of positions, every two units and every row of legs, and its arguments read on as they did.
  Conditions: none beyond the row's own.
-/
import Derived.Test.YtiidplinmempcaaJz16
namespace Go.Proofs.Ytiidplinmempcaa
open Go.ChangeShapes Go.WideShapes Go.ChangeAt Go.RowKit Go.Joins
set_option maxRecDepth 100000 in
theorem bookShifts_lifted (os : Os) (started : os.Started) (H : Type) (enc : TypeId × Value → H) :
    ReturnsInHanded {} Try.checked os 7 .any (Rows.bookShiftsSpec.pre6 enc Try.prog Try.f7 Rows.bookShiftsRow.domain false) (Rows.bookShiftsSpec.post enc Try.prog Try.f7 false true false false) := by
  refine returnsInHanded_of_change (C := Try.checked) Try.own started (by kernel_rfl) Try.func7
    (ChangeSpec.witness6 (enc := enc) (C := Try.checked) false ⟨#[], #[.slice none 0 0, .agg #[.int .i64 0, .int .i64 0], .agg #[.int .i64 0, .int .i64 0], .slice none 0 0], []⟩ 8 (by kernel_rfl) (by kernel_rfl) (by kernel_rfl) (by kernel_rfl)) ?_
  intro W base args ds gs before hval0 hW hcnd _
  have hval : ∀ (j : Nat) t v, Try.f7.params[j]? = some t → args[j]? = some v → Value.okWide Try.prog W .any base t v := hval0
  have hW' := hW
  obtain ⟨p, q, hA0, hV, rfl, hfz, hnd⟩ := hW
  have hA : DataW.TrodAll enc Try.prog W 0 (fun _ => true) true Try.f7.params.toList args.toList ds p := hA0
  rw [Try.params7] at hA hval
  obtain ⟨rfl, rfl⟩ := trodVars_none hV
  clear hA0 hval0
  obtain ⟨v0, v1, v2, v3, d0, d1, d2, d3, p0, p1, p2, p3, rfl, rfl, rfl, h0, h1, h2, h3⟩ := trodAll_four hA
  obtain ⟨l, A, c, rfl, hlm, hrd, hg, hok⟩ := PosV_open (hval 0 72 v0 rfl rfl) h0
  obtain ⟨u, _, rfl⟩ := Un_open (hval 1 60 v1 rfl rfl) h1
  obtain ⟨v, _, rfl⟩ := Un_open (hval 2 60 v2 rfl rfl) h2
  obtain ⟨g, B, d, rfl, hok2, hr2⟩ := legs_open (hval 3 23 v3 rfl rfl) h3
  refine (bookShiftsW l u v g A B c d W hlm (legs_lenB hr2) hrd hg (fun x hx z hz => (hok x hx z hz).2) (fun z hz => (hok2 z hz).2) hr2).mono fun e W' ⟨he, hb⟩ => ?_
  subst he
  exact ⟨_, rfl, law_ends hW' rfl (by rw [Try.params7]; decide +kernel) rfl rfl rfl rfl hb⟩
theorem bookShifts_holds : Rows.BookShiftsSaid :=
  OpenClaim.holds_of_wide 7 Try.f7 rfl rfl rfl rfl rfl rfl rfl ⟨rfl, rfl, rfl, rfl, rfl⟩ rfl rfl rfl rfl rfl (by kernel_rfl) Try.func7 (by kernel_rfl)
    (of_decide_eq_true (by kernel_rfl)) (by unfold Func.isWrapper; first | (rw [if_pos (by decide +kernel)]; kernel_rfl) | (rw [if_neg (by decide +kernel)]; exact ⟨rfl, rfl⟩))
    (fun os started H enc _ => bookShifts_lifted os started H enc)
end Go.Proofs.Ytiidplinmempcaa
