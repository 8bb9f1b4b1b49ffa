/-
  'novationlaw19.BookMoves' answers true for every row of positions, every three units and every row of legs, and its arguments read on as they did.
  Conditions: none beyond the row's own.
-/
import Derived.Test.YtiidplinmempcaaJb1
import Derived.Test.YtiidplinmempcaaJz16
import Derived.Test.YtiidplinmempcaaJb2
namespace Go.Proofs.Ytiidplinmempcaa
open Go.ChangeShapes Go.WideShapes Go.ChangeAt Go.RowKit Go.Joins
set_option maxRecDepth 100000 in
theorem bookMoves_lifted (os : Os) (started : os.Started) (H : Type) (enc : TypeId × Value → H) :
    ReturnsInHanded {} Try.checked os 8 .any (Rows.bookMovesSpec.pre6 enc Try.prog Try.f8 Rows.bookMovesRow.domain false) (Rows.bookMovesSpec.post enc Try.prog Try.f8 false true false false) := by
  refine returnsInHanded_of_change (C := Try.checked) Try.own started (by kernel_rfl) Try.func8
    (ChangeSpec.witness6 (enc := enc) (C := Try.checked) false ⟨#[], #[.slice none 0 0, .agg #[.int .i64 0, .int .i64 0], .agg #[.int .i64 0, .int .i64 0], .agg #[.int .i64 0, .int .i64 0], .slice none 0 0], []⟩ 8 (by kernel_rfl) (by kernel_rfl) (by kernel_rfl) (by kernel_rfl)) ?_
  intro W base args ds gs before hval0 hW hcnd _
  have hval : ∀ (j : Nat) t v, Try.f8.params[j]? = some t → args[j]? = some v → Value.okWide Try.prog W .any base t v := hval0
  have hW' := hW
  obtain ⟨p, q, hA0, hV, rfl, hfz, hnd⟩ := hW
  have hA : DataW.TrodAll enc Try.prog W 0 (fun _ => true) true Try.f8.params.toList args.toList ds p := hA0
  rw [Try.params8] at hA hval
  obtain ⟨rfl, rfl⟩ := trodVars_none hV
  clear hA0 hval0
  obtain ⟨v0, v1, v2, v3, v4, d0, d1, d2, d3, d4, p0, p1, p2, p3, p4, rfl, rfl, rfl, h0, h1, h2, h3, h4⟩ := trodAll_five hA
  obtain ⟨l, A, c, rfl, hlm, hrd, hg, hok⟩ := PosV_open (hval 0 72 v0 rfl rfl) h0
  obtain ⟨u, _, rfl⟩ := Un_open (hval 1 60 v1 rfl rfl) h1
  obtain ⟨v, _, rfl⟩ := Un_open (hval 2 60 v2 rfl rfl) h2
  obtain ⟨x, _, rfl⟩ := Un_open (hval 3 60 v3 rfl rfl) h3
  obtain ⟨g, B, d, rfl, hok2, hr2⟩ := legs_open (hval 4 23 v4 rfl rfl) h4
  refine (bookMovesW l u v x g A B c d W hlm (legs_lenB hr2) hrd hg (fun x hx z hz => (hok x hx z hz).2) (fun z hz => (hok2 z hz).2) hr2).mono fun e W' ⟨he, hb⟩ => ?_
  subst he
  exact ⟨_, rfl, law_ends hW' rfl (by rw [Try.params8]; decide +kernel) rfl rfl rfl rfl hb⟩
theorem bookMoves_holds : Rows.BookMovesSaid :=
  OpenClaim.holds_of_wide 8 Try.f8 rfl rfl rfl rfl rfl rfl rfl ⟨rfl, rfl, rfl, rfl, rfl⟩ rfl rfl rfl rfl rfl (by kernel_rfl) Try.func8 (by kernel_rfl)
    (of_decide_eq_true (by kernel_rfl)) (by unfold Func.isWrapper; first | (rw [if_pos (by decide +kernel)]; kernel_rfl) | (rw [if_neg (by decide +kernel)]; exact ⟨rfl, rfl⟩))
    (fun os started H enc _ => bookMoves_lifted os started H enc)
end Go.Proofs.Ytiidplinmempcaa
