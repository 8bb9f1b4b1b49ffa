/-
  'novationlaw11.VecBack' answers true for every two rows of legs, and its arguments read on as they did.
  Conditions: none beyond the row's own.
-/
import Derived.Test.YtffmljkpbgohkaaVecBack
import Derived.Test.YtffmljkpbgohkaaLegOpen
import Derived.Test.YtffmljkpbgohkaaRows
namespace Go.Proofs.Ytffmljkpbgohkaa
open Go.ChangeShapes Go.WideShapes Go.ChangeAt Go.RowKit Go.Joins
theorem legs_len {w : World} {l : List Leg} {A : Option Addr} {c : Nat} (h : Rs w 2 (l.map encLeg) A c) : l.length ≤ maxLen := by
  have h1 := h.cap
  have h2 := h.room
  rw [List.length_map] at h1; omega
set_option maxRecDepth 100000 in
theorem vecBack_lifted (os : Os) (started : os.Started) (H : Type) (enc : TypeId × Value → H) :
    ReturnsInHanded {} Try.checked os 8 .any (Rows.vecBackSpec.pre6 enc Try.prog Try.f8 Rows.vecBackRow.domain false) (Rows.vecBackSpec.post enc Try.prog Try.f8 false true false false) := by
  refine returnsInHanded_of_change (C := Try.checked) Try.own started (by kernel_rfl) Try.func8
    (ChangeSpec.witness6 (enc := enc) (C := Try.checked) false ⟨#[], #[.slice none 0 0, .slice none 0 0], []⟩ 8 (by kernel_rfl) (by kernel_rfl) (by kernel_rfl) (by kernel_rfl)) ?_
  intro W base args ds gs before hval0 hW hcnd _
  have hval : ∀ (j : Nat) t v, Try.f8.params[j]? = some t → args[j]? = some v → Value.okWide Try.prog W .any base t v := hval0
  have hW' := hW
  obtain ⟨p, q, hA0, hV, rfl, hfz, hnd⟩ := hW
  have hA : DataW.TrodAll enc Try.prog W 0 (fun _ => true) true Try.f8.params.toList args.toList ds p := hA0
  rw [Try.params8] at hA hval
  obtain ⟨rfl, rfl⟩ := trodVars_none hV
  clear hA0 hval0
  obtain ⟨v0, v1, d0, d1, p0, p1, rfl, rfl, rfl, h0, h1⟩ := trodAll_two hA
  obtain ⟨a, A, c, rfl, hoka, hra⟩ := legs_open (hval 0 25 v0 rfl rfl) h0
  obtain ⟨b, B, d, rfl, hokb, hrb⟩ := legs_open (hval 1 25 v1 rfl rfl) h1
  refine (vecBack a b A B c d W (legs_len hra) (legs_len hrb) (fun y hy => (hoka y hy).2) (fun y hy => (hokb y hy).2) hra hrb).mono fun e W' ⟨he, hb⟩ => ?_
  subst he
  exact ⟨_, rfl, law_ends hW' rfl (by rw [Try.params8]; decide +kernel) rfl rfl rfl rfl hb⟩
theorem vecBack_holds : Rows.VecBackSaid :=
  OpenClaim.holds_of_wide 8 Try.f8 rfl rfl rfl rfl rfl rfl rfl ⟨rfl, rfl, rfl, rfl, rfl⟩ rfl rfl rfl rfl rfl (by kernel_rfl) Try.func8 (by kernel_rfl)
    (of_decide_eq_true (by kernel_rfl)) (by unfold Func.isWrapper; first | (rw [if_pos (by decide +kernel)]; kernel_rfl) | (rw [if_neg (by decide +kernel)]; exact ⟨rfl, rfl⟩))
    (fun os started H enc _ => vecBack_lifted os started H enc)
end Go.Proofs.Ytffmljkpbgohkaa
