/-
  'novationlaw01.WideAdds' answers true for every row of wide numbers, and its argument reads on as it did.
  Conditions: none beyond the row's own.
-/
import Derived.Test.YtjolddbfkcbnpaaLawW4
import Derived.Test.YtjolddbfkcbnpaaWideOpen
import Derived.Test.YtjolddbfkcbnpaaRows
namespace Go.Proofs.Ytjolddbfkcbnpaa
open Go.ChangeShapes Go.WideShapes Go.ChangeAt Go.RowKit Go.Joins
theorem wideAdds (l : List Int) (A : Option Addr) (c : Nat) (w : World) (hc : l.length ≤ c) (hm : c ≤ maxLen) (hin : ∀ x ∈ l, In128 x) (hr : Rd w A 2 (l.map encW)) :
    Calls Try.prog 8 #[.slice A l.length c] w fun e w' => e = .returned (.bool true) ∧ Below w.heap.size w w' := by
  have hnil : 40 < l.length → ∃ b o, A = some ⟨b, o, none⟩ := fun h => by
    obtain ⟨b, o, hA, _⟩ := hr 0 (encW l[0]) (by rw [List.getElem?_map, List.getElem?_eq_getElem (by omega)]; rfl)
    exact ⟨b, o, hA⟩
  by_cases h : l.length ≤ 40
  · exact wideAddsAt l l A c w hc hm (.inl ⟨h, rfl⟩) hin hr hnil
  · exact wideAddsAt l (l.take 40) A c w hc hm (.inr ⟨by omega, rfl⟩) (fun n hn => hin n (List.mem_of_mem_take hn)) (take40 hr 40) hnil
set_option maxRecDepth 100000 in
theorem wideAdds_lifted (os : Os) (started : os.Started) (H : Type) (enc : TypeId × Value → H) :
    ReturnsInHanded {} Try.checked os 8 .any (Rows.wideAddsSpec.pre6 enc Try.prog Try.f8 Rows.wideAddsRow.domain false) (Rows.wideAddsSpec.post enc Try.prog Try.f8 false true false false) := by
  refine returnsInHanded_of_change (C := Try.checked) Try.own started (by kernel_rfl) Try.func8
    (ChangeSpec.witness6 (enc := enc) (C := Try.checked) false ⟨#[], #[.slice none 0 0], []⟩ 8 (by kernel_rfl) (by kernel_rfl) (by kernel_rfl) (by kernel_rfl)) ?_
  intro W base args ds gs before hval0 hW hcnd _
  have hval : ∀ (j : Nat) t v, Try.f8.params[j]? = some t → args[j]? = some v → Value.okWide Try.prog W .any base t v := hval0
  have hW' := hW
  obtain ⟨p, q, hA0, hV, rfl, hfz, hnd⟩ := hW
  have hA : DataW.TrodAll enc Try.prog W 0 (fun _ => true) true Try.f8.params.toList args.toList ds p := hA0
  rw [Try.params8] at hA hval
  obtain ⟨rfl, rfl⟩ := trodVars_none hV
  clear hA0 hval0
  obtain ⟨v0, d0, rfl, rfl, h0⟩ := trodAll_one hA
  obtain ⟨l, A, c, rfl, hin, hlc, hcm, hrd⟩ := wides_open (hval 0 59 v0 rfl rfl) h0
  refine (wideAdds l A c W hlc hcm hin hrd).mono fun e W' ⟨he, hb⟩ => ?_
  subst he
  exact ⟨_, rfl, law_ends hW' rfl (by rw [Try.params8]; decide +kernel) rfl rfl rfl rfl hb⟩
theorem wideAdds_holds : Rows.WideAddsSaid :=
  OpenClaim.holds_of_wide 8 Try.f8 rfl rfl rfl rfl rfl rfl rfl ⟨rfl, rfl, rfl, rfl, rfl⟩ rfl rfl rfl rfl rfl (by kernel_rfl) Try.func8 (by kernel_rfl)
    (of_decide_eq_true (by kernel_rfl)) (by unfold Func.isWrapper; first | (rw [if_pos (by decide +kernel)]; kernel_rfl) | (rw [if_neg (by decide +kernel)]; exact ⟨rfl, rfl⟩))
    (fun os started H enc _ => wideAdds_lifted os started H enc)
end Go.Proofs.Ytjolddbfkcbnpaa
