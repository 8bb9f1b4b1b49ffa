/- Plain lists: where the first is, in two cases. -/
import Derived.Test.YtenehpcliajdnaaList
namespace Go.Proofs.Ytenehpcliajdnaa
theorem idxCases {α : Type} (p : α → Bool) (l : List α) : (∃ k, ∃ h : k < l.length, p l[k] = true ∧ (∀ j (_ : j < l.length), j < k → p l[j] = false) ∧ idxOf p l = k) ∨ ((∀ j (_ : j < l.length), p l[j] = false) ∧ idxOf p l = -1) := by
  unfold idxOf
  cases h : l.findIdx? p with
  | none =>
    right
    refine ⟨fun j hj => ?_, rfl⟩
    rw [List.findIdx?_eq_none_iff] at h
    exact h _ (List.getElem_mem hj)
  | some k =>
    left
    rw [List.findIdx?_eq_some_iff_getElem] at h
    obtain ⟨hk, h1, h2⟩ := h
    exact ⟨k, hk, h1, fun j hj hjk => by have := h2 j hjk; simpa using this, rfl⟩
end Go.Proofs.Ytenehpcliajdnaa
