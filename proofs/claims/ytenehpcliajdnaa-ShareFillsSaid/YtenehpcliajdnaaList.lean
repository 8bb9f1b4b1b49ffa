/- Plain lists: where the first is of which something holds. -/
namespace Go.Proofs.Ytenehpcliajdnaa
def idxOf {α : Type} (p : α → Bool) (l : List α) : Int := match l.findIdx? p with | some k => k | none => -1
theorem idx_hit {α : Type} {p : α → Bool} {l : List α} {k : Nat} (h : k < l.length) (hm : p l[k] = true) (hn : ∀ j (_ : j < l.length), j < k → p l[j] = false) : idxOf p l = k := by
  have : l.findIdx? p = some k := by
    rw [List.findIdx?_eq_some_iff_getElem]
    exact ⟨h, hm, fun j hj => by simp [hn j (by omega) hj]⟩
  simp [idxOf, this]
theorem idx_miss {α : Type} {p : α → Bool} {l : List α} (hn : ∀ j (_ : j < l.length), p l[j] = false) : idxOf p l = -1 := by
  have : l.findIdx? p = none := by
    rw [List.findIdx?_eq_none_iff]
    intro x hx
    obtain ⟨j, hj, rfl⟩ := List.mem_iff_getElem.1 hx
    exact hn j hj
  simp [idxOf, this]
end Go.Proofs.Ytenehpcliajdnaa
