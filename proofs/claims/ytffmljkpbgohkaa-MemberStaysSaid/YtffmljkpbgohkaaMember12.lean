/- Contract of member.Put for a sorted table. -/
import Derived.Test.YtffmljkpbgohkaaMember11
namespace Go.Proofs.Ytffmljkpbgohkaa
open Go.RowKit
/-- The table with m before the i-th. -/
def putAt (l : List Mem) (m : Mem) (i : Nat) : List Mem := l.take i ++ m :: l.drop i
theorem putAt_len (l : List Mem) (m : Mem) (i : Nat) : (putAt l m i).length = l.length + 1 := by
  unfold putAt; rw [List.length_append, List.length_cons, List.length_take, List.length_drop]; omega
theorem putAt_self {l : List Mem} {m : Mem} {i : Nat} (h : i ≤ l.length) : (putAt l m i)[i]? = some m := by
  unfold putAt
  rw [List.getElem?_append_right (by rw [List.length_take]; omega), List.length_take, Nat.min_eq_left h]; simp
theorem putAt_low {l : List Mem} {m : Mem} {i j : Nat} (h : i ≤ l.length) (hj : j < i) : (putAt l m i)[j]? = l[j]? := by
  unfold putAt
  rw [List.getElem?_append_left (by rw [List.length_take]; omega), List.getElem?_take, if_pos hj]
theorem putAt_swap {l : List Mem} {m : Mem} {i : Nat} (h0 : 0 < i) (h : i ≤ l.length) (hi : i - 1 < l.length) : ((putAt l m i).set (i - 1) m).set i l[i - 1] = putAt l m (i - 1) := by
  obtain ⟨j, rfl⟩ : ∃ j, i = j + 1 := ⟨i - 1, by omega⟩
  simp only [Nat.add_sub_cancel] at hi ⊢
  unfold putAt
  have hl : (l.take j).length = j := by rw [List.length_take]; omega
  rw [List.take_succ_eq_append_getElem hi, List.append_assoc, List.drop_eq_getElem_cons hi]
  rw [List.set_append_right _ _ (by omega), hl, Nat.sub_self, List.set_append_right _ _ (by omega), hl]
  simp
theorem ins_at {l : List Mem} {m : Mem} {i : Nat} (hs : SortedM l) (hi : i ≤ l.length) (hn : (findM l m.id).2 = false) (hlow : ∀ h : i - 1 < l.length, 0 < i → ¬ m.id < l[i - 1].id) (hup : ∀ h : i < l.length, m.id < l[i].id) : insM l m = putAt l m i := by
  have hne : ∀ j (hj : j < l.length), l[j].id ≠ m.id := by
    intro j hj he
    rcases idx_cases (fun x : Mem => x.id == m.id) l with ⟨k, hk, hm, hno, _⟩ | ⟨hno, _⟩
    · rw [find_hit hk hm hno] at hn; cases hn
    · have := hno j hj; simp [he] at this
  have hp := List.pairwise_iff_getElem.1 hs
  have hw := while_at (p := fun x : Mem => decide (x.id < m.id)) (l := l) (k := i) (fun j hj hji => by
    have h1 := hlow (by omega) (by omega)
    have h2 := hne (i - 1) (by omega)
    have h3 : l[j].id ≤ l[i - 1].id := by
      rcases Nat.lt_or_ge j (i - 1) with h4 | h4
      · have := hp j (i - 1) hj (by omega) h4; omega
      · obtain rfl : j = i - 1 := by omega
        exact Int.le_refl _
    simp; omega) hi (fun h => by have := hup h; simp; omega)
  unfold insM putAt
  rw [hw.1, hw.2]
end Go.Proofs.Ytffmljkpbgohkaa
