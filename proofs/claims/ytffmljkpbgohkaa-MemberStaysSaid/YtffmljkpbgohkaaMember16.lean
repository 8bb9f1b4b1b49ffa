/- What is found in a table behind Put and Set: plain laws. -/
import Derived.Test.YtffmljkpbgohkaaMember15
namespace Go.Proofs.Ytffmljkpbgohkaa
open Go.RowKit
theorem find_cases (l : List Mem) (id : Int) : ((∀ x ∈ l, x.id ≠ id) ∧ findM l id = (⟨0, 0, 0, 0⟩, false)) ∨ (∃ x ∈ l, x.id = id ∧ findM l id = (x, true)) := by
  unfold findM
  cases h : l.find? (fun m => m.id == id) with
  | none => left; rw [List.find?_eq_none] at h; exact ⟨fun x hx e => h x hx (by simp [e]), rfl⟩
  | some y => right; exact ⟨y, List.mem_of_find?_eq_some h, by simpa using List.find?_some h, rfl⟩
theorem find_sorted {l : List Mem} {x : Mem} (hs : SortedM l) (hx : x ∈ l) : findM l x.id = (x, true) := by
  rcases find_cases l x.id with ⟨h, _⟩ | ⟨y, hy, e, h⟩
  · exact absurd rfl (h x hx)
  · rw [h]
    suffices y = x by rw [this]
    obtain ⟨i, hi, rfl⟩ := List.mem_iff_getElem.1 hx
    obtain ⟨j, hj, rfl⟩ := List.mem_iff_getElem.1 hy
    have hp := List.pairwise_iff_getElem.1 hs
    rcases Nat.lt_trichotomy i j with h1 | h1 | h1
    · have := hp i j hi hj h1; omega
    · subst h1; rfl
    · have := hp j i hj hi h1; omega
theorem find_nil {l : List Mem} {id : Int} (h : ∀ x ∈ l, x.id ≠ id) : findM l id = (⟨0, 0, 0, 0⟩, false) := by
  rcases find_cases l id with ⟨_, h1⟩ | ⟨x, hx, e, _⟩
  · exact h1
  · exact absurd e (h x hx)
theorem sorted_setM {l : List Mem} {m : Mem} (hs : SortedM l) : SortedM (l.map (setOne m)) := by
  unfold SortedM at *
  rw [List.pairwise_map]
  refine hs.imp ?_
  intro a b h
  have e : ∀ x : Mem, (setOne m x).id = x.id := by intro x; unfold setOne; split <;> simp_all
  rw [e, e]; exact h
theorem find_ins_self {l : List Mem} {m : Mem} (hs : SortedM l) (hn : (findM l m.id).2 = false) : findM (insM l m) m.id = (m, true) :=
  find_sorted (sorted_insM hs hn) (by unfold insM; simp)
theorem mem_insM {l : List Mem} {m x : Mem} : x ∈ insM l m ↔ x = m ∨ x ∈ l := by
  unfold insM
  conv => rhs; rw [← List.takeWhile_append_dropWhile (p := fun x : Mem => decide (x.id < m.id)) (l := l)]
  simp only [List.mem_append, List.mem_cons]
  exact ⟨fun h => by rcases h with h | h | h <;> simp [h], fun h => by rcases h with h | h | h <;> simp [h]⟩
theorem find_ins_other {l : List Mem} {m : Mem} {id : Int} (hs : SortedM l) (hn : (findM l m.id).2 = false) (hid : id ≠ m.id) : findM (insM l m) id = findM l id := by
  rcases find_cases l id with ⟨h, h1⟩ | ⟨x, hx, rfl, h1⟩
  · rw [h1]; exact find_nil (fun x hx => by rcases mem_insM.1 hx with rfl | hx; exact fun e => hid e.symm; exact h x hx)
  · rw [h1]; exact find_sorted (sorted_insM hs hn) (mem_insM.2 (.inr hx))
theorem find_set_self {l : List Mem} {m : Mem} (hs : SortedM l) (hn : (findM l m.id).2 = true) : findM (l.map (setOne m)) m.id = (m, true) := by
  refine find_sorted (sorted_setM hs) ?_
  rcases find_cases l m.id with ⟨_, h1⟩ | ⟨x, hx, e, _⟩
  · rw [h1] at hn; cases hn
  · exact List.mem_map.2 ⟨x, hx, by unfold setOne; rw [if_pos (by simp [e])]⟩
theorem find_set_other {l : List Mem} {m : Mem} {id : Int} (hs : SortedM l) (hid : id ≠ m.id) : findM (l.map (setOne m)) id = findM l id := by
  rcases find_cases l id with ⟨h, h1⟩ | ⟨x, hx, rfl, h1⟩
  · rw [h1]
    refine find_nil (fun x hx => ?_)
    obtain ⟨y, hy, rfl⟩ := List.mem_map.1 hx
    unfold setOne; split
    · exact fun e => hid e.symm
    · exact h y hy
  · rw [h1]; exact find_sorted (sorted_setM hs) (List.mem_map.2 ⟨x, hx, by unfold setOne; rw [if_neg (by simpa using hid)]⟩)
end Go.Proofs.Ytffmljkpbgohkaa
