/- The reference's tables are sorted; plain laws on Put and Set. -/
import Derived.Test.YtffmljkpbgohkaaMember13
namespace Go.Proofs.Ytffmljkpbgohkaa
open Go.RowKit
theorem putAt_sorted {l : List Mem} {m : Mem} {i : Nat} (hs : SortedM l) (hlo : ∀ x ∈ l.take i, x.id < m.id) (hup : ∀ x ∈ l.drop i, m.id < x.id) : SortedM (putAt l m i) := by
  unfold putAt SortedM
  unfold SortedM at hs
  rw [← List.take_append_drop i l, List.pairwise_append] at hs
  obtain ⟨h1, h2, h3⟩ := hs
  rw [List.pairwise_append, List.pairwise_cons]
  refine ⟨h1, ⟨hup, h2⟩, fun a ha b hb => ?_⟩
  rcases List.mem_cons.1 hb with rfl | hb
  · exact hlo a ha
  · exact h3 a ha b hb
theorem sorted_insM {l : List Mem} {m : Mem} (hs : SortedM l) (hn : (findM l m.id).2 = false) : SortedM (insM l m) := by
  have hne : ∀ x ∈ l, x.id ≠ m.id := by
    intro x hx he
    unfold findM at hn
    cases hf : l.find? (fun y => y.id == m.id) with
    | none => rw [List.find?_eq_none] at hf; exact hf x hx (by simp [he])
    | some y => rw [hf] at hn; cases hn
  unfold SortedM at hs ⊢
  unfold insM
  have hs' := hs
  rw [← List.takeWhile_append_dropWhile (p := fun x : Mem => decide (x.id < m.id)) (l := l), List.pairwise_append] at hs'
  obtain ⟨h1, h2, h3⟩ := hs'
  rw [List.pairwise_append, List.pairwise_cons]
  refine ⟨h1, ⟨fun x hx => ?_, h2⟩, fun a ha b hb => ?_⟩
  · cases hd : l.dropWhile (fun x : Mem => decide (x.id < m.id)) with
    | nil => rw [hd] at hx; cases hx
    | cons y t =>
      have hy : ¬ y.id < m.id := by
        have := List.head_dropWhile_not (p := fun x : Mem => decide (x.id < m.id)) (l := l) (by rw [hd]; simp)
        simp [hd] at this; omega
      have hym : y ∈ l := (List.dropWhile_sublist (l := l) (p := fun x : Mem => decide (x.id < m.id))).subset (by rw [hd]; simp)
      have := hne y hym
      rw [hd] at hx h2
      rcases List.mem_cons.1 hx with rfl | hx
      · omega
      · have := (List.pairwise_cons.1 h2).1 x hx; omega
  · rcases List.mem_cons.1 hb with rfl | hb
    · have := List.all_eq_true.1 (List.all_takeWhile (p := fun x : Mem => decide (x.id < b.id)) (l := l)) a ha; simpa using this
    · exact h3 a ha b hb
theorem sorted_tabN (l : List Mem) : ∀ k, SortedM (tabN l k)
  | 0 => by simp [tabN, SortedM]
  | k + 1 => by
    have ih := sorted_tabN l k
    rcases Nat.lt_or_ge k l.length with h | h
    · rw [tabN_succ h]; unfold stepM; split
      · rename_i hq
        unfold putL
        split
        · rename_i hh; exact sorted_insM ih hh.2
        · exact List.Pairwise.nil
      · exact ih
    · have : tabN l (k + 1) = tabN l k := by unfold tabN; rw [List.take_of_length_le (by omega), List.take_of_length_le h]
      rw [this]; exact ih
end Go.Proofs.Ytffmljkpbgohkaa
