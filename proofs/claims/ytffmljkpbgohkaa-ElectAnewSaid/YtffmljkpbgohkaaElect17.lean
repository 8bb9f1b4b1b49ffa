/- Choices: two turns of Elect in either order. Plain. -/
import Derived.Test.YtffmljkpbgohkaaElect13
namespace Go.Proofs.Ytffmljkpbgohkaa
open Go.RowKit
theorem sort_ext : ∀ {l m : List Choice} (_ : l.Pairwise (fun a b => lessU a.frm b.frm = true)) (_ : m.Pairwise (fun a b => lessU a.frm b.frm = true)) (_ : ∀ x, x ∈ l ↔ x ∈ m), l = m
  | [], [], _, _, _ => rfl
  | [], b :: m, _, _, h => absurd ((h b).2 (by simp)) (by simp)
  | a :: l, [], _, _, h => absurd ((h a).1 (by simp)) (by simp)
  | a :: l, b :: m, hl, hm, h => by
    obtain ⟨hl1, hl2⟩ := List.pairwise_cons.1 hl
    obtain ⟨hm1, hm2⟩ := List.pairwise_cons.1 hm
    have e : a = b := by
      rcases List.mem_cons.1 ((h a).1 (by simp)) with e | e
      · exact e
      · rcases List.mem_cons.1 ((h b).2 (by simp)) with f | f
        · exact f.symm
        · exact absurd (hl1 b f) (by rw [lessU_asymm (hm1 a e)]; simp)
    subst e
    refine congrArg (a :: ·) (sort_ext hl2 hm2 fun x => ⟨fun hx => ?_, fun hx => ?_⟩)
    · rcases List.mem_cons.1 ((h x).1 (by simp [hx])) with e | e
      · exact absurd (hl1 x hx) (by rw [e, lessU_irr]; simp)
      · exact e
    · rcases List.mem_cons.1 ((h x).2 (by simp [hx])) with e | e
      · exact absurd (hm1 x hx) (by rw [e, lessU_irr]; simp)
      · exact e
theorem mem_insC {d : List Choice} {x y : Choice} : y ∈ insC d x ↔ y = x ∨ y ∈ d := by
  unfold insC
  have : y ∈ d ↔ y ∈ d.takeWhile (fun y => !lessU x.frm y.frm) ∨ y ∈ d.dropWhile (fun y => !lessU x.frm y.frm) := by
    rw [← List.mem_append, List.takeWhile_append_dropWhile]
  rw [List.mem_append, List.mem_cons, this]
  constructor
  · rintro (h | h | h)
    · exact .inr (.inl h)
    · exact .inl h
    · exact .inr (.inr h)
  · rintro (h | h | h)
    · exact .inr (.inl h)
    · exact .inl h
    · exact .inr (.inr h)
theorem mem_takeWhile' {α : Type} {p : α → Bool} : ∀ {l : List α} {x : α} (_ : x ∈ l.takeWhile p), p x = true
  | [], x, h => by simp at h
  | a :: l, x, h => by
    rw [List.takeWhile_cons] at h
    split at h
    · rename_i ha
      rcases List.mem_cons.1 h with rfl | h
      · exact ha
      · exact mem_takeWhile' h
    · cases h
theorem dropWhile_after {u : Un} : ∀ {d : List Choice} (_ : d.Pairwise (fun a b => lessU a.frm b.frm = true)) {y : Choice} (_ : y ∈ d.dropWhile (fun y => !lessU u y.frm)), lessU u y.frm = true
  | [], _, y, h => by simp at h
  | a :: d, hp, y, h => by
    obtain ⟨h1, h2⟩ := List.pairwise_cons.1 hp
    rw [List.dropWhile_cons] at h
    split at h
    · exact dropWhile_after h2 h
    · rename_i ha
      have ha' : lessU u a.frm = true := by simpa using ha
      rcases List.mem_cons.1 h with rfl | h
      · exact ha'
      · exact lessU_trans ha' (h1 y h)
theorem SortC.ins {d : List Choice} {x : Choice} (h : SortC d) (hx : x.frm ≠ x.too) (hne : ∀ y ∈ d, y.frm ≠ x.frm) : SortC (insC d x) := by
  have hb : ∀ y ∈ d.takeWhile (fun y => !lessU x.frm y.frm), lessU y.frm x.frm = true := fun y hy => by
    have h1 : (!lessU x.frm y.frm) = true := mem_takeWhile' (p := fun y : Choice => !lessU x.frm y.frm) hy
    rw [lessU_flip (hne y (List.takeWhile_subset _ hy))] at h1
    exact h1
  refine ⟨fun y hy => ?_, ?_⟩
  · rcases mem_insC.1 hy with rfl | hy
    · exact hx
    · exact h.1 y hy
  · unfold insC
    rw [List.pairwise_append]
    refine ⟨h.2.sublist (List.takeWhile_sublist _), List.pairwise_cons.2 ⟨fun y hy => dropWhile_after h.2 hy, h.2.sublist (List.dropWhile_sublist _)⟩, fun y hy z hz => ?_⟩
    rcases List.mem_cons.1 hz with rfl | hz
    · exact hb y hy
    · exact lessU_trans (hb y hy) (dropWhile_after h.2 hz)
/-- What Elect leaves, of the lists that it takes. -/
theorem elect_sort {l : List Choice} {u t : Un} (h : SortC l) (hne : u ≠ t) : SortC (insC (dropL l u) ⟨u, t, false⟩) := (h.drop u).ins hne fun _ hy => dropL_ne hy
theorem mem_drop {l : List Choice} {u : Un} {x : Choice} : x ∈ dropL l u ↔ x ∈ l ∧ x.frm ≠ u := by
  unfold dropL
  rw [List.mem_filter]
  simp
theorem elect_swap {l : List Choice} {a b x y : Un} (h : SortC l) (hab : a ≠ b) (hx : a ≠ x) (hy : b ≠ y) :
    insC (dropL (insC (dropL l a) ⟨a, x, false⟩) b) ⟨b, y, false⟩ = insC (dropL (insC (dropL l b) ⟨b, y, false⟩) a) ⟨a, x, false⟩ := by
  refine sort_ext (elect_sort (elect_sort h hx) hy).2 (elect_sort (elect_sort h hy) hx).2 fun z => ?_
  simp only [mem_insC, mem_drop]
  constructor
  · rintro (h1 | ⟨h1 | ⟨h1, h2⟩, h3⟩)
    · exact .inr ⟨.inl h1, by rw [h1]; exact fun e => hab e.symm⟩
    · exact .inl h1
    · exact .inr ⟨.inr ⟨h1, h3⟩, h2⟩
  · rintro (h1 | ⟨h1 | ⟨h1, h2⟩, h3⟩)
    · exact .inr ⟨.inl h1, by rw [h1]; exact hab⟩
    · exact .inl h1
    · exact .inr ⟨.inr ⟨h1, h3⟩, h2⟩
theorem dropL_twice (l : List Choice) (u : Un) : dropL (dropL l u) u = dropL l u := by
  unfold dropL
  rw [List.filter_filter]
  simp
theorem dropL_comm (l : List Choice) (u v : Un) : dropL (dropL l u) v = dropL (dropL l v) u := by
  unfold dropL
  rw [List.filter_filter, List.filter_filter]
  congr 1
  funext x
  exact Bool.and_comm _ _
theorem electL_zero {l : List Choice} {u t : Un} (h : SortC l) (hne : u ≠ t) : electC l u t = 0 ∧ electL l u t = insC (dropL l u) ⟨u, t, false⟩ := by
  unfold electC electL
  rw [isC_sort.2 h]
  simp [hne]
theorem electL_same {l : List Choice} {u : Un} (h : SortC l) : electC l u u = 24 ∧ electL l u u = [] := by
  unfold electC electL
  rw [isC_sort.2 h]
  simp
end Go.Proofs.Ytffmljkpbgohkaa
