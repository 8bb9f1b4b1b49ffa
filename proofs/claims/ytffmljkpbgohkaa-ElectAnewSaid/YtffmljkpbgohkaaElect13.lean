/- Choices: plain laws of the two forms of Elect, Agree on sorted choices. -/
import Derived.Test.YtffmljkpbgohkaaElect12
import Derived.Test.YtffmljkpbgohkaaElect10
namespace Go.Proofs.Ytffmljkpbgohkaa
open Go.RowKit
theorem lessU_iff {a b : Un} : lessU a b = true ↔ a.acc < b.acc ∨ (a.acc = b.acc ∧ a.cli < b.cli) := by simp [lessU]
theorem lessU_trans {a b c : Un} (h : lessU a b = true) (k : lessU b c = true) : lessU a c = true := by
  rw [lessU_iff] at *
  omega
theorem lessU_flip {a b : Un} (h : a ≠ b) : (!lessU b a) = lessU a b := by
  cases hb : lessU b a
  · cases ha : lessU a b
    · exfalso
      have h1 : ¬ lessU b a = true := by rw [hb]; simp
      have h2 : ¬ lessU a b = true := by rw [ha]; simp
      rw [lessU_iff] at h1 h2
      apply h
      obtain ⟨x, y⟩ := a
      obtain ⟨x', y'⟩ := b
      simp only at h1 h2
      have e1 : x = x' := by omega
      have e2 : y = y' := by omega
      rw [e1, e2]
    · rfl
  · cases ha : lessU a b
    · rfl
    · exfalso
      rw [lessU_iff] at ha hb
      omega
theorem lessU_irr {a : Un} : lessU a a = false := by simp [lessU]
theorem lessU_ne {a b : Un} (h : lessU a b = true) : a ≠ b := by
  intro e; rw [e, lessU_irr] at h; cases h
theorem lessU_asymm {a b : Un} (h : lessU a b = true) : lessU b a = false := by
  cases hb : lessU b a
  · rfl
  · exfalso; rw [lessU_iff] at h hb; omega
/-- Choices that stand in order, no part chosen for itself. -/
def SortC (l : List Choice) : Prop := (∀ x ∈ l, x.frm ≠ x.too) ∧ l.Pairwise (fun a b => lessU a.frm b.frm = true)
theorem isE_sort : ∀ {l : List Choice} {p : Option Un} (_ : isE p l = true), SortC l ∧ ∀ q, p = some q → ∀ x ∈ l, lessU q x.frm = true
  | [], p, _ => ⟨⟨fun x h => (by cases h), List.Pairwise.nil⟩, fun _ _ x h => (by cases h)⟩
  | a :: l, p, h => by
    unfold isE at h
    simp only [Bool.and_eq_true] at h
    obtain ⟨⟨h1, h2⟩, h3⟩ := h
    obtain ⟨⟨i1, i2⟩, i3⟩ := isE_sort h3
    have i4 := i3 a.frm rfl
    have h1' : a.frm ≠ a.too := by simpa using h1
    refine ⟨⟨fun x hx => ?_, List.Pairwise.cons i4 i2⟩, fun q hq x hx => ?_⟩
    · rcases List.mem_cons.1 hx with rfl | hx
      · exact h1'
      · exact i1 x hx
    · subst hq
      simp only at h2
      rcases List.mem_cons.1 hx with rfl | hx
      · exact h2
      · exact lessU_trans h2 (i4 x hx)
theorem isE_of_sort : ∀ {l : List Choice} {p : Option Un} (_ : SortC l) (_ : ∀ q, p = some q → ∀ x ∈ l, lessU q x.frm = true), isE p l = true
  | [], p, _, _ => by unfold isE; rfl
  | a :: l, p, h, hp => by
    have h2 := List.pairwise_cons.1 h.2
    have := isE_of_sort (p := some a.frm) (l := l) ⟨fun x hx => h.1 x (by simp [hx]), h2.2⟩ (fun q hq x hx => by injection hq with hq; subst hq; exact h2.1 x hx)
    unfold isE
    simp only [Bool.and_eq_true]
    refine ⟨⟨by simpa using h.1 a (by simp), ?_⟩, this⟩
    cases p with
    | none => rfl
    | some q => exact hp q rfl a (by simp)
theorem isC_sort {l : List Choice} : isC l = true ↔ SortC l := ⟨fun h => (isE_sort h).1, fun h => isE_of_sort h (fun q hq => by cases hq)⟩
theorem SortC.drop {l : List Choice} (h : SortC l) (u : Un) : SortC (dropL l u) :=
  ⟨fun x hx => h.1 x (List.mem_filter.1 hx).1, h.2.filter _⟩
theorem dropL_ne {l : List Choice} {u : Un} {x : Choice} (h : x ∈ dropL l u) : x.frm ≠ u := by
  have := (List.mem_filter.1 h).2
  simpa using this
theorem takeWhile_congr' {α : Type} {p q : α → Bool} : ∀ {l : List α} (_ : ∀ x ∈ l, p x = q x), l.takeWhile p = l.takeWhile q ∧ l.dropWhile p = l.dropWhile q
  | [], _ => ⟨rfl, rfl⟩
  | a :: l, h => by
    have h1 := h a (by simp)
    have h2 := takeWhile_congr' (l := l) (fun x hx => h x (by simp [hx]))
    simp only [List.takeWhile_cons, List.dropWhile_cons, h1, h2.1, h2.2]
    exact ⟨trivial, trivial⟩
theorem insR_insC {d : List Choice} {x : Choice} (h : ∀ y ∈ d, y.frm ≠ x.frm) : insR d x = insC d x := by
  have := takeWhile_congr' (p := fun y : Choice => lessU y.frm x.frm) (q := fun y : Choice => !lessU x.frm y.frm) (l := d) (fun y hy => (lessU_flip (h y hy)).symm)
  unfold insR insC
  rw [this.1, this.2]
theorem setR_insC (l : List Choice) (x : Choice) : setR l x = insC (dropL l x.frm) x := insR_insC fun _ hy => dropL_ne hy
theorem sort_lt {l : List Choice} (h : SortC l) {i j : Nat} (hj : j < l.length) (hij : i < j) : lessU (l[i]'(by omega)).frm l[j].frm = true := List.pairwise_iff_getElem.1 h.2 i j (by omega) hj hij
theorem drop_hit {l : List Choice} (h : SortC l) {k : Nat} (hk : k < l.length) : dropL l l[k].frm = l.take k ++ l.drop (k + 1) := by
  have hl : l = l.take k ++ l[k] :: l.drop (k + 1) := by rw [← drop_cons' hk, List.take_append_drop]
  have e : ∀ u, dropL l u = dropL (l.take k ++ l[k] :: l.drop (k + 1)) u := fun u => by rw [← hl]
  rw [e]
  unfold dropL
  rw [List.filter_append, List.filter_cons]
  simp only [decide_true, Bool.not_true, Bool.false_eq_true, ↓reduceIte]
  congr 1
  · rw [List.filter_eq_self]
    intro x hx
    obtain ⟨i, hi, rfl⟩ := List.mem_iff_getElem.1 hx
    rw [List.length_take] at hi
    rw [List.getElem_take]
    have := lessU_ne (sort_lt h hk (show i < k by omega))
    simpa using this
  · rw [List.filter_eq_self]
    intro x hx
    obtain ⟨i, hi, rfl⟩ := List.mem_iff_getElem.1 hx
    rw [List.length_drop] at hi
    rw [List.getElem_drop]
    have := lessU_ne (sort_lt h (show k + 1 + i < l.length by omega) (show k < k + 1 + i by omega))
    simpa using fun e => this e.symm
theorem setR_hit {l : List Choice} (h : SortC l) {k : Nat} (hk : k < l.length) (x : Choice) (hx : x.frm = l[k].frm) : setR l x = l.set k x := by
  unfold setR
  rw [hx, drop_hit h hk]
  have hlen : (l.take k).length = k := by rw [List.length_take]; omega
  rw [insR_at (k := k) (d := l.take k ++ l.drop (k + 1))]
  · rw [List.take_append_of_le_length (by omega), List.take_take, Nat.min_self, List.drop_append_of_le_length (by omega), List.drop_eq_nil_of_le (by omega), List.nil_append]
    rw [List.set_eq_take_append_cons_drop, if_pos hk]
    simp
  · intro j hj hjk
    rw [List.getElem_append_left (by omega), List.getElem_take, hx]
    exact sort_lt h hk hjk
  · rw [List.length_append]; omega
  · intro h1
    rw [List.length_append, List.length_drop] at h1
    rw [List.getElem_append_right (by omega), List.getElem_drop, hx]
    simp only [hlen, Nat.sub_self, Nat.add_zero]
    exact lessU_asymm (sort_lt h (show k + 1 < l.length by omega) (show k < k + 1 by omega))
end Go.Proofs.Ytffmljkpbgohkaa
