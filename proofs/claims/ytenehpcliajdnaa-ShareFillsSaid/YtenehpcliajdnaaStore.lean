/- A store into a slice of the call's own. No program in sight. -/
import Derived.Test.YtenehpcliajdnaaOwn
namespace Go.Proofs.Ytenehpcliajdnaa
open Go.RowKit
theorem flatten_set {k : Nat} : ∀ {rows : List (List Value)} (_ : ∀ r ∈ rows, r.length = k) {i : Nat} {r : List Value} (_ : rows[i]? = some r) {j : Nat} (_ : j < k) (u : Value), rows.flatten.set (i * k + j) u = (rows.set i (r.set j u)).flatten
  | [], _, i, r, hi, j, _, u => by simp at hi
  | a :: rows, hl, 0, r, hi, j, hj, u => by
    simp at hi; subst hi
    have : j < a.length := by rw [hl a (by simp)]; exact hj
    simp [List.set_append_left _ _ this]
  | a :: rows, hl, i + 1, r, hi, j, hj, u => by
    have ha := hl a (by simp)
    have := flatten_set (rows := rows) (fun r hr => hl r (by simp [hr])) (i := i) (r := r) (by simpa using hi) hj u
    rw [List.flatten_cons, List.set_append_right _ _ (by rw [ha, Nat.add_mul]; omega), ha, List.set_cons_succ, List.flatten_cons, ← this]
    congr 2
    rw [Nat.add_mul]; omega
theorem Own.put {w : World} {base E k : Nat} {v : Value} {rows : List (List Value)} (h : Own w base E k v rows) {g n c : Nat} (hv : v = .slice (some ⟨g, 0, none⟩) n c) {i : Nat} {r : List Value} (hi : rows[i]? = some r) {j : Nat} (hj : j < k) (u : Value) :
    Own (w.setCell ⟨g, i * k + j, none⟩ u) base E k v (rows.set i (r.set j u)) := by
  have hrl := h.1 r (List.mem_of_getElem? hi)
  have hall : ∀ x ∈ rows.set i (r.set j u), x.length = k := fun x hx => by
    rcases List.mem_or_eq_of_mem_set hx with h1 | h1
    · exact h.1 x h1
    · rw [h1, List.length_set]; exact hrl
  refine ⟨hall, ?_, ?_⟩
  · rw [flatten_length hall]
  · rcases h.2.2 with ⟨h1, _⟩ | ⟨g', cap, cur, h1, hg, hh, hc, hm, hs, ht⟩
    · rw [hv] at h1; cases h1
    · rw [hv] at h1
      injection h1 with e1 e2 e3
      injection e1 with e1
      injection e1 with e1 _ _
      subst e1
      refine .inr ⟨g, cap, cur.setIfInBounds (i * k + j) u, by rw [hv, List.length_set, ← e2, e3], hg, Blk.set (t := E) hh _ u, by rw [List.length_set]; exact hc, hm, by simpa using hs, ?_⟩
      rw [← flatten_set h.1 hi hj u, ← ht, List.length_set, Array.toList_setIfInBounds, List.take_set]
theorem Own.put4 {w : World} {base E : Nat} {v : Value} {rows : List (List Value)} (h : Own w base E 4 v rows) {g n c : Nat} (hv : v = .slice (some ⟨g, 0, none⟩) n c) {i : Nat} (hi : i < rows.length) (a b x d : Value) :
    Own ((((w.setCell ⟨g, i * 4, none⟩ a).setCell ⟨g, i * 4 + 1, none⟩ b).setCell ⟨g, i * 4 + 2, none⟩ x).setCell ⟨g, i * 4 + 3, none⟩ d) base E 4 v (rows.set i [a, b, x, d]) := by
  have hr := h.1 _ (List.getElem_mem hi)
  obtain ⟨p, q, r, t, he⟩ : ∃ p q r t, rows[i] = [p, q, r, t] := by
    match h4 : rows[i], hr with
    | [p, q, r, t], _ => exact ⟨p, q, r, t, rfl⟩
  have h1 := h.put hv (List.getElem?_eq_getElem hi) (show 0 < 4 from by omega) a
  have h2 := h1.put hv (List.getElem?_set_self (by simpa using hi)) (show 1 < 4 from by omega) b
  have h3 := h2.put hv (List.getElem?_set_self (by simpa using hi)) (show 2 < 4 from by omega) x
  have h4 := h3.put hv (List.getElem?_set_self (by simpa using hi)) (show 3 < 4 from by omega) d
  simp only [List.set_set, he, List.set_cons_zero, List.set_cons_succ, Nat.add_zero] at h4
  exact h4
theorem Own.blk {w : World} {base E k : Nat} {v : Value} {rows : List (List Value)} (h : Own w base E k v rows) {g n c : Nat} (hv : v = .slice (some ⟨g, 0, none⟩) n c) : ∃ cur, Blk w g E cur := by
  rcases h.2.2 with ⟨h1, _⟩ | ⟨g', cap, cur, h1, hg, hh, _⟩
  · rw [hv] at h1; cases h1
  · rw [hv] at h1
    injection h1 with e1 e2 e3
    injection e1 with e1
    injection e1 with e1 _ _
    subst e1
    exact ⟨cur, hh⟩
end Go.Proofs.Ytenehpcliajdnaa
