/- Choices: one turn of ElectAnew. Plain. -/
import Derived.Test.YtffmljkpbgohkaaElect17
namespace Go.Proofs.Ytffmljkpbgohkaa
open Go.RowKit
theorem find_ins {d : List Choice} {x : Choice} {u : Un} (h : x.frm ≠ u) : findC (insC d x) u = findC d u := by
  have e : (insC d x).find? (fun y => decide (y.frm = u)) = d.find? (fun y => decide (y.frm = u)) := by
    conv => rhs; rw [← List.takeWhile_append_dropWhile (p := fun y : Choice => !lessU x.frm y.frm) (l := d)]
    unfold insC
    rw [List.find?_append, List.find?_append, List.find?_cons]
    simp [h]
  unfold findC
  rw [e]
theorem find_ins_self {d : List Choice} {x : Choice} (h : ∀ y ∈ d, y.frm ≠ x.frm) : findC (insC d x) x.frm = (x, true) := by
  have e : (insC d x).find? (fun y => decide (y.frm = x.frm)) = some x := by
    unfold insC
    rw [List.find?_append]
    have hn : (d.takeWhile (fun y => !lessU x.frm y.frm)).find? (fun y => decide (y.frm = x.frm)) = none := by
      rw [List.find?_eq_none]
      intro y hy
      simpa using h y (List.takeWhile_subset _ hy)
    rw [hn]
    simp
  unfold findC
  rw [e]
theorem find_drop {l : List Choice} {u v : Un} (h : v ≠ u) : findC (dropL l v) u = findC l u := by
  have e : (dropL l v).find? (fun y => decide (y.frm = u)) = l.find? (fun y => decide (y.frm = u)) := by
    unfold dropL
    rw [List.find?_filter]
    congr 1
    funext y
    by_cases hy : y.frm = u
    · simp only [hy, decide_true, decide_eq_true_eq, Bool.not_eq_true', decide_eq_false_iff_not]
      simp [Ne.symm h]
    · simp [hy]
  unfold findC
  rw [e]
theorem find_drop_self {l : List Choice} {u : Un} : findC (dropL l u) u = (⟨⟨0, 0⟩, ⟨0, 0⟩, false⟩, false) := by
  have e : (dropL l u).find? (fun y => decide (y.frm = u)) = none := by
    rw [List.find?_eq_none]
    intro y hy
    simpa using dropL_ne hy
  unfold findC
  rw [e]
theorem ready_drop (l : List Choice) (u : Un) : readyC (dropL l u) u = 19 := by unfold readyC; rw [find_drop_self]; rfl
theorem elect_form {l : List Choice} {u t : Un} (hs : SortC l) (h : electC l u t = 0) : u ≠ t ∧ electL l u t = insC (dropL l u) ⟨u, t, false⟩ := by
  have hne : u ≠ t := by
    intro e
    rw [e, (electL_same hs).1] at h
    exact absurd h (by decide)
  exact ⟨hne, (electL_zero hs hne).2⟩
theorem agree_form {l : List Choice} {u t : Un} (hs : SortC l) (h : agreeC l u t = 0) : u ≠ t ∧ agreeL l u t = insC (dropL l u) ⟨u, t, true⟩ := by
  rcases idxCases (fun x : Choice => decide (x.frm = u)) l with ⟨k, hk, hm, hn, _⟩ | ⟨hn, _⟩
  · have hfc := findC_hit hk hm hn
    have hag := agreeF_hit hk hm hn
    have hu : l[k].frm = u := by simpa using hm
    have ht : l[k].too = t := by
      unfold agreeC at h
      rw [isC_sort.2 hs, hfc] at h
      simp only [↓reduceIte] at h
      by_cases e : l[k].too = t
      · exact e
      · rw [if_neg e] at h; exact absurd h (by decide)
    have hx : ({ l[k] with con := true } : Choice) = ⟨u, t, true⟩ := by rw [← hu, ← ht]
    refine ⟨by rw [← hu, ← ht]; exact hs.1 _ (List.getElem_mem hk), ?_⟩
    have hset := setR_hit hs hk ⟨u, t, true⟩ hu.symm
    rw [setR_insC] at hset
    rw [hset]
    unfold agreeL
    rw [isC_sort.2 hs, hfc, hag, hx]
    simp [ht]
  · unfold agreeC at h
    rw [isC_sort.2 hs, findC_miss hn] at h
    simp at h
theorem elect_ready {l : List Choice} {u t : Un} (hs : SortC l) (h : electC l u t = 0) : readyC (electL l u t) u = 20 := by
  unfold readyC
  rw [(elect_form hs h).2, find_ins_self (x := ⟨u, t, false⟩) fun _ hy => dropL_ne hy]
  rfl
theorem agree_ready {l : List Choice} {u t : Un} (hs : SortC l) (h : agreeC l u t = 0) : readyC (agreeL l u t) u = 0 ∧ readyU (agreeL l u t) u = t := by
  unfold readyC readyU
  rw [(agree_form hs h).2, find_ins_self (x := ⟨u, t, true⟩) fun _ hy => dropL_ne hy]
  exact ⟨rfl, rfl⟩
theorem elect_next {l : List Choice} {u t : Un} (hs : SortC l) (h : electC l u t = 0) : SortC (electL l u t) ∧ ∀ a, u ≠ a → findC (electL l u t) a = findC l a := by
  refine ⟨?_, fun a ha => ?_⟩
  · rw [(elect_form hs h).2]; exact elect_sort hs (elect_form hs h).1
  · rw [(elect_form hs h).2, find_ins (x := ⟨u, t, false⟩) ha, find_drop ha]
theorem agree_next {l : List Choice} {u t : Un} (hs : SortC l) (h : agreeC l u t = 0) : SortC (agreeL l u t) ∧ ∀ a, u ≠ a → findC (agreeL l u t) a = findC l a := by
  refine ⟨?_, fun a ha => ?_⟩
  · rw [(agree_form hs h).2]
    exact (hs.drop u).ins (x := ⟨u, t, true⟩) (agree_form hs h).1 fun _ hy => dropL_ne hy
  · rw [(agree_form hs h).2, find_ins (x := ⟨u, t, true⟩) ha, find_drop ha]
end Go.Proofs.Ytffmljkpbgohkaa
