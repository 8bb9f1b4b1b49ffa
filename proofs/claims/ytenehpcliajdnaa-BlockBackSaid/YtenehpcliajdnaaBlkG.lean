/- Groups, plain: where one is, what any are with one more, with so much left. -/
import Derived.Test.YtenehpcliajdnaaBlkT
import Derived.Test.YtenehpcliajdnaaList2
namespace Go.Proofs.Ytenehpcliajdnaa
open Go.RowKit
def findGroup (l : List Group) (id : Int) : Group × Bool := match l.find? (fun m => m.id == id) with | some m => (m, true) | none => (⟨0, ⟨0, 0⟩, 0, 0, 0⟩, false)
theorem findGroup_hit {l : List Group} {id : Int} {k : Nat} (h : k < l.length) (hm : (l[k].id == id) = true) (hn : ∀ j (_ : j < l.length), j < k → (l[j].id == id) = false) : findGroup l id = (l[k], true) := by
  have : l.find? (fun m => m.id == id) = some l[k] := by
    rw [List.find?_eq_some_iff_getElem]
    exact ⟨hm, k, h, rfl, fun j hj => by simp [hn j (by omega) hj]⟩
  simp [findGroup, this]
theorem findGroup_miss {l : List Group} {id : Int} (hn : ∀ j (_ : j < l.length), (l[j].id == id) = false) : findGroup l id = (⟨0, ⟨0, 0⟩, 0, 0, 0⟩, false) := by
  have : l.find? (fun m => m.id == id) = none := by
    rw [List.find?_eq_none]
    intro x hx
    obtain ⟨j, hj, rfl⟩ := List.mem_iff_getElem.1 hx
    simp [hn j hj]
  simp [findGroup, this]
theorem idx_group (l : List Group) (id : Int) : (∃ k, ∃ h : k < l.length, (l[k].id == id) = true ∧ (∀ j (_ : j < l.length), j < k → (l[j].id == id) = false) ∧ idxOf (fun x : Group => x.id == id) l = k ∧ findGroup l id = (l[k], true)) ∨ ((∀ j (_ : j < l.length), (l[j].id == id) = false) ∧ idxOf (fun x : Group => x.id == id) l = -1 ∧ findGroup l id = (⟨0, ⟨0, 0⟩, 0, 0, 0⟩, false)) := by
  rcases idxCases (fun x : Group => x.id == id) l with ⟨k, hk, hm, hn, he⟩ | ⟨hn, he⟩
  · exact .inl ⟨k, hk, hm, hn, he, findGroup_hit hk hm hn⟩
  · exact .inr ⟨hn, he, findGroup_miss hn⟩
def withLeft (g : Group) (q : Int) : Group := ⟨g.id, g.unit, g.inst, g.price, q⟩
/-- The first of a number has so much left. -/
def setL (id q : Int) : List Group → List Group
  | [] => []
  | g :: t => if (g.id == id) = true then withLeft g q :: t else g :: setL id q t
theorem setL_hit {id q : Int} : ∀ {l : List Group} {k : Nat} (h : k < l.length) (_ : (l[k].id == id) = true) (_ : ∀ j (_ : j < l.length), j < k → (l[j].id == id) = false), setL id q l = l.set k (withLeft l[k] q)
  | [], k, h, _, _ => by simp at h
  | g :: t, 0, h, hm, hn => by
    have : (g.id == id) = true := hm
    unfold setL
    rw [if_pos this]; rfl
  | g :: t, k + 1, h, hm, hn => by
    have h0 : (g.id == id) = false := hn 0 (by simp) (by omega)
    have ih := setL_hit (id := id) (q := q) (l := t) (k := k) (by simpa using h) hm (fun j hj hk => hn (j + 1) (by simpa using hj) (by omega))
    unfold setL
    rw [if_neg (by rw [h0]; simp), ih]; rfl
def alC (l : List Group) (id q : Int) : Int :=
  if (findGroup l id).2 = true then (if q = 0 then 2 else if (0 < (findGroup l id).1.left ∧ q < 0) ∨ ((findGroup l id).1.left < 0 ∧ 0 < q) then 2 else if (0 < q ∧ (findGroup l id).1.left < q) ∨ (q < 0 ∧ q < (findGroup l id).1.left) then 23 else 0) else 11
def alL (l : List Group) (id q : Int) : List Group := if alC l id q = 0 then setL id ((findGroup l id).1.left - q) l else []
def bkC (l : List Group) (id q : Int) : Int := if (findGroup l id).2 = true then (if withinQ ((findGroup l id).1.left + q) = true then 0 else 7) else 11
def bkL (l : List Group) (id q : Int) : List Group := if bkC l id q = 0 then setL id ((findGroup l id).1.left + q) l else []
def opC (l : List Group) (g : Group) : Int := if g.left = 0 then 2 else if withinQ g.left = true then (if 64 ≤ l.length then 25 else 0) else 2
def nextG (l : List Group) : Int := match l.getLast? with | some x => x.id + 1 | none => 1
def withId (g : Group) (i : Int) : Group := ⟨i, g.unit, g.inst, g.price, g.left⟩
def opN (l : List Group) (g : Group) : Int := if opC l g = 0 then nextG l else 0
def opL (l : List Group) (g : Group) : List Group := if opC l g = 0 then l ++ [withId g (nextG l)] else []
theorem getLast_at {l : List Group} (h : 0 < l.length) : nextG l = (l[l.length - 1]'(by omega)).id + 1 := by
  unfold nextG
  rw [List.getLast?_eq_getElem?, List.getElem?_eq_getElem (by omega)]
theorem setL_len (id q : Int) : ∀ (l : List Group), (setL id q l).length = l.length
  | [] => rfl
  | g :: t => by
    unfold setL
    split
    · rfl
    · simp [setL_len id q t]
/-- Groups opened one behind the other. -/
def tblG : List Group → List Group → List Group
  | out, [] => out
  | out, g :: t => tblG (if opC out g = 0 then opL out g else out) t
def tableG (l : List Group) : List Group := tblG [] (l.take 70)
/-- What holds of groups that were opened one behind the other. -/
def GoodG (l : List Group) : Prop := l.length ≤ 64 ∧ (∀ k (h : k < l.length), l[k].id = k + 1) ∧ ∀ g ∈ l, -1099511627776 ≤ g.left ∧ g.left ≤ 1099511627776
theorem nextG_good {l : List Group} (h : GoodG l) : nextG l = l.length + 1 := by
  rcases Nat.eq_zero_or_pos l.length with h0 | h0
  · have := List.eq_nil_of_length_eq_zero h0
    subst this; rfl
  · rw [getLast_at h0, h.2.1]; omega
theorem good_nil : GoodG [] := ⟨by simp, fun k h => by simp at h, by simp⟩
theorem op_good {l : List Group} {g : Group} (h : GoodG l) (h0 : opC l g = 0) : GoodG (opL l g) ∧ opL l g = l ++ [withId g (nextG l)] := by
  have he : opL l g = l ++ [withId g (nextG l)] := by unfold opL; rw [if_pos h0]
  refine ⟨?_, he⟩
  have hn := nextG_good h
  unfold opC at h0
  by_cases h1 : g.left = 0
  · rw [if_pos h1] at h0; omega
  rw [if_neg h1] at h0
  cases h2 : withinQ g.left
  · rw [h2, if_neg (by simp)] at h0; omega
  rw [h2, if_pos rfl] at h0
  by_cases h3 : 64 ≤ l.length
  · rw [if_pos h3] at h0; omega
  rw [he]
  unfold withinQ at h2
  simp at h2
  refine ⟨by simp; omega, fun k hk => ?_, fun x hx => ?_⟩
  · by_cases hl : k < l.length
    · rw [List.getElem_append_left hl]; exact h.2.1 k hl
    · have hkl : k = l.length := by simp at hk; omega
      subst hkl
      simp [withId, hn]
  · rcases List.mem_append.1 hx with hx | hx
    · exact h.2.2 x hx
    · simp at hx; subst hx; exact h2
theorem tbl_good : ∀ (t out : List Group) (_ : GoodG out), GoodG (tblG out t)
  | [], out, h => h
  | g :: t, out, h => by
    unfold tblG
    by_cases h0 : opC out g = 0
    · rw [if_pos h0]; exact tbl_good t _ (op_good h h0).1
    · rw [if_neg h0]; exact tbl_good t _ h
theorem table_good (l : List Group) : GoodG (tableG l) := tbl_good _ _ good_nil
end Go.Proofs.Ytenehpcliajdnaa
