/- Shares, plain: the parts of a number by weights are one, in whatever way they are found; what they sum up to; who has more. -/
import Derived.Test.YtenehpcliajdnaaShrP
namespace Go.Proofs.Ytenehpcliajdnaa
open Go.RowKit
theorem quoF_mem {T S : Int} {x : Quo} : ∀ {l : List Int} {k : Nat} (_ : x ∈ quoF T S k l), ∃ (i : Nat) (h : i < l.length), x = ⟨(k + i : Nat), T * l[i] / S, T * l[i] % S⟩
  | [], k, h => by simp [quoF] at h
  | y :: t, k, h => by
    simp only [quoF, List.mem_cons] at h
    rcases h with rfl | h
    · exact ⟨0, by simp, by simp⟩
    · obtain ⟨i, hi, rfl⟩ := quoF_mem h
      exact ⟨i + 1, by simpa using hi, by simp only [List.getElem_cons_succ]; rw [show k + 1 + i = k + (i + 1) from by omega]⟩
theorem quoF_pos (T S : Int) : ∀ (l : List Int) (k : Nat), (quoF T S k l).Pairwise (fun x y => x.pos ≠ y.pos)
  | [], _ => List.Pairwise.nil
  | y :: t, k => by
    refine List.pairwise_cons.2 ⟨fun z hz => ?_, quoF_pos T S t (k + 1)⟩
    obtain ⟨i, hi, rfl⟩ := quoF_mem hz
    show ((k : Nat) : Int) ≠ ((k + 1 + i : Nat) : Int)
    omega
theorem pos_take {S : Int} (hS : 0 < S) : ∀ (R : Nat) (L : List Quo) (_ : L.Pairwise (fun x y => aheadQ x y = true)) (_ : ∀ x ∈ L, 0 ≤ x.left ∧ x.left < S) (_ : (R : Int) * S ≤ (L.map (·.left)).sum), (∀ x ∈ L.take R, 0 < x.left) ∧ R ≤ L.length
  | 0, L, _, _, _ => by simp
  | R + 1, [], _, _, h => by
    exfalso
    simp only [List.map_nil, List.sum_nil] at h
    have : 0 < ((R + 1 : Nat) : Int) * S := Int.mul_pos (by omega) hS
    omega
  | R + 1, x :: t, h1, h2, h => by
    rw [List.pairwise_cons] at h1
    simp only [List.map_cons, List.sum_cons] at h
    have hx := h2 x (by simp)
    have he : ((R + 1 : Nat) : Int) * S = (R : Int) * S + S := by rw [show ((R + 1 : Nat) : Int) = (R : Int) + 1 from by omega, Int.add_mul]; omega
    obtain ⟨i1, i2⟩ := pos_take hS R t h1.2 (fun y hy => h2 y (by simp [hy])) (by omega)
    refine ⟨fun y hy => ?_, by simp; omega⟩
    rw [List.take_succ_cons] at hy
    rcases List.mem_cons.1 hy with rfl | hy
    · rcases Int.lt_or_eq_of_le hx.1 with h0 | h0
      · exact h0
      · exfalso
        have hz : (t.map (·.left)).sum ≤ 0 := by
          have : ∀ (m : List Quo), (∀ z ∈ m, z.left ≤ 0) → (m.map (·.left)).sum ≤ 0 := by
            intro m
            induction m with
            | nil => simp
            | cons a m ih => intro hm; have := ih (fun z hz => hm z (by simp [hz])); have := hm a (by simp); simp only [List.map_cons, List.sum_cons]; omega
          exact this t fun z hz => by have := aheadQ_iff.1 (h1.1 z hz); omega
        have : 0 ≤ (R : Int) * S := Int.mul_nonneg (by omega) (by omega)
        omega
    · exact i1 y hy
theorem perm_sum {a b : List Int} (h : a.Perm b) : a.sum = b.sum := by
  induction h with
  | nil => rfl
  | cons x _ ih => simp only [List.sum_cons]; omega
  | swap x y l => simp only [List.sum_cons]; omega
  | trans _ _ i1 i2 => omega
/-- How many get one more. -/
def restN (T S : Int) (l : List Int) : Nat := (T - (partL T S l).sum).toNat
theorem rest_is {T S : Int} {l : List Int} (_hT : 0 ≤ T) (hS : 0 < S) (hs : l.sum = S) : 0 ≤ T - (partL T S l).sum ∧ (restN T S l : Int) = T - (partL T S l).sum ∧ (restN T S l : Int) * S = (leftL T S l).sum := by
  have h1 := quoF_all T S l
  rw [hs] at h1
  have h2 := sum_nonneg' fun z hz => (leftL_bound hS T l z hz).1
  have h3 : (T - (partL T S l).sum) * S = (leftL T S l).sum := by rw [Int.sub_mul]; omega
  have h4 : 0 ≤ T - (partL T S l).sum := by
    rcases (show T - (partL T S l).sum < 0 ∨ 0 ≤ T - (partL T S l).sum by omega) with h | h
    · have := Int.mul_neg_of_neg_of_pos h hS
      omega
    · exact h
  have h5 : (restN T S l : Int) = T - (partL T S l).sum := by unfold restN; omega
  exact ⟨h4, h5, by rw [h5]; exact h3⟩
/-- The parts, as the document finds them. -/
def spR (T S : Int) (l : List Int) : List Int := refGive (restN T S l) (partL T S l) (leftL T S l)
theorem perm_facts {T S : Int} {l : List Int} {L : List Quo} (hS : 0 < S) (hp : L.Perm (quoF T S 0 l)) (hsum : (restN T S l : Int) * S = (leftL T S l).sum) (hs : L.Pairwise (fun x y => aheadQ x y = true)) :
    L.Pairwise (fun x y => x.pos ≠ y.pos) ∧ (∀ x ∈ L, ∃ (i : Nat) (h : i < l.length), x = ⟨i, T * l[i] / S, T * l[i] % S⟩) ∧ (∀ x ∈ L.take (restN T S l), 0 < x.left) ∧ restN T S l ≤ L.length := by
  have hm : ∀ x ∈ L, ∃ (i : Nat) (h : i < l.length), x = ⟨i, T * l[i] / S, T * l[i] % S⟩ := fun x hx => by
    obtain ⟨i, h, e⟩ := quoF_mem (hp.mem_iff.1 hx)
    exact ⟨i, h, by simpa using e⟩
  have hsm : (L.map (·.left)).sum = (leftL T S l).sum := by
    rw [perm_sum (hp.map (·.left))]
    exact (quoF_sums T S l 0).1
  obtain ⟨h1, h2⟩ := pos_take hS (restN T S l) L hs (fun x hx => by
    obtain ⟨i, h, rfl⟩ := hm x hx
    exact ⟨Int.emod_nonneg _ (by omega), Int.emod_lt_of_pos _ hS⟩) (by rw [hsm, hsum]; exact Int.le_refl _)
  exact ⟨hp.symm.pairwise (quoF_pos T S l 0) (fun h => fun e => h e.symm), hm, h1, h2⟩
theorem split_is {T S : Int} {l : List Int} {L : List Quo} (hT : 0 ≤ T) (hS : 0 < S) (hsl : l.sum = S) (hp : L.Perm (quoF T S 0 l)) (hs : L.Pairwise (fun x y => aheadQ x y = true)) :
    give (partL T S l) (L.take (restN T S l)) = spR T S l := by
  obtain ⟨_, _, h3⟩ := rest_is hT hS hsl
  obtain ⟨f1, f2, f3, f4⟩ := perm_facts hS hp h3 hs
  unfold spR
  refine (give_eq _ L _ _ hs f1 (fun x hx => ?_) (fun i hi => ?_) f3 f4).symm
  · obtain ⟨i, h, rfl⟩ := f2 x hx
    refine ⟨by show (0 : Int) ≤ (i : Int); omega, ?_, ?_⟩
    · show ((i : Int)).toNat < (leftL T S l).length
      unfold leftL; rw [List.length_map]; simpa using h
    · show (leftL T S l).getD ((i : Int)).toNat 0 = T * l[i] % S
      unfold leftL
      rw [List.getD_eq_getElem?_getD, Int.toNat_natCast, List.getElem?_map, List.getElem?_eq_getElem h]; rfl
  · left
    have hil : i < l.length := by unfold leftL at hi; simpa using hi
    have := quoF_get T S l 0 i hil
    exact ⟨_, hp.mem_iff.2 (List.mem_of_getElem? this), by simp⟩
end Go.Proofs.Ytenehpcliajdnaa
