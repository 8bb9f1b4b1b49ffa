/- Vectors: plain laws. -/
import Derived.Test.YtffmljkpbgohkaaVecAdds
import Derived.Test.YtffmljkpbgohkaaVec3
namespace Go.Proofs.Ytffmljkpbgohkaa
open Go.RowKit
theorem isF_cons {a : Int} {x : Leg} {l : List Leg} : isF a (x :: l) = true ↔ a < x.inst ∧ x.inst ≤ 8 ∧ x.qty ≠ 0 ∧ isF x.inst l = true := by
  simp [isF, and_assoc]
theorem getF_low : ∀ {l : List Leg} {a i : Int}, isF a l = true → i ≤ a → getF i l = 0
  | [], _, _, _, _ => rfl
  | x :: l, a, i, h, hi => by
    obtain ⟨h1, _, _, h4⟩ := isF_cons.1 h
    rw [getF, if_neg (by omega)]
    exact getF_low h4 (by omega)
theorem vec_ext : ∀ {l m : List Leg} {a : Int}, isF a l = true → isF a m = true → (∀ i, a < i → i ≤ 8 → getF i l = getF i m) → l = m
  | [], [], _, _, _, _ => rfl
  | [], y :: m, a, _, hm, h => by
    obtain ⟨h1, h2, h3, _⟩ := isF_cons.1 hm
    have := h y.inst h1 h2
    simp [getF] at this
    exact absurd this.symm h3
  | x :: l, [], a, hl, _, h => by
    obtain ⟨h1, h2, h3, _⟩ := isF_cons.1 hl
    have := h x.inst h1 h2
    simp [getF] at this
    exact absurd this h3
  | x :: l, y :: m, a, hl, hm, h => by
    obtain ⟨a1, a2, a3, a4⟩ := isF_cons.1 hl
    obtain ⟨b1, b2, b3, b4⟩ := isF_cons.1 hm
    rcases Int.lt_trichotomy x.inst y.inst with h1 | h1 | h1
    · have := h x.inst a1 a2
      rw [getF, if_pos rfl, getF, if_neg (by omega), getF_low b4 (by omega)] at this
      exact absurd this a3
    · have hq := h x.inst a1 a2
      rw [getF, if_pos rfl, getF, if_pos h1.symm] at hq
      have hxy : x = y := by cases x; cases y; simp_all
      subst hxy
      congr 1
      refine vec_ext (a := x.inst) a4 b4 fun i h2 h3 => ?_
      have := h i (by omega) h3
      rwa [getF, if_neg (by omega), getF, if_neg (by omega)] at this
    · have := h y.inst b1 b2
      rw [getF, if_neg (by omega), getF_low a4 (by omega), getF, if_pos rfl] at this
      exact absurd this.symm b3
theorem isF_snoc : ∀ {l : List Leg} {a : Int} {x : Leg}, isF a l = true → (∀ y ∈ l, y.inst < x.inst) → a < x.inst → x.inst ≤ 8 → x.qty ≠ 0 → isF a (l ++ [x]) = true
  | [], a, x, _, _, h1, h2, h3 => by simp [isF, h1, h2, h3]
  | y :: l, a, x, h, hy, h1, h2, h3 => by
    obtain ⟨a1, a2, a3, a4⟩ := isF_cons.1 h
    rw [List.cons_append, isF_cons]
    exact ⟨a1, a2, a3, isF_snoc a4 (fun z hz => hy z (by simp [hz])) (hy y (by simp)) h2 h3⟩
theorem sumsL_le (f : Int → Int) : ∀ n, ∀ y ∈ sumsL f n, 1 ≤ y.inst ∧ y.inst ≤ n
  | 0, y, h => by simp [sumsL] at h
  | n + 1, y, h => by
    simp only [sumsL, List.mem_append] at h
    rcases h with h | h
    · have := sumsL_le f n y h; omega
    · split at h
      · simp at h
      · simp at h; subst h; simp; omega
theorem sumsL_is (f : Int → Int) : ∀ n : Nat, n ≤ 8 → isF 0 (sumsL f n) = true
  | 0, _ => rfl
  | n + 1, h => by
    have ih := sumsL_is f n (by omega)
    simp only [sumsL]
    split
    · simpa using ih
    · exact isF_snoc ih (fun y hy => by have := sumsL_le f n y hy; simp; omega) (by show (0 : Int) < (n : Int) + 1; omega) (by show (n : Int) + 1 ≤ 8; omega) (by simpa)
theorem getF_snoc {l : List Leg} {x : Leg} {i : Int} (h : x.inst ≠ i) : getF i (l ++ [x]) = getF i l := by
  induction l with
  | nil => simp [getF, h]
  | cons y l ih => simp only [List.cons_append, getF, ih]
theorem getF_none {l : List Leg} {i : Int} (h : ∀ y ∈ l, y.inst ≠ i) : getF i l = 0 := by
  induction l with
  | nil => rfl
  | cons y l ih => rw [getF, if_neg (h y (by simp)), ih fun z hz => h z (by simp [hz])]
theorem getF_last {l : List Leg} {x : Leg} (h : ∀ y ∈ l, y.inst ≠ x.inst) : getF x.inst (l ++ [x]) = x.qty := by
  induction l with
  | nil => simp [getF]
  | cons y l ih => rw [List.cons_append, getF, if_neg (h y (by simp)), ih fun z hz => h z (by simp [hz])]
theorem getF_sums (f : Int → Int) (i : Int) (h1 : 1 ≤ i) : ∀ n : Nat, i ≤ n → getF i (sumsL f n) = f i
  | 0, h => by omega
  | n + 1, h => by
    simp only [sumsL]
    by_cases hi : i = (n : Int) + 1
    · subst hi
      have hne : ∀ y ∈ sumsL f n, y.inst ≠ (n : Int) + 1 := fun y hy => by have := sumsL_le f n y hy; omega
      split
      · rename_i h0; rw [List.append_nil, getF_none hne, h0]
      · exact getF_last (x := ⟨(n : Int) + 1, f ((n : Int) + 1)⟩) hne
    · have ih := getF_sums f i h1 n (by omega)
      split
      · rw [List.append_nil]; exact ih
      · rw [getF_snoc (by simp; omega)]; exact ih
theorem isV_addL (ls : List (List Leg)) : isV (addL ls) = true := by
  unfold addL vecL
  split
  · split
    · exact sumsL_is _ 8 (Nat.le_refl _)
    · rfl
  · rfl
theorem addL_no {ls : List (List Leg)} (h : (addC ls == 0) = false) : addL ls = [] := by
  unfold addC vecC at h
  unfold addL vecL
  split
  · rename_i h1
    rw [if_pos h1] at h
    split
    · rename_i h2; rw [if_pos h2] at h; simp at h
    · rfl
  · rfl
theorem sumG_comm (a b : List Leg) : sumG [a, b] = sumG [b, a] := by
  funext i; unfold sumG; simp; omega
theorem allV_comm (a b : List Leg) : allV [a, b] = allV [b, a] := by unfold allV; simp [Bool.and_comm]
theorem addC_comm (a b : List Leg) : addC [a, b] = addC [b, a] := by unfold addC; rw [sumG_comm, allV_comm]
theorem addL_comm (a b : List Leg) : addL [a, b] = addL [b, a] := by unfold addL; rw [sumG_comm, allV_comm]
theorem isF_neg : ∀ {l : List Leg} {a : Int}, isF a l = true → isF a (negR l) = true
  | [], _, _ => rfl
  | x :: l, a, h => by
    obtain ⟨h1, h2, h3, h4⟩ := isF_cons.1 h
    show isF a (⟨x.inst, 0 - x.qty⟩ :: negR l) = true
    rw [isF_cons]
    exact ⟨h1, h2, by simp; omega, isF_neg h4⟩
theorem getF_neg (i : Int) : ∀ l : List Leg, getF i (negR l) = - getF i l
  | [] => rfl
  | x :: l => by
    show getF i (⟨x.inst, 0 - x.qty⟩ :: negR l) = _
    simp only [getF]
    split
    · omega
    · exact getF_neg i l
theorem fit_iff {f : Int → Int} : ∀ {n : Nat}, fitN f n = true ↔ ∀ i : Int, 1 ≤ i → i ≤ n → In64 (f i)
  | 0 => by simp [fitN]; intro i h1 h2; omega
  | n + 1 => by
    simp only [fitN, Bool.and_eq_true]
    rw [fit_iff (n := n), in64_iff]
    constructor
    · rintro ⟨h1, h2⟩ i hi1 hi2
      by_cases h : i < (n : Int) + 1
      · exact h1 i hi1 (by omega)
      · have : i = (n : Int) + 1 := by omega
        subst this; exact h2
    · intro h
      exact ⟨fun i h1 h2 => h i h1 (by omega), h _ (by omega) (by omega)⟩
theorem getF_mem {l : List Leg} {i : Int} : getF i l = 0 ∨ ∃ x ∈ l, x.inst = i ∧ getF i l = x.qty := by
  induction l with
  | nil => left; rfl
  | cons x l ih =>
    simp only [getF]
    split
    · right; exact ⟨x, by simp, by assumption, rfl⟩
    · rcases ih with h | ⟨y, hy, h1, h2⟩
      · left; exact h
      · right; exact ⟨y, by simp [hy], h1, h2⟩
theorem getF_of_mem : ∀ {l : List Leg} {a : Int} {x : Leg}, isF a l = true → x ∈ l → getF x.inst l = x.qty ∧ a < x.inst ∧ x.inst ≤ 8
  | [], _, _, _, h => by cases h
  | y :: l, a, x, h, hx => by
    obtain ⟨h1, h2, h3, h4⟩ := isF_cons.1 h
    rcases List.mem_cons.1 hx with rfl | hx
    · exact ⟨by rw [getF, if_pos rfl], h1, h2⟩
    · obtain ⟨k1, k2, k3⟩ := getF_of_mem h4 hx
      exact ⟨by rw [getF, if_neg (by omega)]; exact k1, by omega, k3⟩
theorem fit_neg {l : List Leg} (hv : isV l = true) : fitN (fun i => - getF i l) 8 = l.all (fun x => in64 (0 - x.qty)) := by
  rw [Bool.eq_iff_iff, fit_iff, List.all_eq_true]
  constructor
  · intro h x hx
    obtain ⟨h1, h2, h3⟩ := getF_of_mem hv hx
    have := h x.inst (by omega) (by omega)
    rw [h1] at this
    rw [in64_iff]
    have e : 0 - x.qty = - x.qty := by omega
    rw [e]; exact this
  · intro h i _ _
    rcases getF_mem (l := l) (i := i) with h1 | ⟨x, hx, _, h1⟩
    · rw [h1]; simp [In64]
    · rw [h1]
      have := in64_iff.1 (h x hx)
      have e : 0 - x.qty = - x.qty := by omega
      rw [← e]; exact this
theorem sums_neg {l : List Leg} (hv : isV l = true) : sumsL (fun i => - getF i l) 8 = negR l :=
  vec_ext (a := 0) (sumsL_is _ 8 (Nat.le_refl _)) (isF_neg hv) fun i h1 h2 => by rw [getF_sums _ i (by omega) 8 (by omega), getF_neg]
theorem negC_ref (l : List Leg) : (if isV l then vecC (fun i => - getF i l) else 3) = negC l := by
  unfold negC vecC
  cases hv : isV l
  · rfl
  · rw [fit_neg hv]
theorem negL_ref (l : List Leg) : (if isV l then vecL (fun i => - getF i l) else []) = negL l := by
  unfold negL vecL
  cases hv : isV l
  · rfl
  · rw [fit_neg hv, sums_neg hv]
theorem negL_len (l : List Leg) : (negL l).length ≤ l.length := by
  unfold negL negR
  split
  · split <;> simp
  · simp
theorem neg64 {l : List Leg} : Legs64 (negL l) := by
  unfold negL
  split
  · split
    · rename_i h
      intro x hx
      unfold negR at hx
      obtain ⟨y, hy, rfl⟩ := List.mem_map.1 hx
      exact in64_iff.1 (List.all_eq_true.1 h y hy)
    · intro x hx; cases hx
  · intro x hx; cases hx
/-- What a vector that can be turned is with its other side. -/
theorem neg_ok {l : List Leg} (h : (negC l == 0) = true) : isV l = true ∧ negL l = negR l ∧ isV (negR l) = true ∧ addC [l, negR l] = 0 ∧ addL [l, negR l] = [] := by
  have h0 : negC l = 0 := by simpa using h
  unfold negC at h0
  cases hv : isV l
  · rw [hv] at h0; cases h0
  rw [hv] at h0
  cases ha : l.all (fun x => in64 (0 - x.qty))
  · rw [ha] at h0; cases h0
  have hn : isV (negR l) = true := isF_neg hv
  have hal : allV [l, negR l] = true := by unfold allV; simp [hv, hn]
  have hs : sumG [l, negR l] = fun _ => 0 := by
    funext i; unfold sumG; simp [getF_neg]; omega
  have hf : fitN (fun _ => (0 : Int)) 8 = true := by decide
  have hl : sumsL (fun _ => (0 : Int)) 8 = [] := by decide
  refine ⟨rfl, by unfold negL; rw [hv, ha]; rfl, hn, ?_, ?_⟩
  · unfold addC vecC; rw [hal, hs, hf]; rfl
  · unfold addL vecL; rw [hal, hs, hf, hl]; rfl
theorem neg_no {l : List Leg} (h : (negC l == 0) = false) : negL l = [] := by
  unfold negC at h
  unfold negL
  split
  · rename_i h1
    rw [if_pos h1] at h
    split
    · rename_i h2; rw [if_pos h2] at h; simp at h
    · rfl
  · rfl
theorem neg_same {l : List Leg} (h : isV l = true) : decide (l = negR l) = ((l.length : Int) == 0) := by
  cases l with
  | nil => rfl
  | cons x l =>
    obtain ⟨_, _, h3, _⟩ := isF_cons.1 h
    have h1 : ¬ (x :: l = negR (x :: l)) := by
      intro e
      have : x :: l = ⟨x.inst, 0 - x.qty⟩ :: negR l := e
      injection this with e1 _
      have := congrArg Leg.qty e1
      simp only [] at this
      omega
    rw [decide_eq_false h1]
    symm
    rw [beq_eq_false_iff_ne]
    simp; omega
end Go.Proofs.Ytffmljkpbgohkaa
