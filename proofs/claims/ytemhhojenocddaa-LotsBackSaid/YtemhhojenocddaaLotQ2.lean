/- Lots, plain: put and taken is as before; joined there is what there was; drawn and left are all. -/
import Derived.Test.YtemhhojenocddaaLotP
import Derived.Test.YtemhhojenocddaaLotL3
namespace Go.Proofs.Ytemhhojenocddaa
open Go.RowKit
/-- How much there is of all lots whose asset and tag pass. -/
def wt (f : Int → Int → Bool) : List Lot → Int
  | [] => 0
  | y :: t => (if f y.asset y.tag = true then y.qty else 0) + wt f t
def keyF (a t : Int) : Int → Int → Bool := fun x y => x == a && y == t
theorem wt_append (f : Int → Int → Bool) : ∀ (l m : List Lot), wt f (l ++ m) = wt f l + wt f m
  | [], m => by simp [wt]
  | y :: t, m => by rw [List.cons_append]; simp only [wt]; rw [wt_append f t m]; omega
theorem wt_nonneg (f : Int → Int → Bool) : ∀ {l : List Lot} (_ : ∀ z ∈ l, rightL z = true), 0 ≤ wt f l
  | [], _ => by simp [wt]
  | y :: t, h => by
    have h1 := wt_nonneg f (l := t) fun z hz => h z (by simp [hz])
    have h2 := (rightL_iff.1 (h y (by simp))).2.2.2.2
    unfold wt; split <;> omega
theorem sumL_wt (a : Int) : ∀ (l : List Lot), sumL l a = wt (fun x _ => x == a) l
  | [] => rfl
  | y :: t => by
    have h := sumL_wt a t
    unfold sumL qtyL at h ⊢
    unfold wt
    rw [List.filter_cons]
    cases hq : y.asset == a
    · rw [if_neg (by simp), if_neg (by simp)]; omega
    · rw [if_pos rfl, if_pos rfl, List.map_cons, List.sum_cons]; omega
theorem get_none {t : List Lot} {a b : Int} (h : ∀ z ∈ t, (z.asset == a && z.tag == b) = false) : getL t a b = 0 := by
  have : t.find? (fun z => z.asset == a && z.tag == b) = none := by
    rw [List.find?_eq_none]
    intro z hz
    rw [h z hz]; simp
  unfold getL; rw [this]
theorem get_cons (y : Lot) (t : List Lot) (a b : Int) : getL (y :: t) a b = if (y.asset == a && y.tag == b) = true then y.qty else getL t a b := by
  unfold getL
  rw [List.find?_cons]
  cases h : (y.asset == a && y.tag == b) <;> simp
theorem gt_keys {y z : Lot} (h : ltL y z = true) : (z.asset == y.asset && z.tag == y.tag) = false := by
  rw [keys_eq]; exact gt_ne h
theorem key_of {y : Lot} {a b : Int} (h : (y.asset == a && y.tag == b) = true) : y.asset = a ∧ y.tag = b := by simpa using h
theorem get_wt {a b : Int} : ∀ {l : List Lot} (_ : SortL l), getL l a b = wt (keyF a b) l
  | [], _ => rfl
  | y :: t, hs => by
    unfold SortL at hs
    rw [List.pairwise_cons] at hs
    have ih := get_wt (a := a) (b := b) (l := t) hs.2
    rw [get_cons]
    unfold wt
    rw [← ih]
    unfold keyF
    cases h : (y.asset == a && y.tag == b)
    · simp
    · obtain ⟨rfl, rfl⟩ := key_of h
      rw [if_pos rfl, if_pos rfl, get_none fun z hz => gt_keys (hs.1 z hz)]; omega
theorem get_pos {l : List Lot} {a b : Int} (hr : ∀ z ∈ l, rightL z = true) (h : ∃ z ∈ l, z.asset = a ∧ z.tag = b) : 0 < getL l a b := by
  obtain ⟨z, hz, rfl, rfl⟩ := h
  unfold getL
  cases hf : l.find? (fun x => x.asset == z.asset && x.tag == z.tag) with
  | none => exact absurd (List.find?_eq_none.1 hf z hz) (by simp)
  | some y => exact (rightL_iff.1 (hr y (List.mem_of_find?_eq_some hf))).2.2.2.2
theorem get_mem {l : List Lot} {a b : Int} (h : 0 < getL l a b) : ∃ z ∈ l, z.asset = a ∧ z.tag = b := by
  unfold getL at h
  cases hf : l.find? (fun x => x.asset == a && x.tag == b) with
  | none => rw [hf] at h; simp at h
  | some y => exact ⟨y, List.mem_of_find?_eq_some hf, key_of (y := y) (by have := List.find?_some hf; exact this)⟩
theorem get_nonneg {l : List Lot} (hr : ∀ z ∈ l, rightL z = true) (a b : Int) : 0 ≤ getL l a b := by
  unfold getL
  cases hf : l.find? (fun x => x.asset == a && x.tag == b) with
  | none => exact Int.le_refl 0
  | some y => have := (rightL_iff.1 (hr y (List.mem_of_find?_eq_some hf))).2.2.2.2; show 0 ≤ y.qty; omega
theorem lt_tri {x y : Lot} : ltL x y = true ∨ ltL y x = true ∨ (x.asset = y.asset ∧ x.tag = y.tag) := by
  rw [ltL_iff, ltL_iff]; omega
theorem isR_of : ∀ {l : List Lot} {p : Option Lot} (_ : SortL l) (_ : ∀ x ∈ l, rightL x = true) (_ : ∀ q, p = some q → ∀ x ∈ l, ltL q x = true), isR p l = true
  | [], none, _, _, _ => rfl
  | [], some _, _, _, _ => rfl
  | x :: t, p, hs, hr, hp => by
    unfold SortL at hs
    rw [List.pairwise_cons] at hs
    have ih := isR_of (l := t) (p := some x) hs.2 (fun y hy => hr y (by simp [hy])) (fun q hq => by injection hq with e; subst e; exact hs.1)
    have h1 := hr x (by simp)
    cases p with
    | none => unfold isR; rw [h1, ih]; rfl
    | some q => unfold isR; rw [h1, ih, hp q rfl x (by simp)]; rfl
theorem isL_of {l : List Lot} (hs : SortL l) (hr : ∀ x ∈ l, rightL x = true) (h : l.length ≤ 16) : isL l = true := by
  unfold isL
  rw [isR_of hs hr (fun q hq => by cases hq), Bool.true_and, decide_eq_true_eq]
  exact h
/-- Two rows that rise and have the same of each lot are one. -/
theorem get_ext : ∀ {l m : List Lot} (_ : SortL l) (_ : SortL m) (_ : ∀ x ∈ l, rightL x = true) (_ : ∀ x ∈ m, rightL x = true) (_ : ∀ a b, getL l a b = getL m a b), l = m
  | [], [], _, _, _, _, _ => rfl
  | [], y :: t, _, _, _, hm, h => by
    have := get_pos hm ⟨y, by simp, rfl, rfl⟩
    rw [← h] at this
    exact absurd this (by show ¬ 0 < (0 : Int); omega)
  | y :: t, [], _, _, hl, _, h => by
    have := get_pos hl ⟨y, by simp, rfl, rfl⟩
    rw [h] at this
    exact absurd this (by show ¬ 0 < (0 : Int); omega)
  | x :: s, y :: t, h1, h2, hl, hm, h => by
    unfold SortL at h1 h2
    rw [List.pairwise_cons] at h1 h2
    have hk : x.asset = y.asset ∧ x.tag = y.tag := by
      rcases lt_tri (x := x) (y := y) with k | k | k
      · have := get_pos hl ⟨x, by simp, rfl, rfl⟩
        rw [h, get_none] at this
        · omega
        · intro z hz
          rcases List.mem_cons.1 hz with rfl | hz
          · exact gt_keys k
          · exact gt_keys (ltL_trans k (h2.1 z hz))
      · have := get_pos hm ⟨y, by simp, rfl, rfl⟩
        rw [← h, get_none] at this
        · omega
        · intro z hz
          rcases List.mem_cons.1 hz with rfl | hz
          · exact gt_keys k
          · exact gt_keys (ltL_trans k (h1.1 z hz))
      · exact k
    have hq : x.qty = y.qty := by
      have := h x.asset x.tag
      rw [get_cons, get_cons, if_pos (by simp), if_pos (by rw [hk.1, hk.2]; simp)] at this
      exact this
    have hxy : x = y := by
      obtain ⟨xa, xt, xq⟩ := x
      obtain ⟨ya, yt, yq⟩ := y
      simp only at hk hq
      rw [hk.1, hk.2, hq]
    subst hxy
    congr 1
    refine get_ext h1.2 h2.2 (fun z hz => hl z (by simp [hz])) (fun z hz => hm z (by simp [hz])) fun a b => ?_
    have := h a b
    rw [get_cons, get_cons] at this
    cases hc : (x.asset == a && x.tag == b)
    · rw [hc] at this; simpa using this
    · obtain ⟨rfl, rfl⟩ := key_of hc
      rw [get_none fun z hz => gt_keys (h1.1 z hz), get_none fun z hz => gt_keys (h2.1 z hz)]
theorem sub_len : ∀ {m l : List Lot} (_ : SortL l) (_ : SortL m) (_ : ∀ x ∈ l, ∃ y ∈ m, y.asset = x.asset ∧ y.tag = x.tag), l.length ≤ m.length
  | [], [], _, _, _ => Nat.le_refl _
  | [], x :: s, _, _, h => by obtain ⟨y, hy, _⟩ := h x (by simp); cases hy
  | y :: t, [], _, _, _ => by simp
  | y :: t, x :: s, h1, h2, h => by
    have h1' := h1
    unfold SortL at h1 h2
    rw [List.pairwise_cons] at h1 h2
    rcases lt_tri (x := x) (y := y) with k | k | k
    · obtain ⟨z, hz, e1, e2⟩ := h x (by simp)
      rw [ltL_iff] at k
      rcases List.mem_cons.1 hz with rfl | hz
      · exfalso; omega
      · have := h2.1 z hz
        rw [ltL_iff] at this
        exfalso; omega
    · have := sub_len (m := t) (l := x :: s) h1' h2.2 fun z hz => by
        obtain ⟨u, hu, e1, e2⟩ := h z hz
        rcases List.mem_cons.1 hu with rfl | hu
        · have hyz : ltL u z = true := by
            rcases List.mem_cons.1 hz with rfl | hz
            · exact k
            · exact ltL_trans k (h1.1 z hz)
          rw [ltL_iff] at hyz
          exfalso; omega
        · exact ⟨u, hu, e1, e2⟩
      simp only [List.length_cons] at this ⊢
      omega
    · have := sub_len (m := t) (l := s) h1.2 h2.2 fun z hz => by
        obtain ⟨u, hu, e1, e2⟩ := h z (by simp [hz])
        rcases List.mem_cons.1 hu with rfl | hu
        · have hxz := h1.1 z hz
          rw [ltL_iff] at hxz
          exfalso; omega
        · exact ⟨u, hu, e1, e2⟩
      simp only [List.length_cons]
      omega
theorem setG_mem {x : Lot} : ∀ {l : List Lot} {done : Bool} {z : Lot} (_ : z ∈ setG x done l), (z = x ∧ done = false) ∨ z ∈ l
  | [], done, z, h => by
    unfold setG at h
    cases done
    · exact .inl ⟨by simpa using h, rfl⟩
    · simp at h
  | y :: t, done, z, h => by
    unfold setG at h
    rcases List.mem_append.1 h with h | h
    · split at h
      · rename_i hc
        refine .inl ⟨by simpa using h, ?_⟩
        cases done
        · rfl
        · simp at hc
      · simp at h
    · rcases List.mem_append.1 h with h | h
      · split at h
        · simp at h
        · exact .inr (by simp at h; simp [h])
      · rcases setG_mem h with ⟨rfl, h⟩ | h
        · refine .inl ⟨rfl, ?_⟩
          cases done
          · rfl
          · simp at h
        · exact .inr (by simp [h])
theorem setG_sort {x : Lot} : ∀ {l : List Lot} {done : Bool} (_ : SortL l), SortL (setG x done l)
  | [], done, _ => by
    unfold setG SortL
    cases done <;> simp
  | y :: t, done, hs => by
    have hs' := hs
    unfold SortL at hs
    rw [List.pairwise_cons] at hs
    cases h : ltL y x
    · have hid : setG x true t = t := setG_id (fun z hz => gt_ne (ge_lt h (hs.1 z hz)))
      have hxt : ∀ z ∈ t, ltL x z = true := fun z hz => ge_lt h (hs.1 z hz)
      cases he : eqL y x
      · have hxy : ltL x y = true := by
          rcases lt_tri (x := x) (y := y) with k | k | k
          · exact k
          · rw [k] at h; cases h
          · rw [eqL_iff.2 ⟨k.1.symm, k.2.symm⟩] at he; cases he
        cases done
        · have : setG x false (y :: t) = x :: y :: t := by simp [setG, keys_eq, h, he, hid]
          rw [this]
          unfold SortL
          refine List.pairwise_cons.2 ⟨fun z hz => ?_, List.pairwise_cons.2 hs⟩
          rcases List.mem_cons.1 hz with rfl | hz
          · exact hxy
          · exact hxt z hz
        · have : setG x true (y :: t) = y :: t := by simp [setG, keys_eq, h, he, hid]
          rw [this]; exact hs'
      · cases done
        · have : setG x false (y :: t) = x :: t := by simp [setG, keys_eq, h, he, hid]
          rw [this]
          exact List.pairwise_cons.2 ⟨hxt, hs.2⟩
        · have : setG x true (y :: t) = t := by simp [setG, keys_eq, h, he, hid]
          rw [this]; exact hs.2
    · have h1 := lt_ne h
      have ih := setG_sort (x := x) (l := t) (done := done) hs.2
      have : setG x done (y :: t) = y :: setG x done t := by simp [setG, keys_eq, h, h1]
      rw [this]
      refine List.pairwise_cons.2 ⟨fun z hz => ?_, ih⟩
      rcases setG_mem hz with ⟨rfl, _⟩ | hz
      · exact h
      · exact hs.1 z hz
theorem setG_wt (f : Int → Int → Bool) {x : Lot} : ∀ {l : List Lot} {done : Bool} (_ : SortL l), wt f (setG x done l) = wt f l + (if f x.asset x.tag = true then (if done = true then 0 else x.qty) - getL l x.asset x.tag else 0)
  | [], done, _ => by
    unfold setG getL
    cases done <;> simp [wt]
  | y :: t, done, hs => by
    unfold SortL at hs
    rw [List.pairwise_cons] at hs
    rw [get_cons, keys_eq]
    cases h : ltL y x
    · have hid : setG x true t = t := setG_id (fun z hz => gt_ne (ge_lt h (hs.1 z hz)))
      have hn : getL t x.asset x.tag = 0 := get_none fun z hz => gt_keys (ge_lt h (hs.1 z hz))
      rw [hn]
      cases he : eqL y x
      · cases done
        · have : setG x false (y :: t) = x :: y :: t := by simp [setG, keys_eq, h, he, hid]
          rw [this]
          simp only [wt]
          split <;> simp <;> omega
        · have : setG x true (y :: t) = y :: t := by simp [setG, keys_eq, h, he, hid]
          rw [this]
          simp
      · have ⟨k1, k2⟩ := eqL_iff.1 he
        cases done
        · have : setG x false (y :: t) = x :: t := by simp [setG, keys_eq, h, he, hid]
          rw [this]
          simp only [wt]
          rw [k1, k2]
          split <;> simp <;> omega
        · have : setG x true (y :: t) = t := by simp [setG, keys_eq, h, he, hid]
          rw [this]
          simp only [wt]
          rw [k1, k2]
          split <;> simp <;> omega
    · have h1 := lt_ne h
      have ih := setG_wt f (x := x) (l := t) (done := done) hs.2
      have : setG x done (y :: t) = y :: setG x done t := by simp [setG, keys_eq, h, h1]
      rw [this, h1]
      simp only [wt]
      rw [ih]
      simp
      omega
theorem setG_len {l : List Lot} (hs : SortL l) (x : Lot) : (setG x false l).length = l.length + (if thL l x = true then 0 else 1) := by
  rw [setG_false hs]
  have := plL_le l x
  cases h : thL l x
  · simp; omega
  · have := thL_lt h
    simp; omega
theorem put_zero {l : List Lot} {x : Lot} (h : putLC l x = 0) : isL l = true ∧ rightL x = true := by
  unfold putLC at h
  by_cases hc : codeL l x = 0
  · unfold codeL at hc
    cases h1 : isL l
    · rw [h1] at hc; simp at hc
    · cases h2 : rightL x
      · rw [h1, h2] at hc; simp at hc
      · exact ⟨rfl, rfl⟩
  · rw [if_neg hc] at h; exact absurd h hc
theorem right_with {x : Lot} {q : Int} (h : rightL x = true) (hq : 0 < q) : rightL (withQ x q) = true := by
  have := rightL_iff.1 h
  exact rightL_iff.2 ⟨this.1, this.2.1, this.2.2.1, this.2.2.2.1, hq⟩
theorem in64_l {l : List Lot} (hin : ∀ y ∈ l, In64 y.qty) (a b : Int) : In64 (getL l a b) := getL_in hin a b
/-- What was put makes of lots that may be. -/
theorem put_made {l : List Lot} {x : Lot} (hx : In64 x.qty) (h : putLC l x = 0) :
    isL (putLL l x) = true ∧ (∀ f, wt f (putLL l x) = wt f l + (if f x.asset x.tag = true then x.qty else 0)) ∧ putLL l x = setG (withQ x (getL l x.asset x.tag + x.qty)) false l := by
  obtain ⟨h1, h2⟩ := put_zero h
  obtain ⟨hs, hr, h16⟩ := isL_sort h1
  have hp := put_ref h1 h2 hx
  have he := hp.2 h
  have hg := get_nonneg hr x.asset x.tag
  have hxp := (rightL_iff.1 h2).2.2.2.2
  have hb : ((getL l x.asset x.tag + x.qty) == 0) = false := by rw [beq_eq_false_iff_ne]; omega
  rw [hb] at he
  refine ⟨?_, fun f => ?_, he⟩
  · rw [he]
    refine isL_of (setG_sort hs) (fun z hz => ?_) ?_
    · rcases setG_mem hz with ⟨rfl, _⟩ | hz
      · exact right_with h2 (by omega)
      · exact hr z hz
    · rw [setG_len hs, (pl_with l x _).2]
      cases ht : thL l x
      · have hc := codeL_zero h1 h2
        unfold putLC at h
        rw [if_pos hc, ht, if_neg (by simp)] at h
        by_cases h3 : 16 ≤ l.length
        · rw [if_pos h3] at h; omega
        · simp; omega
      · simp; exact h16
  · rw [he, setG_wt f hs]
    show _ + (if f x.asset x.tag = true then (if false = true then 0 else (getL l x.asset x.tag + x.qty)) - getL l x.asset x.tag else 0) = _
    split <;> simp <;> omega
theorem wt_get {l : List Lot} (h : isL l = true) (a b : Int) : getL l a b = wt (keyF a b) l := get_wt (isL_sort h).1
/-- Put and then taken: as before. -/
theorem put_take {l : List Lot} {x : Lot} (hx : In64 x.qty) (h : putLC l x = 0) : takLC (putLL l x) x = 0 ∧ takLL (putLL l x) x = l := by
  obtain ⟨h1, h2⟩ := put_zero h
  obtain ⟨hs, hr, h16⟩ := isL_sort h1
  obtain ⟨m1, m2, m3⟩ := put_made hx h
  have hg := get_nonneg hr x.asset x.tag
  have hget : getL (putLL l x) x.asset x.tag = getL l x.asset x.tag + x.qty := by
    rw [wt_get m1, m2, wt_get h1]
    simp [keyF]
  obtain ⟨t1, t2⟩ := take_ref m1 h2
  have h0 : takLC (putLL l x) x = 0 := by rw [t1, if_neg (by omega)]
  refine ⟨h0, ?_⟩
  have he := t2 h0
  rw [hget, show getL l x.asset x.tag + x.qty - x.qty = getL l x.asset x.tag by omega] at he
  obtain ⟨ps, pr, _⟩ := isL_sort m1
  have hss : SortL (takLL (putLL l x) x) := by rw [he]; exact setG_sort ps
  refine get_ext hss hs (fun z hz => ?_) hr fun a b => ?_
  · rw [he] at hz
    rcases setG_mem hz with ⟨rfl, hd⟩ | hz
    · exact right_with h2 (by rw [beq_eq_false_iff_ne] at hd; omega)
    · exact pr z hz
  · rw [get_wt hss, he, setG_wt _ ps, m2, ← get_wt hs]
    show _ + (if keyF a b x.asset x.tag = true then (if (getL l x.asset x.tag == 0) = true then 0 else getL l x.asset x.tag) - getL (putLL l x) x.asset x.tag else 0) = _
    rw [hget]
    by_cases hz : getL l x.asset x.tag = 0
    · rw [hz]
      simp only [beq_self_eq_true, if_true]
      split <;> omega
    · rw [show (getL l x.asset x.tag == 0) = false from by simpa using hz]
      simp only [Bool.false_eq_true, if_false]
      split <;> omega
theorem join_bad : ∀ {m out : List Lot}, (joinF out m).2 ≠ 0 → (joinF out m).1 = []
  | [], out, h => by unfold joinF at h; exact absurd rfl h
  | x :: t, out, h => by
    unfold joinF at h ⊢
    by_cases h0 : putLC out x = 0
    · rw [if_pos h0] at h ⊢; exact join_bad h
    · rw [if_neg h0]
theorem join_fwd : ∀ {m out : List Lot} (_ : isL out = true) (_ : ∀ y ∈ out, In64 y.qty) (_ : ∀ y ∈ m, In64 y.qty) (_ : (joinF out m).2 = 0),
    isL (joinF out m).1 = true ∧ (∀ y ∈ (joinF out m).1, In64 y.qty) ∧ (∀ y ∈ m, rightL y = true) ∧ ∀ f, wt f (joinF out m).1 = wt f out + wt f m
  | [], out, h1, hi, _, _ => by
    unfold joinF
    exact ⟨h1, hi, by simp, fun f => by simp [wt]⟩
  | x :: t, out, h1, hi, hm, h => by
    unfold joinF at h ⊢
    by_cases h0 : putLC out x = 0
    · rw [if_pos h0] at h ⊢
      have hx := hm x (by simp)
      obtain ⟨m1, m2, _⟩ := put_made hx h0
      obtain ⟨r1, r2, r3, r4⟩ := join_fwd m1 (putLL_in hi hx) (fun y hy => hm y (by simp [hy])) h
      refine ⟨r1, r2, fun y hy => ?_, fun f => ?_⟩
      · rcases List.mem_cons.1 hy with rfl | hy
        · exact (put_zero h0).2
        · exact r3 y hy
      · rw [r4, m2]
        simp only [wt]
        omega
    · rw [if_neg h0] at h; exact absurd h h0
theorem join_back : ∀ {m out0 out : List Lot} (_ : isL out0 = true) (_ : ∀ y ∈ out0, In64 y.qty) (_ : isL out = true) (_ : ∀ y ∈ out, In64 y.qty) (_ : ∀ y ∈ m, rightL y = true) (_ : ∀ y ∈ m, In64 y.qty)
    (_ : ∀ a b, getL out a b = getL out0 a b + wt (keyF a b) m), joinF out0 m = (out, 0)
  | [], out0, out, h0, _, h1, _, _, _, h => by
    obtain ⟨s0, r0, _⟩ := isL_sort h0
    obtain ⟨s1, r1, _⟩ := isL_sort h1
    unfold joinF
    rw [get_ext s1 s0 r1 r0 fun a b => by rw [h a b]; simp [wt]]
  | x :: t, out0, out, h0, hi0, h1, hi1, hr, hi, h => by
    obtain ⟨s0, r0, l0⟩ := isL_sort h0
    obtain ⟨s1, r1, l1⟩ := isL_sort h1
    have hx := hi x (by simp)
    have hxr := hr x (by simp)
    have hxp := (rightL_iff.1 hxr).2.2.2.2
    have hrt : ∀ y ∈ t, rightL y = true := fun y hy => hr y (by simp [hy])
    have hkx := h x.asset x.tag
    have hgx := get_nonneg r0 x.asset x.tag
    have hwn := wt_nonneg (keyF x.asset x.tag) hrt
    have hwx : wt (keyF x.asset x.tag) (x :: t) = x.qty + wt (keyF x.asset x.tag) t := by simp [wt, keyF]
    rw [hwx] at hkx
    have hg64 := getL_in hi1 x.asset x.tag
    have hin : in64 (getL out0 x.asset x.tag + x.qty) = true := in64_iff.2 (by unfold In64 at hg64 ⊢; omega)
    have hp := put_ref h0 hxr hx
    have hlen : ¬ (getL out0 x.asset x.tag = 0 ∧ out0.length = 16) := by
      rintro ⟨hz, hl⟩
      have hsx : SortL (setG x false out0) := setG_sort s0
      have hth : thL out0 x = false := by
        cases ht : thL out0 x
        · rfl
        · have hg := get_row s0 x
          rw [ht, if_pos rfl, getD_at (thL_lt ht)] at hg
          have := (rightL_iff.1 (r0 _ (List.getElem_mem (thL_lt ht)))).2.2.2.2
          omega
      have := sub_len hsx s1 fun z hz => get_mem (by
        rw [h z.asset z.tag]
        have g0 := get_nonneg r0 z.asset z.tag
        have g1 := wt_nonneg (keyF z.asset z.tag) hr
        rcases setG_mem hz with ⟨rfl, _⟩ | hz
        · rw [hwx]; omega
        · have := get_pos r0 ⟨z, hz, rfl, rfl⟩
          omega)
      rw [setG_len s0, hth] at this
      simp at this
      omega
    have hc : putLC out0 x = 0 := by rw [hp.1, hin, if_neg (by simp), if_neg hlen]
    obtain ⟨m1, m2, _⟩ := put_made hx hc
    unfold joinF
    rw [if_pos hc]
    refine join_back m1 (putLL_in hi0 hx) h1 hi1 hrt (fun y hy => hi y (by simp [hy])) fun a b => ?_
    rw [h, wt_get h0, wt_get m1, m2]
    simp only [wt]
    omega
theorem isL_nil : isL [] = true := rfl
/-- In any order. -/
theorem join_turn {a b : List Lot} (hi : ∀ y ∈ a ++ b, In64 y.qty) (h : (joinF [] (a ++ b)).2 = 0) : joinF [] (b ++ a) = joinF [] (a ++ b) ∧ isL (joinF [] (a ++ b)).1 = true ∧ ∀ i, sumL (joinF [] (a ++ b)).1 i = sumL a i + sumL b i := by
  obtain ⟨f1, f2, f3, f4⟩ := join_fwd isL_nil (fun _ h => by simp at h) hi h
  refine ⟨?_, f1, fun i => ?_⟩
  · have hm : ∀ y, y ∈ b ++ a → y ∈ a ++ b := fun y hy => by
      rcases List.mem_append.1 hy with hy | hy
      · exact List.mem_append.2 (.inr hy)
      · exact List.mem_append.2 (.inl hy)
    rw [join_back isL_nil (fun _ h => by simp at h) f1 f2 (fun y hy => f3 y (hm y hy)) (fun y hy => hi y (hm y hy)) fun a' b' => by
      rw [wt_get f1, f4, wt_append, wt_append, wt_get isL_nil]; simp only [wt]; omega]
    rw [← h]
  · rw [sumL_wt, sumL_wt, sumL_wt, f4, wt_append]
    simp only [wt]; omega
theorem part_le {a q : Int} {y : Lot} (hq : 0 ≤ q) (hy : 0 < y.qty) : 0 ≤ partQ a q y ∧ partQ a q y ≤ y.qty ∧ partQ a q y ≤ q := by
  unfold partQ
  split <;> omega
theorem addQ_mem {y z : Lot} {q : Int} (h : z ∈ addQ y q) : z = withQ y q ∧ q ≠ 0 := by
  unfold addQ at h
  split at h
  · simp at h
  · rename_i hq
    exact ⟨by simpa using h, hq⟩
theorem addQ_wt (f : Int → Int → Bool) (y : Lot) (q : Int) : wt f (addQ y q) = if f y.asset y.tag = true then q else 0 := by
  unfold addQ
  split
  · rename_i hq; rw [hq]; simp [wt]
  · exact Int.add_zero _
theorem sort_addQ {y : Lot} {q : Int} {t : List Lot} (hs : SortL t) (h : ∀ z ∈ t, ltL y z = true) : SortL (addQ y q ++ t) := by
  unfold addQ
  split
  · exact hs
  · exact List.pairwise_cons.2 ⟨fun z hz => h z hz, hs⟩
theorem draw_facts (a : Int) : ∀ {l : List Lot} {q : Int} (_ : SortL l) (_ : ∀ x ∈ l, rightL x = true) (_ : 0 ≤ q),
    (∀ z ∈ (drawG a q l).1, ∃ y ∈ l, z.asset = y.asset ∧ z.tag = y.tag ∧ 0 < z.qty ∧ z.qty ≤ y.qty) ∧ (∀ z ∈ (drawG a q l).2, ∃ y ∈ l, z.asset = y.asset ∧ z.tag = y.tag ∧ 0 < z.qty ∧ z.qty ≤ y.qty) ∧
    SortL (drawG a q l).1 ∧ SortL (drawG a q l).2 ∧ (∀ f, wt f (drawG a q l).1 + wt f (drawG a q l).2 = wt f l) ∧ (q ≤ wt (fun x _ => x == a) l → wt (fun x _ => x == a) (drawG a q l).1 = q)
  | [], q, _, _, hq => by
    unfold drawG SortL
    exact ⟨by simp, by simp, by simp, by simp, fun f => by simp [wt], fun h => by simp only [wt] at h ⊢; omega⟩
  | y :: t, q, hs, hr, hq => by
    unfold SortL at hs
    rw [List.pairwise_cons] at hs
    have hy := (rightL_iff.1 (hr y (by simp))).2.2.2.2
    have hp := part_le (a := a) hq hy
    obtain ⟨i1, i2, i3, i4, i5, i6⟩ := draw_facts a (l := t) (q := q - partQ a q y) hs.2 (fun z hz => hr z (by simp [hz])) (by omega)
    have hlt : ∀ (T : List Lot), (∀ z ∈ T, ∃ y ∈ t, z.asset = y.asset ∧ z.tag = y.tag ∧ 0 < z.qty ∧ z.qty ≤ y.qty) → ∀ z ∈ T, ltL y z = true := fun T hT z hz => by
      obtain ⟨u, hu, e1, e2, _⟩ := hT z hz
      have := hs.1 u hu
      rw [ltL_iff] at this ⊢
      omega
    unfold drawG
    refine ⟨fun z hz => ?_, fun z hz => ?_, sort_addQ i3 (hlt _ i1), sort_addQ i4 (hlt _ i2), fun f => ?_, fun h => ?_⟩
    · rcases List.mem_append.1 hz with hz | hz
      · obtain ⟨rfl, h0⟩ := addQ_mem hz
        exact ⟨y, by simp, rfl, rfl, by show 0 < partQ a q y; omega, hp.2.1⟩
      · obtain ⟨u, hu, hh⟩ := i1 z hz
        exact ⟨u, by simp [hu], hh⟩
    · rcases List.mem_append.1 hz with hz | hz
      · obtain ⟨rfl, h0⟩ := addQ_mem hz
        exact ⟨y, by simp, rfl, rfl, by show 0 < y.qty - partQ a q y; omega, by show y.qty - partQ a q y ≤ y.qty; omega⟩
      · obtain ⟨u, hu, hh⟩ := i2 z hz
        exact ⟨u, by simp [hu], hh⟩
    · show wt f (addQ y (partQ a q y) ++ (drawG a (q - partQ a q y) t).1) + wt f (addQ y (y.qty - partQ a q y) ++ (drawG a (q - partQ a q y) t).2) = _
      rw [wt_append, wt_append, addQ_wt, addQ_wt]
      have := i5 f
      simp only [wt]
      split <;> omega
    · show wt _ (addQ y (partQ a q y) ++ (drawG a (q - partQ a q y) t).1) = q
      rw [wt_append, addQ_wt]
      replace h : q ≤ (if (y.asset == a) = true then y.qty else 0) + wt (fun x _ => x == a) t := h
      show (if (y.asset == a) = true then partQ a q y else 0) + wt (fun x _ => x == a) (drawG a (q - partQ a q y) t).1 = q
      have hwn := wt_nonneg (fun x _ => x == a) (l := t) fun z hz => hr z (by simp [hz])
      cases hya : y.asset == a
      · rw [hya] at h
        simp only [Bool.false_eq_true, if_false] at h ⊢
        have h0 : partQ a q y = 0 := by unfold partQ; rw [hya]; simp
        rw [i6 (by omega)]; omega
      · rw [hya] at h
        simp only [if_true] at h ⊢
        have h0 : partQ a q y = min q y.qty := by unfold partQ; rw [hya]; simp
        rw [i6 (by omega)]; omega
/-- What is drawn and what is left are all there was. -/
theorem draw_back {l : List Lot} {a q : Int} (hi : ∀ y ∈ l, In64 y.qty) (h : drawC l a q = 0) :
    joinF [] (drawT l a q ++ drawR l a q) = (l, 0) ∧ isL (drawT l a q) = true ∧ isL (drawR l a q) = true ∧ sumL (drawT l a q) a = q := by
  have hT : drawT l a q = (drawG a q l).1 := if_pos h
  have hR : drawR l a q = (drawG a q l).2 := if_pos h
  unfold drawC at h
  cases h1 : isL l
  · rw [h1] at h; simp at h
  rw [h1, if_pos rfl] at h
  by_cases h2 : q < 0
  · rw [if_pos h2] at h; omega
  rw [if_neg h2] at h
  by_cases h3 : sumL l a < q
  · rw [if_pos h3] at h; omega
  obtain ⟨hs, hr, h16⟩ := isL_sort h1
  obtain ⟨i1, i2, i3, i4, i5, i6⟩ := draw_facts a (l := l) (q := q) hs hr (by omega)
  have hl := drawG_len a l q
  have hok : ∀ (T : List Lot), (∀ z ∈ T, ∃ y ∈ l, z.asset = y.asset ∧ z.tag = y.tag ∧ 0 < z.qty ∧ z.qty ≤ y.qty) → ∀ z ∈ T, rightL z = true ∧ In64 z.qty := fun T hT z hz => by
    obtain ⟨u, hu, e1, e2, e3, e4⟩ := hT z hz
    have hur := rightL_iff.1 (hr u hu)
    have hui := hi u hu
    refine ⟨rightL_iff.2 ⟨by rw [e1]; exact hur.1, by rw [e1]; exact hur.2.1, by rw [e2]; exact hur.2.2.1, by rw [e2]; exact hur.2.2.2.1, e3⟩, ?_⟩
    unfold In64 at hui ⊢
    omega
  rw [hT, hR]
  refine ⟨?_, isL_of i3 (fun z hz => (hok _ i1 z hz).1) (by omega), isL_of i4 (fun z hz => (hok _ i2 z hz).1) (by omega), ?_⟩
  · refine join_back isL_nil (fun _ h => by simp at h) h1 hi (fun z hz => ?_) (fun z hz => ?_) fun a' b' => ?_
    · rcases List.mem_append.1 hz with hz | hz
      · exact (hok _ i1 z hz).1
      · exact (hok _ i2 z hz).1
    · rcases List.mem_append.1 hz with hz | hz
      · exact (hok _ i1 z hz).2
      · exact (hok _ i2 z hz).2
    · rw [wt_append, i5, wt_get h1, wt_get isL_nil]
      simp only [wt]; omega
  · rw [sumL_wt]
    refine i6 ?_
    rw [← sumL_wt]; omega
theorem draw_none {l : List Lot} {a q : Int} (h : drawC l a q ≠ 0) : drawT l a q = [] ∧ drawR l a q = [] := ⟨if_neg h, if_neg h⟩
theorem rss_two {w : World} {g : Nat} {a b : List Lot} {A B : Option Addr} {c d : Nat} (hg : g < w.heap.size) (h0 : w.cell? ⟨g, 0, none⟩ = some (.slice A a.length c)) (h1 : w.cell? ⟨g, 1, none⟩ = some (.slice B b.length d)) (ha : Rs w 3 (a.map encLot) A c) (hb : Rs w 3 (b.map encLot) B d) : RsS 3 encLot w [a, b] (some ⟨g, 0, none⟩) 2 := by
  refine ⟨[.slice A a.length c, .slice B b.length d], (Each.one (isl ha)).append (Each.one (isl hb)), ⟨fun i r hr => ?_, by simp, by unfold maxLen; omega, fun h => by cases h⟩⟩
  refine ⟨g, 0, rfl, hg, fun j v hv => ?_⟩
  match i, hr with
  | 0, hr =>
    simp [enc1] at hr
    subst hr
    match j, hv with
    | 0, hv => simp at hv; subst hv; exact h0
    | j + 1, hv => simp at hv
  | 1, hr =>
    simp [enc1] at hr
    subst hr
    match j, hv with
    | 0, hv => simp at hv; subst hv; exact h1
    | j + 1, hv => simp at hv
  | i + 2, hr => simp at hr
end Go.Proofs.Ytemhhojenocddaa
