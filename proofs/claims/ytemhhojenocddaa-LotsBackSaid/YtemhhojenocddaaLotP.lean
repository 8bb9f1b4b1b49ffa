/- Lots, plain: what is got, what set makes of lots that may be. -/
import Derived.Test.YtemhhojenocddaaRef18d
namespace Go.Proofs.Ytemhhojenocddaa
open Go.RowKit
theorem tw_pos {α : Type} {p : α → Bool} {l : List α} {j : Nat} (hj : j < l.length) (h : j < (l.takeWhile p).length) : p l[j] = true := by
  have h1 := List.all_eq_true.1 (List.all_takeWhile (p := p) (l := l)) _ (List.getElem_mem h)
  have h2 : (l.takeWhile p)[j] = l[j] := by
    have h4 := congrArg (fun z => z[j]?) (tw_take p l)
    simp only [List.getElem?_eq_getElem h, List.getElem?_take, if_pos h, List.getElem?_eq_getElem hj, Option.some.injEq] at h4
    exact h4
  rw [h2] at h1
  exact h1
theorem pl_cons_lt {y x : Lot} {t : List Lot} (h : ltL y x = true) : plL (y :: t) x = plL t x + 1 ∧ thL (y :: t) x = thL t x := by
  have h1 : plL (y :: t) x = plL t x + 1 := by unfold plL; rw [List.takeWhile_cons_of_pos (p := fun y => decide (ordL y x < 0)) h]; rfl
  refine ⟨h1, ?_⟩
  unfold thL; rw [h1]; unfold atB; simp
theorem pl_cons_ge {y x : Lot} {t : List Lot} (h : ltL y x = false) : plL (y :: t) x = 0 ∧ thL (y :: t) x = eqL y x := by
  have h1 : plL (y :: t) x = 0 := by unfold plL; rw [List.takeWhile_cons_of_neg (by unfold ltL at h; rw [h]; simp)]; rfl
  refine ⟨h1, ?_⟩
  unfold thL; rw [h1]; rfl
theorem keys_eq {y x : Lot} : (y.asset == x.asset && y.tag == x.tag) = eqL y x := by
  cases h : eqL y x
  · have : ¬ (y.asset = x.asset ∧ y.tag = x.tag) := fun k => by rw [eqL_iff.2 k] at h; cases h
    cases h1 : (y.asset == x.asset)
    · rfl
    · cases h2 : (y.tag == x.tag)
      · rfl
      · exact absurd ⟨by simpa using h1, by simpa using h2⟩ this
  · have := eqL_iff.1 h
    rw [this.1, this.2]; simp
theorem lt_ne {y x : Lot} (h : ltL y x = true) : eqL y x = false := by
  rw [ltL_iff] at h
  exact eqL_no (by omega)
theorem gt_ne {y x : Lot} (h : ltL x y = true) : eqL y x = false := by
  rw [ltL_iff] at h
  exact eqL_no (by omega)
theorem ge_lt {y x z : Lot} (h : ltL y x = false) (k : ltL y z = true) : ltL x z = true := by
  have h1 : ¬ (y.asset < x.asset ∨ (y.asset = x.asset ∧ y.tag < x.tag)) := fun k => by rw [ltL_iff.2 k] at h; cases h
  rw [ltL_iff] at k ⊢
  omega
/-- No other lot of a row that rises is the one, nor is any where it is not. -/
theorem get_row : ∀ {l : List Lot} (_ : SortL l) (x : Lot), getL l x.asset x.tag = if thL l x then (l.getD (plL l x) ⟨0, 0, 0⟩).qty else 0
  | [], _, x => rfl
  | y :: t, hs, x => by
    unfold SortL at hs
    rw [List.pairwise_cons] at hs
    cases h : ltL y x
    · obtain ⟨h1, h2⟩ := pl_cons_ge (t := t) h
      rw [h1, h2]
      cases he : eqL y x
      · have hno : ∀ z ∈ t, eqL z x = false := fun z hz => gt_ne (ge_lt h (hs.1 z hz))
        have : (y :: t).find? (fun z => z.asset == x.asset && z.tag == x.tag) = none := by
          rw [List.find?_eq_none]
          intro z hz
          rw [keys_eq]
          rcases List.mem_cons.1 hz with rfl | hz
          · rw [he]; simp
          · rw [hno z hz]; simp
        unfold getL; rw [this]; rfl
      · have : (y :: t).find? (fun z => z.asset == x.asset && z.tag == x.tag) = some y := List.find?_cons_of_pos (by rw [keys_eq]; exact he)
        unfold getL; rw [this]; rfl
    · obtain ⟨h1, h2⟩ := pl_cons_lt (t := t) h
      rw [h1, h2]
      have : (y :: t).find? (fun z => z.asset == x.asset && z.tag == x.tag) = t.find? (fun z => z.asset == x.asset && z.tag == x.tag) := List.find?_cons_of_neg (by rw [keys_eq, lt_ne h]; simp)
      have ih := get_row hs.2 x
      unfold getL at ih ⊢
      rw [this, ih]
      simp
theorem setG_id {x : Lot} : ∀ {t : List Lot} (_ : ∀ z ∈ t, eqL z x = false), setG x true t = t
  | [], _ => rfl
  | y :: t, h => by
    have h1 := h y (by simp)
    have ih := setG_id (x := x) (t := t) (fun z hz => h z (by simp [hz]))
    simp only [setG, keys_eq, h1, Bool.not_true, Bool.false_and, Bool.true_or, ih]
    simp
theorem setG_false : ∀ {l : List Lot} (_ : SortL l) (x : Lot), setG x false l = l.take (plL l x) ++ x :: (if thL l x then l.drop (plL l x + 1) else l.drop (plL l x))
  | [], _, x => rfl
  | y :: t, hs, x => by
    unfold SortL at hs
    rw [List.pairwise_cons] at hs
    cases h : ltL y x
    · obtain ⟨h1, h2⟩ := pl_cons_ge (t := t) h
      have hid : setG x true t = t := setG_id (fun z hz => gt_ne (ge_lt h (hs.1 z hz)))
      rw [h1, h2]
      simp only [setG, keys_eq, h, hid, Bool.not_false, Bool.and_self, Bool.or_true]
      cases eqL y x <;> simp
    · obtain ⟨h1, h2⟩ := pl_cons_lt (t := t) h
      rw [h1, h2]
      simp only [setG, keys_eq, h, lt_ne h, Bool.not_true, Bool.and_false, Bool.or_false, setG_false hs.2 x]
      simp
theorem setG_true : ∀ {l : List Lot} (_ : SortL l) (x : Lot) (_ : thL l x = true), setG x true l = l.take (plL l x) ++ l.drop (plL l x + 1)
  | [], _, x, ht => by cases ht
  | y :: t, hs, x, ht => by
    unfold SortL at hs
    rw [List.pairwise_cons] at hs
    cases h : ltL y x
    · obtain ⟨h1, h2⟩ := pl_cons_ge (t := t) h
      have hid : setG x true t = t := setG_id (fun z hz => gt_ne (ge_lt h (hs.1 z hz)))
      rw [h2] at ht
      rw [h1]
      simp only [setG, keys_eq, ht, hid, Bool.not_true, Bool.false_and, Bool.true_or]
      simp
    · obtain ⟨h1, h2⟩ := pl_cons_lt (t := t) h
      rw [h2] at ht
      rw [h1]
      simp only [setG, keys_eq, lt_ne h, Bool.not_true, Bool.false_and, Bool.true_or, setG_true hs.2 x ht]
      simp
/-- The same lot with so much. -/
def withQ (x : Lot) (q : Int) : Lot := ⟨x.asset, x.tag, q⟩
theorem pl_with (l : List Lot) (x : Lot) (q : Int) : plL l (withQ x q) = plL l x ∧ thL l (withQ x q) = thL l x := ⟨rfl, rfl⟩
theorem codeL_zero {l : List Lot} {x : Lot} (h1 : isL l = true) (h2 : rightL x = true) : codeL l x = 0 := by unfold codeL; rw [h1, h2]; rfl
/-- What the reference's Put answers. -/
theorem put_ref {l : List Lot} {x : Lot} (h1 : isL l = true) (h2 : rightL x = true) (hx : In64 x.qty) :
    putLC l x = (if in64 (getL l x.asset x.tag + x.qty) = false then 7 else if getL l x.asset x.tag = 0 ∧ l.length = 16 then 25 else 0) ∧
    (putLC l x = 0 → putLL l x = setG (withQ x (getL l x.asset x.tag + x.qty)) ((getL l x.asset x.tag + x.qty) == 0) l) := by
  obtain ⟨hs, hr, h16⟩ := isL_sort h1
  have hg := get_row hs x
  have hxp := (rightL_iff.1 h2).2.2.2.2
  have hc := codeL_zero h1 h2
  cases ht : thL l x
  · rw [ht] at hg
    have hg0 : getL l x.asset x.tag = 0 := by simpa using hg
    have hin : in64 (0 + x.qty) = true := in64_iff.2 (by rw [Int.zero_add]; exact hx)
    have hcode : putLC l x = if 16 ≤ l.length then 25 else 0 := by unfold putLC; rw [if_pos hc, ht]; rfl
    rw [hg0]
    refine ⟨?_, fun h0 => ?_⟩
    · by_cases h : 16 ≤ l.length
      · rw [hcode, if_pos h, hin, if_neg (show ¬ (true = false) by simp), if_pos ⟨rfl, by omega⟩]
      · rw [hcode, if_neg h, hin, if_neg (show ¬ (true = false) by simp), if_neg (by omega)]
    · have hb : ((0 + x.qty) == 0) = false := by rw [beq_eq_false_iff_ne]; omega
      unfold putLL
      rw [if_pos h0, ht, hb, setG_false hs, (pl_with l x _).1, (pl_with l x _).2, ht]
      have : withQ x (0 + x.qty) = x := by unfold withQ; rw [Int.zero_add]
      rw [this]
      rfl
  · rw [ht, if_pos rfl, getD_at (thL_lt ht)] at hg
    have hp := (rightL_iff.1 (hr _ (List.getElem_mem (thL_lt ht)))).2.2.2.2
    have hcode : putLC l x = (if in64 ((l[plL l x]'(thL_lt ht)).qty + x.qty) = true then 0 else 7) := by unfold putLC; rw [if_pos hc, ht, if_pos rfl, getD_at (thL_lt ht)]
    rw [hg]
    refine ⟨?_, fun h0 => ?_⟩
    · rw [hcode]
      cases in64 ((l[plL l x]'(thL_lt ht)).qty + x.qty)
      · rfl
      · rw [if_pos rfl, if_neg (by simp), if_neg (by omega)]
    · have hb : (((l[plL l x]'(thL_lt ht)).qty + x.qty) == 0) = false := by rw [beq_eq_false_iff_ne]; omega
      unfold putLL
      rw [if_pos h0, ht, hb, setG_false hs, (pl_with l x _).1, (pl_with l x _).2, ht, if_pos rfl, if_pos rfl, getD_at (thL_lt ht), List.set_eq_take_append_cons_drop, if_pos (thL_lt ht)]
      rfl
/-- What the reference's Take answers. -/
theorem take_ref {l : List Lot} {x : Lot} (h1 : isL l = true) (h2 : rightL x = true) :
    takLC l x = (if getL l x.asset x.tag < x.qty then 23 else 0) ∧
    (takLC l x = 0 → takLL l x = setG (withQ x (getL l x.asset x.tag - x.qty)) ((getL l x.asset x.tag - x.qty) == 0) l) := by
  obtain ⟨hs, hr, h16⟩ := isL_sort h1
  have hg := get_row hs x
  have hxp := (rightL_iff.1 h2).2.2.2.2
  have hc := codeL_zero h1 h2
  cases ht : thL l x
  · rw [ht] at hg
    have hg0 : getL l x.asset x.tag = 0 := by simpa using hg
    have hcode : takLC l x = 23 := by unfold takLC; rw [if_pos hc, ht]; rfl
    rw [hg0]
    exact ⟨by rw [hcode, if_pos hxp], fun h0 => by rw [hcode] at h0; cases h0⟩
  · rw [ht, if_pos rfl, getD_at (thL_lt ht)] at hg
    have hcode : takLC l x = (if x.qty ≤ (l[plL l x]'(thL_lt ht)).qty then 0 else 23) := by unfold takLC; rw [if_pos hc, ht, getD_at (thL_lt ht)]; simp
    rw [hg]
    refine ⟨?_, fun h0 => ?_⟩
    · rw [hcode]
      by_cases h : x.qty ≤ (l[plL l x]'(thL_lt ht)).qty
      · rw [if_pos h, if_neg (by omega)]
      · rw [if_neg h, if_pos (by omega)]
    · unfold takLL
      rw [if_pos h0, getD_at (thL_lt ht)]
      by_cases he : (l[plL l x]'(thL_lt ht)).qty = x.qty
      · have hb : (((l[plL l x]'(thL_lt ht)).qty - x.qty) == 0) = true := by rw [he]; simp
        rw [if_pos he, hb, setG_true hs _ (by rw [(pl_with l x _).2]; exact ht), (pl_with l x _).1]
      · have hb : (((l[plL l x]'(thL_lt ht)).qty - x.qty) == 0) = false := by rw [beq_eq_false_iff_ne]; omega
        rw [if_neg he, hb, setG_false hs, (pl_with l x _).1, (pl_with l x _).2, ht, if_pos rfl, List.set_eq_take_append_cons_drop, if_pos (thL_lt ht)]
        rfl
end Go.Proofs.Ytemhhojenocddaa
