/- Joined: BkP, LotT, Lot1, Away. -/
import Derived.Test.YtiidplinmempcaaJz2
import Derived.Test.YtiidplinmempcaaJz10
import Derived.Test.YtiidplinmempcaaJz3
import Derived.Test.YtiidplinmempcaaRows
import Derived.Deep.RegionLaw
import Derived.Outline
/- Books, plain: where a unit stands; what a book is when a unit has more, and behind a transfer; what stays. No program in sight. -/
namespace Go.Proofs.Ytiidplinmempcaa
open Go.RowKit
section
variable {α : Type} {ok : List α → Bool}
def plK (l : List (Row α)) (u : Un) : Nat := (l.takeWhile (fun x => lessU x.unit u)).length
def thK (l : List (Row α)) (u : Un) : Bool := atB (fun x => decide (x.unit = u)) l (plK l u)
theorem plK_le (l : List (Row α)) (u : Un) : plK l u ≤ l.length := tw_len _ _
theorem plK_lt {x : Row α} {t : List (Row α)} {u : Un} (h : lessU x.unit u = true) : plK (x :: t) u = plK t u + 1 ∧ thK (x :: t) u = thK t u := by
  have e : plK (x :: t) u = plK t u + 1 := by unfold plK; rw [List.takeWhile_cons_of_pos (p := fun y : Row α => lessU y.unit u) h]; rfl
  refine ⟨e, ?_⟩
  unfold thK
  rw [e]
  unfold atB
  rw [List.getElem?_cons_succ]
theorem plK_ge {x : Row α} {t : List (Row α)} {u : Un} (h : lessU x.unit u = false) : plK (x :: t) u = 0 ∧ thK (x :: t) u = decide (x.unit = u) := by
  have e : plK (x :: t) u = 0 := by unfold plK; rw [List.takeWhile_cons_of_neg (by rw [h]; simp)]; rfl
  refine ⟨e, ?_⟩
  unfold thK
  rw [e]
  simp [atB]
theorem filter_take {l : List (Row α)} (hs : SortK l) (u : Un) : l.filter (fun x => lessU x.unit u) = l.take (plK l u) := by
  rw [filter_lt hs]
  unfold plK
  exact (List.prefix_iff_eq_take.1 (List.takeWhile_prefix _))
theorem filter_drop : ∀ {l : List (Row α)} (_ : SortK l) (u : Un), l.filter (fun x => lessU u x.unit) = l.drop (plK l u + if thK l u = true then 1 else 0)
  | [], _, _ => by simp
  | x :: t, hs, u => by
    unfold SortK at hs
    rw [List.pairwise_cons] at hs
    cases h : lessU x.unit u
    · obtain ⟨e1, e2⟩ := plK_ge (t := t) h
      rw [e1, e2]
      have ht : t.filter (fun y => lessU u y.unit) = t := by
        rw [List.filter_eq_self]
        intro y hy
        rcases lessU_tri x.unit u with h1 | h1 | h1
        · rw [h] at h1; cases h1
        · rw [← h1]; exact hs.1 y hy
        · exact lessU_trans h1 (hs.1 y hy)
      by_cases hx : x.unit = u
      · rw [if_pos (by simpa using hx), List.filter_cons_of_neg (by rw [hx, lessU_irr]; simp), ht]; rfl
      · have h2 : lessU u x.unit = true := by
          rcases lessU_tri x.unit u with h1 | h1 | h1
          · rw [h] at h1; cases h1
          · exact absurd h1 hx
          · exact h1
        rw [if_neg (by simpa using hx), List.filter_cons_of_pos (p := fun y : Row α => lessU u y.unit) h2, ht]; rfl
    · obtain ⟨e1, e2⟩ := plK_lt (t := t) h
      rw [e1, e2, List.filter_cons_of_neg (by rw [lessU_asymm h]; simp), filter_drop hs.2 u, show plK t u + 1 + (if thK t u = true then 1 else 0) = (plK t u + if thK t u = true then 1 else 0) + 1 by omega, List.drop_succ_cons]
theorem with_place {l : List (Row α)} (hs : SortK l) (u : Un) (now : List α) : withK l u now = l.take (plK l u) ++ (oneK u now ++ l.drop (plK l u + if thK l u = true then 1 else 0)) := by
  unfold withK
  rw [filter_take hs, filter_drop hs]
def shG (u : Un) (now : List α) : Bool → List (Row α) → List (Row α)
  | done, [] => if done then [] else [⟨u, now⟩]
  | done, x :: t => (if done = false ∧ lessU x.unit u = false then [⟨u, now⟩] else []) ++ ((if x.unit = u then [] else [x]) ++ shG u now (done || !lessU x.unit u) t)
theorem shG_true (u : Un) (now : List α) : ∀ {l : List (Row α)} (_ : SortK l), shG u now true l = l.filter (fun x => lessU x.unit u) ++ l.filter (fun x => lessU u x.unit)
  | [], _ => rfl
  | x :: t, hs => by
    unfold SortK at hs
    rw [List.pairwise_cons] at hs
    have ih := shG_true u now hs.2
    unfold shG
    rw [if_neg (by simp), Bool.true_or, ih, List.nil_append]
    rcases lessU_tri x.unit u with h | h | h
    · rw [if_neg (lessU_ne h), List.filter_cons_of_pos (p := fun y : Row α => lessU y.unit u) h, List.filter_cons_of_neg (by rw [lessU_asymm h]; simp)]; rfl
    · rw [if_pos h, List.filter_cons_of_neg (by rw [h, lessU_irr]; simp), List.filter_cons_of_neg (by rw [h, lessU_irr]; simp)]; rfl
    · have n1 : t.filter (fun y => lessU y.unit u) = [] := by
        rw [List.filter_eq_nil_iff]
        intro y hy
        rw [lessU_asymm (lessU_trans h (hs.1 y hy))]; simp
      rw [if_neg (lessU_ne h).symm, List.filter_cons_of_neg (by rw [lessU_asymm h]; simp), List.filter_cons_of_pos (p := fun y : Row α => lessU u y.unit) h, n1]; rfl
theorem shG_false (u : Un) (now : List α) : ∀ {l : List (Row α)} (_ : SortK l), shG u now false l = l.filter (fun x => lessU x.unit u) ++ ([⟨u, now⟩] ++ l.filter (fun x => lessU u x.unit))
  | [], _ => rfl
  | x :: t, hs => by
    have hs0 := hs
    unfold SortK at hs
    rw [List.pairwise_cons] at hs
    unfold shG
    cases h : lessU x.unit u
    · have n1 : (x :: t).filter (fun y => lessU y.unit u) = [] := by
        rw [List.filter_eq_nil_iff]
        intro y hy
        rw [Bool.not_eq_true]
        rcases List.mem_cons.1 hy with rfl | hy
        · exact h
        · cases h2 : lessU y.unit u
          · rfl
          · rw [lessU_trans (hs.1 y hy) h2] at h; cases h
      have n2 : t.filter (fun y => lessU y.unit u) = [] := by
        have : (x :: t).filter (fun y => lessU y.unit u) = t.filter (fun y => lessU y.unit u) := List.filter_cons_of_neg (by rw [h]; simp)
        rw [← this, n1]
      rw [if_pos ⟨rfl, rfl⟩, Bool.not_false, Bool.or_true, shG_true u now hs.2, n1, n2]
      by_cases hx : x.unit = u
      · rw [if_pos hx, List.filter_cons_of_neg (by rw [hx, lessU_irr]; simp)]; rfl
      · have h2 : lessU u x.unit = true := by
          rcases lessU_tri x.unit u with h1 | h1 | h1
          · rw [h] at h1; cases h1
          · exact absurd h1 hx
          · exact h1
        rw [if_neg hx, List.filter_cons_of_pos (p := fun y : Row α => lessU u y.unit) h2]; rfl
    · rw [if_neg (by simp), if_neg (lessU_ne h), Bool.not_true, Bool.or_false, shG_false u now hs.2, List.filter_cons_of_pos (p := fun y : Row α => lessU y.unit u) h, List.filter_cons_of_neg (by rw [lessU_asymm h]; simp)]; rfl
theorem shG_with {l : List (Row α)} (hs : SortK l) (u : Un) (now : List α) : shG u now now.isEmpty l = withK l u now := by
  unfold withK oneK
  cases h : now.isEmpty
  · rw [shG_false u now hs]; rfl
  · rw [shG_true u now hs]; rfl
theorem ofK_ok {l : List (Row α)} (h : isK ok l = true) (u : Un) : ofK l u = [] ∨ ok (ofK l u) = true := by
  rcases ofK_mem (l := l) (u := u) with ⟨x, hx, _, h1⟩ | ⟨_, h1⟩
  · right; rw [h1]; exact ((isK_facts h).2 x hx).2
  · left; exact h1
end
theorem addL_getB {ls : List (List Leg)} (h : addC ls = 0) {i : Int} (h1 : 1 ≤ i) (h2 : i ≤ 8) : getF i (addL ls) = sumG ls i := by
  unfold addC vecC at h
  split at h
  · rename_i ha
    split at h
    · rename_i hf
      unfold addL vecL
      rw [if_pos ha, if_pos hf]
      exact getF_sums _ i h1 8 (by omega)
    · cases h
  · cases h
theorem addL64B (ls : List (List Leg)) : Legs64 (addL ls) := by
  intro x hx
  unfold addL vecL at hx
  split at hx
  · split at hx
    · rename_i h8
      have : ∀ n : Nat, n ≤ 8 → ∀ x ∈ sumsL (sumG ls) n, In64 x.qty := by
        intro n
        induction n with
        | zero => intro _ x hx; simp [sumsL] at hx
        | succ n ih =>
          intro hn x hx
          simp only [sumsL, List.mem_append] at hx
          rcases hx with hx | hx
          · exact ih (by omega) x hx
          · split at hx
            · simp at hx
            · simp at hx; subst hx
              exact (fit_iff.1 h8) _ (by omega) (by omega)
      exact this 8 (Nat.le_refl _) x hx
    · cases hx
  · cases hx
/-- A unit has more. -/
def shC (l : List (Row Leg)) (u : Un) (legs : List Leg) : Int := if isK isV l then addC [ofK l u, legs] else 3
def shL (l : List (Row Leg)) (u : Un) (legs : List Leg) : List (Row Leg) := if shC l u legs = 0 then withK l u (addL [ofK l u, legs]) else []
/-- From one to another one. -/
def mvC (l : List (Row Leg)) (a b : Un) (legs : List Leg) : Int := if isK isV l then (if negC legs = 0 then (if shC l a (negL legs) = 0 then shC (shL l a (negL legs)) b legs else shC l a (negL legs)) else negC legs) else 3
def mvL (l : List (Row Leg)) (a b : Un) (legs : List Leg) : List (Row Leg) := if mvC l a b legs = 0 then shL (shL l a (negL legs)) b legs else []
theorem sh_ok {l : List (Row Leg)} {u : Un} {legs : List Leg} (h : shC l u legs = 0) : isK isV l = true ∧ addC [ofK l u, legs] = 0 ∧ shL l u legs = withK l u (addL [ofK l u, legs]) := by
  have h0 := h
  unfold shC at h
  split at h
  · rename_i h1
    exact ⟨h1, h, by unfold shL; rw [if_pos h0]⟩
  · cases h
theorem sh_is {l : List (Row Leg)} {u : Un} {legs : List Leg} (h : shC l u legs = 0) : isK isV (shL l u legs) = true := by
  obtain ⟨h1, _, h3⟩ := sh_ok h
  rw [h3]
  exact with_is h1 u fun _ => isV_addL _
theorem sh_get {l : List (Row Leg)} {u : Un} {legs : List Leg} (h : shC l u legs = 0) (v : Un) {i : Int} (i1 : 1 ≤ i) (i8 : i ≤ 8) : getF i (ofK (shL l u legs) v) = getF i (ofK l v) + if v = u then getF i legs else 0 := by
  obtain ⟨_, h2, h3⟩ := sh_ok h
  rw [h3, of_with]
  by_cases hv : v = u
  · subst hv
    rw [if_pos rfl, if_pos rfl, addL_getB h2 i1 i8]
    simp [sumG]
  · rw [if_neg hv, if_neg hv]; omega
theorem sh_sum {l : List (Row Leg)} {u : Un} {legs : List Leg} (h : shC l u legs = 0) {i : Int} (i1 : 1 ≤ i) (i8 : i ≤ 8) : sumK (getF i) (shL l u legs) = sumK (getF i) l + getF i legs := by
  obtain ⟨h1, h2, h3⟩ := sh_ok h
  rw [h3, sumK_with (getF i) rfl (isK_facts h1).1, addL_getB h2 i1 i8]
  simp [sumG]
  omega
theorem mv_ok {l : List (Row Leg)} {a b : Un} {legs : List Leg} (h : mvC l a b legs = 0) : isK isV l = true ∧ negC legs = 0 ∧ shC l a (negL legs) = 0 ∧ shC (shL l a (negL legs)) b legs = 0 ∧ mvL l a b legs = shL (shL l a (negL legs)) b legs := by
  have h0 := h
  unfold mvC at h
  split at h
  · rename_i h1
    split at h
    · rename_i h2
      split at h
      · rename_i h3
        exact ⟨h1, h2, h3, h, by unfold mvL; rw [if_pos h0]⟩
      · rename_i h3; exact absurd h h3
    · rename_i h2; exact absurd h h2
  · cases h
theorem negL_get {legs : List Leg} (h : negC legs = 0) (i : Int) : getF i (negL legs) = - getF i legs := by
  obtain ⟨_, h2, _⟩ := neg_ok (l := legs) (by rw [h]; rfl)
  rw [h2, getF_neg]
theorem mv_get {l : List (Row Leg)} {a b : Un} {legs : List Leg} (h : mvC l a b legs = 0) (v : Un) {i : Int} (i1 : 1 ≤ i) (i8 : i ≤ 8) : getF i (ofK (mvL l a b legs) v) = getF i (ofK l v) - (if v = a then getF i legs else 0) + (if v = b then getF i legs else 0) := by
  obtain ⟨_, h2, h3, h4, h5⟩ := mv_ok h
  rw [h5, sh_get h4 v i1 i8, sh_get h3 v i1 i8, negL_get h2]
  split <;> split <;> omega
theorem mv_is {l : List (Row Leg)} {a b : Un} {legs : List Leg} (h : mvC l a b legs = 0) : isK isV (mvL l a b legs) = true := by
  obtain ⟨_, _, _, h4, h5⟩ := mv_ok h
  rw [h5]; exact sh_is h4
theorem mv_sum {l : List (Row Leg)} {a b : Un} {legs : List Leg} (h : mvC l a b legs = 0) {i : Int} (i1 : 1 ≤ i) (i8 : i ≤ 8) : sumK (getF i) (mvL l a b legs) = sumK (getF i) l := by
  obtain ⟨_, h2, h3, h4, h5⟩ := mv_ok h
  rw [h5, sh_sum h4 i1 i8, sh_sum h3 i1 i8, negL_get h2]
  omega
theorem mv_other {l : List (Row Leg)} {a b v : Un} {legs : List Leg} (h : mvC l a b legs = 0) (ha : v ≠ a) (hb : v ≠ b) : ofK (mvL l a b legs) v = ofK l v := by
  obtain ⟨_, _, h3, h4, h5⟩ := mv_ok h
  rw [h5, (sh_ok h4).2.2, of_with, if_neg hb, (sh_ok h3).2.2, of_with, if_neg ha]
theorem of_isV {l : List (Row Leg)} (h : isK isV l = true) (u : Un) : isV (ofK l u) = true := by
  rcases ofK_ok h u with h1 | h1
  · rw [h1]; rfl
  · exact h1
/-- There and back is as it was. -/
theorem mv_back {l : List (Row Leg)} {a b : Un} {legs : List Leg} (h : mvC l a b legs = 0) (k : mvC (mvL l a b legs) b a legs = 0) : mvL (mvL l a b legs) b a legs = l := by
  have h1 := (mv_ok h).1
  have h2 := mv_is k
  refine ext_K (isK_facts h2).1 (isK_facts h1).1 (fun x hx => ((isK_facts h2).2 x hx).1) (fun x hx => ((isK_facts h1).2 x hx).1) fun u => ?_
  refine vec_ext (a := 0) (of_isV h2 u) (of_isV h1 u) fun i i1 i8 => ?_
  rw [mv_get k u (by omega) i8, mv_get h u (by omega) i8]
  split <;> split <;> omega
theorem mv_no {l : List (Row Leg)} {a b : Un} {legs : List Leg} (h : mvC l a b legs ≠ 0) : mvL l a b legs = [] := if_neg h
theorem sh_no {l : List (Row Leg)} {u : Un} {legs : List Leg} (h : shC l u legs ≠ 0) : shL l u legs = [] := if_neg h
theorem shL_len (l : List (Row Leg)) (u : Un) (legs : List Leg) : (shL l u legs).length ≤ l.length + 1 := by
  unfold shL
  split
  · exact with_len _ _ _
  · simp
end Go.Proofs.Ytiidplinmempcaa

/- Lots: the type; which may be, how they stand; what any are with one more, or without some of one. No program in sight. -/
namespace Go.Proofs.Ytiidplinmempcaa
open Go.RowKit
structure Lot where
  asset : Int
  tag : Int
  qty : Int
  deriving DecidableEq
def encLot (x : Lot) : List Value := [.int .i64 x.asset, .int .i64 x.tag, .int .i64 x.qty]
def okLot (x : Lot) : Prop := In64 x.asset ∧ In64 x.tag ∧ In64 x.qty
theorem rowsLot (l : List Lot) : ∀ r ∈ l.map encLot, r.length = 3 ∧ ∀ u ∈ r, u.oneCell' = true := by
  intro r hr
  obtain ⟨m, _, rfl⟩ := List.mem_map.1 hr
  refine ⟨rfl, ?_⟩
  simp only [encLot, List.mem_cons, List.not_mem_nil, or_false, forall_eq_or_imp, forall_eq]
  exact ⟨rfl, rfl, rfl⟩
theorem encLot_inj {x y : Lot} (h : encLot x = encLot y) : x = y := by
  unfold encLot at h
  simp only [List.cons.injEq, Value.int.injEq, and_true, true_and] at h
  obtain ⟨h0, h1, h2⟩ := h
  obtain ⟨xasset, xtag, xqty⟩ := x
  obtain ⟨yasset, ytag, yqty⟩ := y
  simp only at h0 h1 h2
  subst h0 h1 h2
  rfl
theorem neqLot {x y : Lot} (h : x ≠ y) : ((x.asset == y.asset) = false) ∨ ((x.tag == y.tag) = false) ∨ ((x.qty == y.qty) = false) := by
  cases h0 : (x.asset == y.asset)
  · simp
  cases h1 : (x.tag == y.tag)
  · simp
  cases h2 : (x.qty == y.qty)
  · simp
  · exfalso
    apply h
    obtain ⟨xasset, xtag, xqty⟩ := x
    obtain ⟨yasset, ytag, yqty⟩ := y
    simp_all
def rightL (x : Lot) : Bool := decide (1 ≤ x.asset) && decide (x.asset ≤ 4) && decide (0 ≤ x.tag) && decide (x.tag ≤ 255) && decide (0 < x.qty)
theorem rightL_iff {x : Lot} : rightL x = true ↔ 1 ≤ x.asset ∧ x.asset ≤ 4 ∧ 0 ≤ x.tag ∧ x.tag ≤ 255 ∧ 0 < x.qty := by simp [rightL, and_assoc]
theorem rightL_no {x : Lot} (h : ¬ (1 ≤ x.asset ∧ x.asset ≤ 4 ∧ 0 ≤ x.tag ∧ x.tag ≤ 255 ∧ 0 < x.qty)) : rightL x = false := by
  cases hr : rightL x
  · rfl
  · exact absurd (rightL_iff.1 hr) h
/-- How two lots stand: by assets, then by tags. -/
def ordL (a b : Lot) : Int := orOf (ord a.asset b.asset) (ord a.tag b.tag)
def ltL (a b : Lot) : Bool := decide (ordL a b < 0)
def eqL (a b : Lot) : Bool := ordL a b == 0
theorem ltL_iff {a b : Lot} : ltL a b = true ↔ a.asset < b.asset ∨ (a.asset = b.asset ∧ a.tag < b.tag) := by
  unfold ltL ordL orOf ord
  rw [decide_eq_true_eq]
  repeat' split
  all_goals omega
theorem eqL_iff {a b : Lot} : eqL a b = true ↔ a.asset = b.asset ∧ a.tag = b.tag := by
  unfold eqL ordL orOf ord
  rw [beq_iff_eq]
  repeat' split
  all_goals omega
theorem ltL_no {a b : Lot} (h : ¬ (a.asset < b.asset ∨ (a.asset = b.asset ∧ a.tag < b.tag))) : ltL a b = false := by
  cases hr : ltL a b
  · rfl
  · exact absurd (ltL_iff.1 hr) h
theorem eqL_no {a b : Lot} (h : ¬ (a.asset = b.asset ∧ a.tag = b.tag)) : eqL a b = false := by
  cases hr : eqL a b
  · rfl
  · exact absurd (eqL_iff.1 hr) h
/-- Lots that may be, each behind the one ahead of it. -/
def isR : Option Lot → List Lot → Bool
  | _, [] => true
  | none, x :: t => rightL x && isR (some x) t
  | some p, x :: t => rightL x && ltL p x && isR (some x) t
def isL (l : List Lot) : Bool := isR none l && decide (l.length ≤ 16)
def codeL (l : List Lot) (x : Lot) : Int := if isL l then (if rightL x then 0 else 2) else 3
def qtyL (l : List Lot) (a : Int) : List Int := (l.filter (fun x => x.asset == a)).map (·.qty)
def sumL (l : List Lot) (a : Int) : Int := (qtyL l a).sum
def getL (l : List Lot) (a t : Int) : Int := match l.find? (fun x => x.asset == a && x.tag == t) with | some x => x.qty | none => 0
def plL (l : List Lot) (x : Lot) : Nat := (l.takeWhile (fun y => decide (ordL y x < 0))).length
def thL (l : List Lot) (x : Lot) : Bool := atB (fun y => ordL y x == 0) l (plL l x)
def SortL (l : List Lot) : Prop := l.Pairwise (fun a b => ltL a b = true)
theorem ltL_trans {a b c : Lot} (h : ltL a b = true) (k : ltL b c = true) : ltL a c = true := by
  rw [ltL_iff] at *; omega
theorem isR_sort : ∀ {l : List Lot} {p : Option Lot} (_ : isR p l = true), SortL l ∧ (∀ x ∈ l, rightL x = true) ∧ ∀ q, p = some q → ∀ x ∈ l, ltL q x = true
  | [], _, _ => ⟨List.Pairwise.nil, by simp, by simp⟩
  | x :: t, p, h => by
    have ⟨h0, h1, h2⟩ : rightL x = true ∧ isR (some x) t = true ∧ ∀ q, p = some q → ltL q x = true := by
      cases p with
      | none => simp only [isR, Bool.and_eq_true] at h; exact ⟨h.1, h.2, fun q hq => by cases hq⟩
      | some q => simp only [isR, Bool.and_eq_true] at h; exact ⟨h.1.1, h.2, fun q' hq => by injection hq with e; subst e; exact h.1.2⟩
    have ⟨i1, i2, i3⟩ := isR_sort h1
    have i4 := i3 x rfl
    refine ⟨List.pairwise_cons.2 ⟨i4, i1⟩, fun y hy => ?_, fun q hq y hy => ?_⟩
    · rcases List.mem_cons.1 hy with rfl | hy
      · exact h0
      · exact i2 y hy
    · rcases List.mem_cons.1 hy with rfl | hy
      · exact h2 q hq
      · exact ltL_trans (h2 q hq) (i4 y hy)
theorem isL_sort {l : List Lot} (h : isL l = true) : SortL l ∧ (∀ x ∈ l, rightL x = true) ∧ l.length ≤ 16 := by
  unfold isL at h
  rw [Bool.and_eq_true, decide_eq_true_eq] at h
  have := isR_sort h.1
  exact ⟨this.1, this.2.1, h.2⟩
/-- What Put answers. -/
def putLC (l : List Lot) (x : Lot) : Int := if codeL l x = 0 then (if thL l x then (if in64 ((l.getD (plL l x) ⟨0, 0, 0⟩).qty + x.qty) then 0 else 7) else if 16 ≤ l.length then 25 else 0) else codeL l x
def putLL (l : List Lot) (x : Lot) : List Lot := if putLC l x = 0 then (if thL l x then l.set (plL l x) ⟨x.asset, x.tag, (l.getD (plL l x) ⟨0, 0, 0⟩).qty + x.qty⟩ else l.take (plL l x) ++ x :: l.drop (plL l x)) else []
/-- What Take answers. -/
def takLC (l : List Lot) (x : Lot) : Int := if codeL l x = 0 then (if thL l x = true ∧ x.qty ≤ (l.getD (plL l x) ⟨0, 0, 0⟩).qty then 0 else 23) else codeL l x
def takLL (l : List Lot) (x : Lot) : List Lot := if takLC l x = 0 then (if (l.getD (plL l x) ⟨0, 0, 0⟩).qty = x.qty then l.take (plL l x) ++ l.drop (plL l x + 1) else l.set (plL l x) ⟨x.asset, x.tag, (l.getD (plL l x) ⟨0, 0, 0⟩).qty - x.qty⟩) else []
theorem plL_le (l : List Lot) (x : Lot) : plL l x ≤ l.length := tw_len _ _
theorem thL_lt {l : List Lot} {x : Lot} (h : thL l x = true) : plL l x < l.length := by
  rcases Nat.lt_or_ge (plL l x) l.length with h1 | h1
  · exact h1
  · rw [show thL l x = false from atB_none h1] at h; cases h
theorem thL_eq {l : List Lot} {x : Lot} (h : thL l x = true) : (l[plL l x]'(thL_lt h)).asset = x.asset ∧ (l[plL l x]'(thL_lt h)).tag = x.tag := by
  have h1 : eqL (l[plL l x]'(thL_lt h)) x = true := by rw [← h]; exact (atB_some (p := fun y => ordL y x == 0) (thL_lt h)).symm
  exact eqL_iff.1 h1
end Go.Proofs.Ytiidplinmempcaa

/- Lots: contracts of lots.right, order, Is, Get, checked; the search. -/
namespace Go.Proofs.Ytiidplinmempcaa
open Go.RowKit
theorem elLot : Elem Try.prog 97 62 3 24 := elem_of Try.underlying97 (z := .agg #[.int .i64 0, .int .i64 0, .int .i64 0]) (by kernel_rfl) rfl (by omega)
set_option maxRecDepth 100000 in
set_option maxHeartbeats 2000000 in
theorem lotRight (x : Lot) (w : World) : Calls Try.prog 145 #[.agg #[.int .i64 x.asset, .int .i64 x.tag, .int .i64 x.qty]] w fun e w' => e = .returned (.bool (rightL x)) ∧ Below w.heap.size w w' := by
  by_cases t0 : 1 ≤ x.asset
  rotate_left
  · have d0 := decide_eq_false t0
    have HN := Lib.hid (rightL_no (x := x) (by omega))
    go_enter Try.func145, Try.ntmps145
    go_wp2_with fail
    go_ret
    exact ⟨by rw [HN.out]; first | done | rfl, by (repeat' (first | (with_reducible exact Below.refl _ _) | (with_reducible assumption) | (with_reducible refine Below.alloc ?_ ?_ _) | (with_reducible refine Below.setCell ?_ ?_ _) | (with_reducible refine Below.drew ?_) | (with_reducible refine below_drewN ?_ _) | (with_reducible refine below_via ?_ (by with_reducible assumption) ?_) | omega | (simp; done) | (simp; omega)))⟩
  have d0 := decide_eq_true t0
  by_cases t1 : x.asset ≤ 4
  rotate_left
  · have d1 := decide_eq_false t1
    have HN := Lib.hid (rightL_no (x := x) (by omega))
    go_enter Try.func145, Try.ntmps145
    go_wp2_with fail
    go_ret
    exact ⟨by rw [HN.out]; first | done | rfl, by (repeat' (first | (with_reducible exact Below.refl _ _) | (with_reducible assumption) | (with_reducible refine Below.alloc ?_ ?_ _) | (with_reducible refine Below.setCell ?_ ?_ _) | (with_reducible refine Below.drew ?_) | (with_reducible refine below_drewN ?_ _) | (with_reducible refine below_via ?_ (by with_reducible assumption) ?_) | omega | (simp; done) | (simp; omega)))⟩
  have d1 := decide_eq_true t1
  by_cases t2 : 0 ≤ x.tag
  rotate_left
  · have d2 := decide_eq_false t2
    have HN := Lib.hid (rightL_no (x := x) (by omega))
    go_enter Try.func145, Try.ntmps145
    go_wp2_with fail
    go_ret
    exact ⟨by rw [HN.out]; first | done | rfl, by (repeat' (first | (with_reducible exact Below.refl _ _) | (with_reducible assumption) | (with_reducible refine Below.alloc ?_ ?_ _) | (with_reducible refine Below.setCell ?_ ?_ _) | (with_reducible refine Below.drew ?_) | (with_reducible refine below_drewN ?_ _) | (with_reducible refine below_via ?_ (by with_reducible assumption) ?_) | omega | (simp; done) | (simp; omega)))⟩
  have d2 := decide_eq_true t2
  by_cases t3 : x.tag ≤ 255
  rotate_left
  · have d3 := decide_eq_false t3
    have HN := Lib.hid (rightL_no (x := x) (by omega))
    go_enter Try.func145, Try.ntmps145
    go_wp2_with fail
    go_ret
    exact ⟨by rw [HN.out]; first | done | rfl, by (repeat' (first | (with_reducible exact Below.refl _ _) | (with_reducible assumption) | (with_reducible refine Below.alloc ?_ ?_ _) | (with_reducible refine Below.setCell ?_ ?_ _) | (with_reducible refine Below.drew ?_) | (with_reducible refine below_drewN ?_ _) | (with_reducible refine below_via ?_ (by with_reducible assumption) ?_) | omega | (simp; done) | (simp; omega)))⟩
  have d3 := decide_eq_true t3
  by_cases t4 : 0 < x.qty
  rotate_left
  · have d4 := decide_eq_false t4
    have HN := Lib.hid (rightL_no (x := x) (by omega))
    go_enter Try.func145, Try.ntmps145
    go_wp2_with fail
    go_ret
    exact ⟨by rw [HN.out]; first | done | rfl, by (repeat' (first | (with_reducible exact Below.refl _ _) | (with_reducible assumption) | (with_reducible refine Below.alloc ?_ ?_ _) | (with_reducible refine Below.setCell ?_ ?_ _) | (with_reducible refine Below.drew ?_) | (with_reducible refine below_drewN ?_ _) | (with_reducible refine below_via ?_ (by with_reducible assumption) ?_) | omega | (simp; done) | (simp; omega)))⟩
  have d4 := decide_eq_true t4
  have HN := Lib.hid (rightL_iff (x := x).2 ⟨by omega, by omega, by omega, by omega, by omega⟩)
  go_enter Try.func145, Try.ntmps145
  go_wp2_with fail
  go_ret
  exact ⟨by rw [HN.out]; first | done | rfl, by (repeat' (first | (with_reducible exact Below.refl _ _) | (with_reducible assumption) | (with_reducible refine Below.alloc ?_ ?_ _) | (with_reducible refine Below.setCell ?_ ?_ _) | (with_reducible refine Below.drew ?_) | (with_reducible refine below_drewN ?_ _) | (with_reducible refine below_via ?_ (by with_reducible assumption) ?_) | omega | (simp; done) | (simp; omega)))⟩
set_option maxHeartbeats 400000 in
theorem cmpInt (a b : Int) (w : World) :
    Calls Try.prog 173 #[.int .i64 a, .int .i64 b] w fun e w' => e = .returned (.int .i64 (ord a b)) ∧ w = w' := by
  go_enter Try.func173, Try.ntmps173
  go_wp2
  all_goals (go_ret; exact ⟨ret_int (by unfold ord; repeat' split <;> omega), rfl⟩)
set_option maxRecDepth 100000 in
set_option maxHeartbeats 4000000 in
theorem lotOrder (a b : Lot) (w : World) : Calls Try.prog 146 #[.agg #[.int .i64 a.asset, .int .i64 a.tag, .int .i64 a.qty], .agg #[.int .i64 b.asset, .int .i64 b.tag, .int .i64 b.qty]] w fun e w' => e = .returned (.int .i64 (ordL a b)) ∧ Below w.heap.size w w' := by
  unfold ordL
  generalize ho1 : ord a.asset b.asset = o1
  generalize ho2 : ord a.tag b.tag = o2
  have C1 := Lib.hid (fun W => show Calls Try.prog 173 #[.int .i64 a.asset, .int .i64 b.asset] W fun e w' => e = .returned (.int .i64 o1) ∧ W = w' from by rw [← ho1]; exact cmpInt _ _ _)
  have C2 := Lib.hid (fun W => show Calls Try.prog 173 #[.int .i64 a.tag, .int .i64 b.tag] W fun e w' => e = .returned (.int .i64 o2) ∧ W = w' from by rw [← ho2]; exact cmpInt _ _ _)
  clear ho1 ho2
  go_enter Try.func146, Try.ntmps146
  go_wp2_with fail
  go_region_held3 (fun w' => (w'.cell? ⟨w.heap.size, 0, none⟩ = some (.int .i64 a.asset) ∧ w'.cell? ⟨w.heap.size, 1, none⟩ = some (.int .i64 a.tag)) ∧ w'.cell? ⟨w.heap.size + 1, 0, none⟩ = some (.int .i64 b.asset) ∧ w'.cell? ⟨w.heap.size + 1, 1, none⟩ = some (.int .i64 b.tag)) (first | (simp [go_sem]; done) | (repeat' (first | (with_reducible assumption) | (with_reducible refine And.intro ?_ ?_) | (with_reducible refine cell_drew ?_) | (with_reducible refine cell_via (by with_reducible assumption) ?_ ?_) | (simp [*]; done) | (simp [go_sem]; done) | (with_reducible refine cell_alloc ?_ ?_) | (with_reducible refine cell_set_far ?_ ?_) | omega | (simp; omega)))) (first | (go_at_call 173; (with_reducible refine (C1.out _).mono ?_); rintro e w1 ⟨rfl, rfl⟩) | (go_at_call 173; (with_reducible refine (C2.out _).mono ?_); rintro e w2 ⟨rfl, rfl⟩) | (go_at_call 165; (with_reducible refine (cmpOr2 o1 o2 _ _ 0 _ ?_ ?_).mono ?_); (focus (simp [go_sem]; done)); (focus (simp [go_sem]; done)); rintro e w3 ⟨rfl, rfl⟩) | fail)
  all_goals
    go_wp2_with fail
    go_ret
    exact ⟨rfl, by (repeat' (first | (with_reducible exact Below.refl _ _) | (with_reducible assumption) | (with_reducible refine Below.alloc ?_ ?_ _) | (with_reducible refine Below.setCell ?_ ?_ _) | (with_reducible refine Below.drew ?_) | (with_reducible refine below_drewN ?_ _) | (with_reducible refine below_via ?_ (by with_reducible assumption) ?_) | omega | (simp; done) | (simp; omega)))⟩
set_option maxRecDepth 100000 in
set_option maxHeartbeats 4000000 in
theorem lotSearch (l : List Lot) (t : Lot) (A : Option Addr) (c : Nat) (w : World) (hl : l.length ≤ 1048576) (hr : Rd w A 3 (l.map encLot)) (hs : ∀ i j (_ : i < j) (hj : j < l.length), (fun x : Lot => decide (ordL x t < 0)) l[j] = true → (fun x : Lot => decide (ordL x t < 0)) l[i] = true) :
    Calls Try.prog 150 #[.slice A l.length c, .agg #[.int .i64 t.asset, .int .i64 t.tag, .int .i64 t.qty], .func (Fn.func 146) #[] #[]] w fun e w' => e = .returned (.tuple #[.int .i64 ((l.takeWhile (fun x : Lot => decide (ordL x t < 0))).length : Nat), .bool (atB (fun x : Lot => (ordL x t == 0)) l (l.takeWhile (fun x : Lot => decide (ordL x t < 0))).length)]) ∧ Below w.heap.size w w' := by
  have HR := Lib.hid hr
  have HSO := Lib.hid hs
  clear hr hs
  go_enter Try.func150, Try.ntmps150
  go_wp2_with fail
  go_loopw [9, 10] (fun i j wr => ∃ (a b : Nat), a ≤ b ∧ b ≤ l.length ∧ i = .int .i64 a ∧ j = .int .i64 b ∧ (∀ q (_ : q < l.length), q < a → (fun x : Lot => decide (ordL x t < 0)) l[q] = true) ∧ (∀ q (_ : q < l.length), b ≤ q → (fun x : Lot => decide (ordL x t < 0)) l[q] = false) ∧ Below w.heap.size w wr ∧ w.heap.size < wr.heap.size ∧ (wr.cell? ⟨w.heap.size, 0, none⟩ = some (.int .i64 t.asset) ∧ wr.cell? ⟨w.heap.size, 1, none⟩ = some (.int .i64 t.tag) ∧ wr.cell? ⟨w.heap.size, 2, none⟩ = some (.int .i64 t.qty))) (fun i j _ => (intOf j).toNat - (intOf i).toNat)
  case atStart => exact ⟨0, l.length, Nat.zero_le _, Nat.le_refl _, rfl, rfl, fun q _ h => absurd h (by omega), fun q h1 h2 => absurd h1 (by omega), by (repeat' (first | (with_reducible exact Below.refl _ _) | (with_reducible assumption) | (with_reducible refine Below.alloc ?_ ?_ _) | (with_reducible refine Below.setCell ?_ ?_ _) | (with_reducible refine Below.drew ?_) | (with_reducible refine below_drewN ?_ _) | (with_reducible refine below_via ?_ (by with_reducible assumption) ?_) | omega | (simp; done) | (simp; omega))), by simp, by simp [go_sem]⟩
  case round =>
    obtain ⟨p, q, hpq, hql, rfl, rfl, hlo, hhi, hbl, hsz, g0, g1, g2⟩ := hrel
    have Hlo := Lib.hid hlo
    have Hhi := Lib.hid hhi
    have Hbl := Lib.hid hbl
    have hz := hbl.size
    clear hlo hhi hbl
    by_cases hlt : p < q
    · have d1 : decide ((p : Int) < (q : Int)) = true := by simpa using hlt
      obtain ⟨h, hh⟩ : ∃ h, h = (p + q) / 2 := ⟨_, rfl⟩
      have hhp : p ≤ h ∧ h < q := by omega
      have hhl : h < l.length := by omega
      have hhi : ((p : Int) + (q : Int)) / 2 < (l.length : Int) := by omega
      have w9 : IntKind.i64.wrap ((p : Int) + (q : Int)) = (p : Int) + (q : Int) := by rw [IntKind.wrap_i64]; omega
      have w8 : IntKind.u64.wrap ((p : Int) + (q : Int)) = (p : Int) + (q : Int) := by rw [IntKind.wrap_u64]; omega
      obtain ⟨b, o, rfl, hb, hc⟩ := HR.out h (encLot l[h]) (by simp [hhl])
      have e0 := (Hbl.out.cell (p := ⟨b, o + h * 3 + 0, none⟩) hb).trans (hc 0 _ rfl)
      have e1 := (Hbl.out.cell (p := ⟨b, o + h * 3 + 1, none⟩) hb).trans (hc 1 _ rfl)
      have e2 := (Hbl.out.cell (p := ⟨b, o + h * 3 + 2, none⟩) hb).trans (hc 2 _ rfl)
      simp only [Nat.add_zero] at e0
      clear hc
      subst hh
      cases hm : decide (ordL l[(p + q) / 2] t < 0)
      · have Hm := Lib.hid hm
        have hbw : b < wr.heap.size := by omega
        go_wp2_with fail
        have nk : (0 : Int) ≤ ((p : Int) + (q : Int)) / 2 := by omega
        have tk : (((p : Int) + (q : Int)) / 2).toNat = (p + q) / 2 := by omega
        go_region_held3 (fun w' => (w'.cell? ⟨b, o + (p + q) / 2 * 3, none⟩ = some (.int .i64 l[(p + q) / 2].asset) ∧ w'.cell? ⟨b, o + (p + q) / 2 * 3 + 1, none⟩ = some (.int .i64 l[(p + q) / 2].tag) ∧ w'.cell? ⟨b, o + (p + q) / 2 * 3 + 2, none⟩ = some (.int .i64 l[(p + q) / 2].qty)) ∧ w'.cell? ⟨w.heap.size, 0, none⟩ = some (.int .i64 t.asset) ∧ w'.cell? ⟨w.heap.size, 1, none⟩ = some (.int .i64 t.tag) ∧ w'.cell? ⟨w.heap.size, 2, none⟩ = some (.int .i64 t.qty)) (first | (simp [go_sem]; done) | (repeat' (first | (with_reducible assumption) | (with_reducible refine And.intro ?_ ?_) | (with_reducible refine cell_drew ?_) | (with_reducible refine cell_via (by with_reducible assumption) ?_ ?_) | (simp [*]; done) | (simp [go_sem]; done) | (with_reducible refine cell_alloc ?_ ?_) | (with_reducible refine cell_set_far ?_ ?_) | omega | (simp; omega)))) (first | (go_at_call 146; (with_reducible refine (lotOrder l[(p + q) / 2] t _).mono ?_); rintro e w3 ⟨rfl, hb3⟩; obtain ⟨fc3, fg3, hc3, hf3, hz3⟩ := bget hb3; (try simp at hz3); have Hb3 := Lib.hid hb3; clear hb3) | fail)
        clear nk tk
        go_wp2_with fail
        go_roundw
        case rel =>
          refine ⟨p, (p + q) / 2, by omega, by omega, rfl, by go_num, Hlo.out, ?_, by have hbl := Hbl.out; have hb3 := Hb3.out; (repeat' (first | (with_reducible exact Below.refl _ _) | (with_reducible assumption) | (with_reducible refine Below.alloc ?_ ?_ _) | (with_reducible refine Below.setCell ?_ ?_ _) | (with_reducible refine Below.drew ?_) | (with_reducible refine below_drewN ?_ _) | (with_reducible refine below_via ?_ (by with_reducible assumption) ?_) | omega | (simp; done) | (simp; omega))), by omega, by rw [hc3]; simp [go_sem, g0, hsz], by rw [hc3]; simp [go_sem, g1, hsz], by rw [hc3]; simp [go_sem, g2, hsz]⟩
          intro q' hq' h1
          cases h2 : decide (ordL l[q'] t < 0)
          · rfl
          · exfalso
            by_cases h3 : (p + q) / 2 < q'
            · have h4 := HSO.out ((p + q) / 2) q' h3 hq' h2
              have h5 : decide (ordL l[(p + q) / 2] t < 0) = true := h4
              rw [Hm.out] at h5; cases h5
            · have h6 : q' = (p + q) / 2 := by omega
              subst h6
              rw [Hm.out] at h2; cases h2
        case measure => simp [intOf]; omega
      · have Hm := Lib.hid hm
        have w5 : IntKind.i64.wrap (((p : Int) + (q : Int)) / 2 + 1) = ((p : Int) + (q : Int)) / 2 + 1 := by rw [IntKind.wrap_i64]; omega
        have hbw : b < wr.heap.size := by omega
        go_wp2_with fail
        have nk : (0 : Int) ≤ ((p : Int) + (q : Int)) / 2 := by omega
        have tk : (((p : Int) + (q : Int)) / 2).toNat = (p + q) / 2 := by omega
        go_region_held3 (fun w' => (w'.cell? ⟨b, o + (p + q) / 2 * 3, none⟩ = some (.int .i64 l[(p + q) / 2].asset) ∧ w'.cell? ⟨b, o + (p + q) / 2 * 3 + 1, none⟩ = some (.int .i64 l[(p + q) / 2].tag) ∧ w'.cell? ⟨b, o + (p + q) / 2 * 3 + 2, none⟩ = some (.int .i64 l[(p + q) / 2].qty)) ∧ w'.cell? ⟨w.heap.size, 0, none⟩ = some (.int .i64 t.asset) ∧ w'.cell? ⟨w.heap.size, 1, none⟩ = some (.int .i64 t.tag) ∧ w'.cell? ⟨w.heap.size, 2, none⟩ = some (.int .i64 t.qty)) (first | (simp [go_sem]; done) | (repeat' (first | (with_reducible assumption) | (with_reducible refine And.intro ?_ ?_) | (with_reducible refine cell_drew ?_) | (with_reducible refine cell_via (by with_reducible assumption) ?_ ?_) | (simp [*]; done) | (simp [go_sem]; done) | (with_reducible refine cell_alloc ?_ ?_) | (with_reducible refine cell_set_far ?_ ?_) | omega | (simp; omega)))) (first | (go_at_call 146; (with_reducible refine (lotOrder l[(p + q) / 2] t _).mono ?_); rintro e w3 ⟨rfl, hb3⟩; obtain ⟨fc3, fg3, hc3, hf3, hz3⟩ := bget hb3; (try simp at hz3); have Hb3 := Lib.hid hb3; clear hb3) | fail)
        clear nk tk
        go_wp2_with fail
        go_roundw
        case rel =>
          refine ⟨(p + q) / 2 + 1, q, by omega, by omega, by go_num, rfl, ?_, Hhi.out, by have hbl := Hbl.out; have hb3 := Hb3.out; (repeat' (first | (with_reducible exact Below.refl _ _) | (with_reducible assumption) | (with_reducible refine Below.alloc ?_ ?_ _) | (with_reducible refine Below.setCell ?_ ?_ _) | (with_reducible refine Below.drew ?_) | (with_reducible refine below_drewN ?_ _) | (with_reducible refine below_via ?_ (by with_reducible assumption) ?_) | omega | (simp; done) | (simp; omega))), by omega, by rw [hc3]; simp [go_sem, g0, hsz], by rw [hc3]; simp [go_sem, g1, hsz], by rw [hc3]; simp [go_sem, g2, hsz]⟩
          intro q' hq' h1
          by_cases h3 : q' < (p + q) / 2
          · exact HSO.out q' ((p + q) / 2) h3 hhl Hm.out
          · have h6 : q' = (p + q) / 2 := by omega
            subst h6
            exact Hm.out
        case measure => simp [intOf]; omega
    · obtain rfl : p = q := by omega
      have d1 : decide ((p : Int) < (p : Int)) = false := by simp
      have hw := while_cut (p := fun x : Lot => decide (ordL x t < 0)) (fun j hj h => Hlo.out j hj h) hql (fun h => Hhi.out p h (Nat.le_refl _))
      have hlen : (l.takeWhile (fun x : Lot => decide (ordL x t < 0))).length = p := by rw [hw.1, List.length_take]; omega
      have HL := Lib.hid hlen
      clear hw hlen
      by_cases hpl : p < l.length
      · have d2 : decide ((p : Int) < (l.length : Int)) = true := by simpa using hpl
        have hpi : (p : Int) < (l.length : Int) := by omega
        obtain ⟨b, o, rfl, hb, hc⟩ := HR.out p (encLot l[p]) (by simp [hpl])
        have e0 := (Hbl.out.cell (p := ⟨b, o + p * 3 + 0, none⟩) hb).trans (hc 0 _ rfl)
        have e1 := (Hbl.out.cell (p := ⟨b, o + p * 3 + 1, none⟩) hb).trans (hc 1 _ rfl)
        have e2 := (Hbl.out.cell (p := ⟨b, o + p * 3 + 2, none⟩) hb).trans (hc 2 _ rfl)
        simp only [Nat.add_zero] at e0
        clear hc
        obtain ⟨h, hh⟩ : ∃ h, h = p := ⟨_, rfl⟩
        have HG := Lib.hid (atB_some (p := fun x : Lot => (ordL x t == 0)) hpl)
        have hbw : b < wr.heap.size := by omega
        go_wp2_with fail
        go_region_held3 (fun w' => (w'.cell? ⟨b, o + p * 3, none⟩ = some (.int .i64 l[p].asset) ∧ w'.cell? ⟨b, o + p * 3 + 1, none⟩ = some (.int .i64 l[p].tag) ∧ w'.cell? ⟨b, o + p * 3 + 2, none⟩ = some (.int .i64 l[p].qty)) ∧ w'.cell? ⟨w.heap.size, 0, none⟩ = some (.int .i64 t.asset) ∧ w'.cell? ⟨w.heap.size, 1, none⟩ = some (.int .i64 t.tag) ∧ w'.cell? ⟨w.heap.size, 2, none⟩ = some (.int .i64 t.qty)) (first | (simp [go_sem]; done) | (repeat' (first | (with_reducible assumption) | (with_reducible refine And.intro ?_ ?_) | (with_reducible refine cell_drew ?_) | (with_reducible refine cell_via (by with_reducible assumption) ?_ ?_) | (simp [*]; done) | (simp [go_sem]; done) | (with_reducible refine cell_alloc ?_ ?_) | (with_reducible refine cell_set_far ?_ ?_) | omega | (simp; omega)))) (first | (go_at_call 146; (with_reducible refine (lotOrder l[p] t _).mono ?_); rintro e w3 ⟨rfl, hb3⟩; obtain ⟨fc3, fg3, hc3, hf3, hz3⟩ := bget hb3; (try simp at hz3); have Hb3 := Lib.hid hb3; clear hb3) | fail)
        go_wp2_with fail
        go_ret2
        exact ⟨by rw [HL.out, HG.out]; rfl, by have hbl := Hbl.out; have hb3 := Hb3.out; (repeat' (first | (with_reducible exact Below.refl _ _) | (with_reducible assumption) | (with_reducible refine Below.alloc ?_ ?_ _) | (with_reducible refine Below.setCell ?_ ?_ _) | (with_reducible refine Below.drew ?_) | (with_reducible refine below_drewN ?_ _) | (with_reducible refine below_via ?_ (by with_reducible assumption) ?_) | omega | (simp; done) | (simp; omega)))⟩
      · have d2 : decide ((p : Int) < (l.length : Int)) = false := by simpa using hpl
        have HG := Lib.hid (atB_none (p := fun x : Lot => (ordL x t == 0)) (Nat.le_of_not_lt hpl))
        go_wp2_with fail
        go_quiet (fail)
        go_wp2_with fail
        go_ret2
        exact ⟨by rw [HL.out, HG.out]; rfl, by have hbl := Hbl.out; (repeat' (first | (with_reducible exact Below.refl _ _) | (with_reducible assumption) | (with_reducible refine Below.alloc ?_ ?_ _) | (with_reducible refine Below.setCell ?_ ?_ _) | (with_reducible refine Below.drew ?_) | (with_reducible refine below_drewN ?_ _) | (with_reducible refine below_via ?_ (by with_reducible assumption) ?_) | omega | (simp; done) | (simp; omega)))⟩
end Go.Proofs.Ytiidplinmempcaa

/- What append, Insert leave as it was: all blocks of other types. No program in sight. -/
namespace Go.Proofs.Ytiidplinmempcaa
open Go.RowKit
/-- All that is no row of elements E is as it was. -/
structure Away (E : TypeId) (w w' : World) : Prop where
  size : w.heap.size ≤ w'.heap.size
  block : ∀ b, b < w.heap.size → (∀ cs r, w.heap[b]? ≠ some (.cells cs E r)) → w'.heap[b]? = w.heap[b]?
section
variable {E E' : TypeId} {w w1 w2 w' : World}
theorem Away.refl (E : TypeId) (w : World) : Away E w w := ⟨Nat.le_refl _, fun _ _ _ => rfl⟩
theorem Away.trans (h : Away E w w1) (k : Away E w1 w2) : Away E w w2 :=
  ⟨Nat.le_trans h.size k.size, fun b hb hne => by
    have h1 := h.block b hb hne
    exact (k.block b (Nat.lt_of_lt_of_le hb h.size) (fun cs r => by rw [h1]; exact hne cs r)).trans h1⟩
theorem Away.below (h : Below w.heap.size w w') : Away E w w' := ⟨h.size, fun b hb _ => h.block b hb⟩
theorem Away.grown {row : Option Nat} (h : w.grownBy w' row) (hE : ∀ g, row = some g → ∃ cs r, w.heap[g]? = some (.cells cs E r)) : Away E w w' :=
  ⟨h.size, fun b hb hne => h.block b hb (fun e => by
    obtain ⟨cs, r, hc⟩ := hE b e.symm
    exact hne cs r hc)⟩
theorem Own.typed {base k : Nat} {v : Value} {rows : List (List Value)} (h : Own w base E k v rows) : ∀ g, v.ownBlock = some g → ∃ cs r, w.heap[g]? = some (.cells cs E r) := by
  intro g hg
  rcases h.2.2 with ⟨rfl, _⟩ | ⟨g', cap, cur, rfl, _, hh, _⟩
  · simp [Value.ownBlock] at hg
  · simp [Value.ownBlock] at hg
    subst hg
    exact ⟨cur, (0, 0), hh⟩
theorem Own.away {base k : Nat} {v : Value} {rows : List (List Value)} (h : Own w base E' k v rows) (ha : Away E w w') (hne : E' ≠ E) : Own w' base E' k v rows := by
  refine ⟨h.1, h.2.1, ?_⟩
  rcases h.2.2 with h2 | ⟨g, cap, cur, hv, hg, hh, r⟩
  · exact .inl h2
  · refine .inr ⟨g, cap, cur, hv, hg, ?_, r⟩
    rw [ha.block g (Array.getElem?_eq_some_iff.1 hh).1 (fun cs r e => by
      rw [hh] at e
      injection e with e
      injection e with _ e _
      exact hne e)]
    exact hh
theorem Own.good {base k : Nat} {A : Option Addr} {n c : Nat} {rows : List (List Value)} (h : Own w base E k (.slice A n c) rows) : Rs w k rows A c := by
  obtain ⟨A', c', hv, hrs, _⟩ := h.rs
  injection hv with e1 e2 e3
  subst e1 e3
  exact hrs
theorem Away.set (w : World) {p : Addr} (u : Value) (h : ∃ cs r, w.heap[p.block]? = some (.cells cs E r)) : Away E w (w.setCell p u) :=
  ⟨by simp [World.setCell], fun b _ hne => Below.heap_setCell w p u b (fun e => by
    obtain ⟨cs, r, hc⟩ := h
    exact hne cs r (by rw [e]; exact hc))⟩
theorem Away.setTy (h : Away E w w1) {p : Addr} (ht : ∃ cs r, w.heap[p.block]? = some (.cells cs E r)) (u : Value) : Away E w (w1.setCell p u) :=
  ⟨by simpa [World.setCell] using h.size, fun b hb hne => (Below.heap_setCell w1 p u b (fun e => by
    obtain ⟨cs, r, hc⟩ := ht
    exact hne cs r (by rw [e]; exact hc))).trans (h.block b hb hne)⟩
theorem Away.only {g : Nat} (h : Only g w w') (ht : ∃ cs r, w.heap[g]? = some (.cells cs E r)) : Away E w w' :=
  ⟨h.size, fun b hb hne => h.block b hb (fun e => by
    obtain ⟨cs, r, hc⟩ := ht
    exact hne cs r (by rw [e]; exact hc))⟩
theorem Own.at {base k : Nat} {A : Option Addr} {n c : Nat} {rows : List (List Value)} (h : Own w base E k (.slice A n c) rows) (h0 : 0 < rows.length) : ∃ g, A = some ⟨g, 0, none⟩ ∧ base ≤ g ∧ g < w.heap.size := by
  obtain ⟨A', c', hv, _, hf⟩ := h.rs
  injection hv with e1 e2 e3
  subst e1 e3
  rcases hf with ⟨_, h2, _⟩ | hg
  · rw [h2] at h0; simp at h0
  · exact hg
theorem grown_of_below {row : Option Nat} (h : Below w.heap.size w w') : w.grownBy w' row := ⟨h.os, h.tape, h.output, h.size, fun k hk _ => h.block k hk⟩
theorem grown_of_only {g : Nat} (h : Only g w w1) (k : Only g w1 w2) : w.grownBy w2 (some g) :=
  ⟨(h.trans k).os, (h.trans k).tape, (h.trans k).output, (h.trans k).size, fun b hb hne => (h.trans k).block b hb (fun e => hne (by rw [e]))⟩
end
theorem wp_appG {P : Program} {o : Oper} {a : Act} {K : Act → World → Prop} {Q : Exit → Act → World → Prop} {w : World} (s x : Operand) (T : TypeId)
    (ho : o.op = .call { callee := .builtin .append, args := #[s, x], argTypes := #[T, T] }) {E k bytes : Nat} (el : Elem P T E k bytes)
    (base : Nat) (v : Value) (rows : List (List Value)) (hs : a.eval s = v) (hown : Own w base E k v rows)
    (ad : Addr) (m c : Nat) (hx : a.eval x = .slice (some ad) m c) (news : List (List Value)) (hm : news.length = m) (hr : Rd w (some ad) k news) (hk : ∀ r ∈ news, r.length = k ∧ ∀ u ∈ r, u.oneCell' = true)
    (h63 : rows.length + m ≤ maxLen) (hbytes : (rows.length + m) * bytes ≤ 140737488355328) (hbase : base ≤ w.heap.size)
    (h : ∀ v' w', Own w' base E k v' (rows ++ news) → Below base w w' → w.grownBy w' v.ownBlock → K (a.put o.dst v') w') : o.wp P a w K Q := by
  obtain ⟨i, z, hi, hz, hsize, hby, hzs⟩ := el.info
  have hkl : ∀ r ∈ news, r.length = k := fun r hr => (hk r hr).1
  have hall : ∀ r ∈ rows ++ news, r.length = k := fun r hr => by
    rcases List.mem_append.1 hr with h1 | h1
    · exact hown.1 r h1
    · exact hkl r h1
  refine wp_append_own w s x T ho base E i z k bytes el.ty hi hz hsize hby hzs el.pos v rows.length rows.flatten hs hown.2 ad m c news.flatten hx (by rw [flatten_length hkl, hm]) (rd_cells hkl hr) (fun u hu => by
      obtain ⟨r, hr1, hr2⟩ := List.mem_flatten.1 hu
      exact (hk r hr1).2 u hr2) h63 hbytes hbase fun v' w' h1 h2 _ => ?_
  exact h v' w' ⟨hall, by rw [List.length_append, hm, List.flatten_append]; exact h1⟩ ((Below.refl base w).grown h2 hbase (fun g hg => (hown.block g hg).1)) h2
theorem wpList_appG {P : Program} {ops : Array Oper} {rest : List Oper} {o : Oper} {a : Act} {Q : Exit → Act → World → Prop} {w : World} (hgd : o.guard = none) (s x : Operand) (T : TypeId)
    (ho : o.op = .call { callee := .builtin .append, args := #[s, x], argTypes := #[T, T] }) {E k bytes : Nat} (el : Elem P T E k bytes)
    (base : Nat) (v : Value) (rows : List (List Value)) (hs : a.eval s = v) (hown : Own w base E k v rows)
    (ad : Addr) (m c : Nat) (hx : a.eval x = .slice (some ad) m c) (news : List (List Value)) (hm : news.length = m) (hr : Rd w (some ad) k news) (hk : ∀ r ∈ news, r.length = k ∧ ∀ u ∈ r, u.oneCell' = true)
    (h63 : rows.length + m ≤ maxLen) (hbytes : (rows.length + m) * bytes ≤ 140737488355328) (hbase : base ≤ w.heap.size)
    (h : ∀ v' w', Own w' base E k v' (rows ++ news) → Below base w w' → w.grownBy w' v.ownBlock → wpList P ops Q rest (a.put o.dst v') w') : wpList P ops Q (o :: rest) a w :=
  wpList_plain hgd fun _ hK => wp_appG s x T ho el base v rows hs hown ad m c hx news hm hr hk h63 hbytes hbase fun v' w' h1 h2 h3 => hK _ _ (h v' w' h1 h2 h3)
end Go.Proofs.Ytiidplinmempcaa
