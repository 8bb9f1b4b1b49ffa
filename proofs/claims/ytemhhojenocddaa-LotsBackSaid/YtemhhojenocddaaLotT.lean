/- Lots: the type; which may be, how they stand; what any are with one more, or without some of one. No program in sight. -/
import Derived.Test.YtemhhojenocddaaWhile
import Derived.Test.YtemhhojenocddaaWide2
namespace Go.Proofs.Ytemhhojenocddaa
open Go.RowKit
structure Lot where
  asset : Int
  tag : Int
  qty : Int
  deriving DecidableEq
def encLot (x : Lot) : List Value := [.int .i64 x.asset, .int .i64 x.tag, .int .i64 x.qty]
def okLot (x : Lot) : Prop := In64 x.asset ∧ In64 x.tag ∧ In64 x.qty
theorem rowsLot (l : List Lot) : ∀ r ∈ l.map encLot, r.length = 3 ∧ ∀ u ∈ r, u.oneCell' = true := by
  intro r hr
  obtain ⟨m, _, rfl⟩ := List.mem_map.1 hr
  refine ⟨rfl, ?_⟩
  simp only [encLot, List.mem_cons, List.not_mem_nil, or_false, forall_eq_or_imp, forall_eq]
  exact ⟨rfl, rfl, rfl⟩
theorem encLot_inj {x y : Lot} (h : encLot x = encLot y) : x = y := by
  unfold encLot at h
  simp only [List.cons.injEq, Value.int.injEq, and_true, true_and] at h
  obtain ⟨h0, h1, h2⟩ := h
  obtain ⟨xasset, xtag, xqty⟩ := x
  obtain ⟨yasset, ytag, yqty⟩ := y
  simp only at h0 h1 h2
  subst h0 h1 h2
  rfl
theorem neqLot {x y : Lot} (h : x ≠ y) : ((x.asset == y.asset) = false) ∨ ((x.tag == y.tag) = false) ∨ ((x.qty == y.qty) = false) := by
  cases h0 : (x.asset == y.asset)
  · simp
  cases h1 : (x.tag == y.tag)
  · simp
  cases h2 : (x.qty == y.qty)
  · simp
  · exfalso
    apply h
    obtain ⟨xasset, xtag, xqty⟩ := x
    obtain ⟨yasset, ytag, yqty⟩ := y
    simp_all
def rightL (x : Lot) : Bool := decide (1 ≤ x.asset) && decide (x.asset ≤ 4) && decide (0 ≤ x.tag) && decide (x.tag ≤ 255) && decide (0 < x.qty)
theorem rightL_iff {x : Lot} : rightL x = true ↔ 1 ≤ x.asset ∧ x.asset ≤ 4 ∧ 0 ≤ x.tag ∧ x.tag ≤ 255 ∧ 0 < x.qty := by simp [rightL, and_assoc]
theorem rightL_no {x : Lot} (h : ¬ (1 ≤ x.asset ∧ x.asset ≤ 4 ∧ 0 ≤ x.tag ∧ x.tag ≤ 255 ∧ 0 < x.qty)) : rightL x = false := by
  cases hr : rightL x
  · rfl
  · exact absurd (rightL_iff.1 hr) h
/-- How two lots stand: by assets, then by tags. -/
def ordL (a b : Lot) : Int := orOf (ord a.asset b.asset) (ord a.tag b.tag)
def ltL (a b : Lot) : Bool := decide (ordL a b < 0)
def eqL (a b : Lot) : Bool := ordL a b == 0
theorem ltL_iff {a b : Lot} : ltL a b = true ↔ a.asset < b.asset ∨ (a.asset = b.asset ∧ a.tag < b.tag) := by
  unfold ltL ordL orOf ord
  rw [decide_eq_true_eq]
  repeat' split
  all_goals omega
theorem eqL_iff {a b : Lot} : eqL a b = true ↔ a.asset = b.asset ∧ a.tag = b.tag := by
  unfold eqL ordL orOf ord
  rw [beq_iff_eq]
  repeat' split
  all_goals omega
theorem ltL_no {a b : Lot} (h : ¬ (a.asset < b.asset ∨ (a.asset = b.asset ∧ a.tag < b.tag))) : ltL a b = false := by
  cases hr : ltL a b
  · rfl
  · exact absurd (ltL_iff.1 hr) h
theorem eqL_no {a b : Lot} (h : ¬ (a.asset = b.asset ∧ a.tag = b.tag)) : eqL a b = false := by
  cases hr : eqL a b
  · rfl
  · exact absurd (eqL_iff.1 hr) h
/-- Lots that may be, each behind the one ahead of it. -/
def isR : Option Lot → List Lot → Bool
  | _, [] => true
  | none, x :: t => rightL x && isR (some x) t
  | some p, x :: t => rightL x && ltL p x && isR (some x) t
def isL (l : List Lot) : Bool := isR none l && decide (l.length ≤ 16)
def codeL (l : List Lot) (x : Lot) : Int := if isL l then (if rightL x then 0 else 2) else 3
def qtyL (l : List Lot) (a : Int) : List Int := (l.filter (fun x => x.asset == a)).map (·.qty)
def sumL (l : List Lot) (a : Int) : Int := (qtyL l a).sum
def getL (l : List Lot) (a t : Int) : Int := match l.find? (fun x => x.asset == a && x.tag == t) with | some x => x.qty | none => 0
def plL (l : List Lot) (x : Lot) : Nat := (l.takeWhile (fun y => decide (ordL y x < 0))).length
def thL (l : List Lot) (x : Lot) : Bool := atB (fun y => ordL y x == 0) l (plL l x)
def SortL (l : List Lot) : Prop := l.Pairwise (fun a b => ltL a b = true)
theorem ltL_trans {a b c : Lot} (h : ltL a b = true) (k : ltL b c = true) : ltL a c = true := by
  rw [ltL_iff] at *; omega
theorem isR_sort : ∀ {l : List Lot} {p : Option Lot} (_ : isR p l = true), SortL l ∧ (∀ x ∈ l, rightL x = true) ∧ ∀ q, p = some q → ∀ x ∈ l, ltL q x = true
  | [], _, _ => ⟨List.Pairwise.nil, by simp, by simp⟩
  | x :: t, p, h => by
    have ⟨h0, h1, h2⟩ : rightL x = true ∧ isR (some x) t = true ∧ ∀ q, p = some q → ltL q x = true := by
      cases p with
      | none => simp only [isR, Bool.and_eq_true] at h; exact ⟨h.1, h.2, fun q hq => by cases hq⟩
      | some q => simp only [isR, Bool.and_eq_true] at h; exact ⟨h.1.1, h.2, fun q' hq => by injection hq with e; subst e; exact h.1.2⟩
    have ⟨i1, i2, i3⟩ := isR_sort h1
    have i4 := i3 x rfl
    refine ⟨List.pairwise_cons.2 ⟨i4, i1⟩, fun y hy => ?_, fun q hq y hy => ?_⟩
    · rcases List.mem_cons.1 hy with rfl | hy
      · exact h0
      · exact i2 y hy
    · rcases List.mem_cons.1 hy with rfl | hy
      · exact h2 q hq
      · exact ltL_trans (h2 q hq) (i4 y hy)
theorem isL_sort {l : List Lot} (h : isL l = true) : SortL l ∧ (∀ x ∈ l, rightL x = true) ∧ l.length ≤ 16 := by
  unfold isL at h
  rw [Bool.and_eq_true, decide_eq_true_eq] at h
  have := isR_sort h.1
  exact ⟨this.1, this.2.1, h.2⟩
/-- What Put answers. -/
def putLC (l : List Lot) (x : Lot) : Int := if codeL l x = 0 then (if thL l x then (if in64 ((l.getD (plL l x) ⟨0, 0, 0⟩).qty + x.qty) then 0 else 7) else if 16 ≤ l.length then 25 else 0) else codeL l x
def putLL (l : List Lot) (x : Lot) : List Lot := if putLC l x = 0 then (if thL l x then l.set (plL l x) ⟨x.asset, x.tag, (l.getD (plL l x) ⟨0, 0, 0⟩).qty + x.qty⟩ else l.take (plL l x) ++ x :: l.drop (plL l x)) else []
/-- What Take answers. -/
def takLC (l : List Lot) (x : Lot) : Int := if codeL l x = 0 then (if thL l x = true ∧ x.qty ≤ (l.getD (plL l x) ⟨0, 0, 0⟩).qty then 0 else 23) else codeL l x
def takLL (l : List Lot) (x : Lot) : List Lot := if takLC l x = 0 then (if (l.getD (plL l x) ⟨0, 0, 0⟩).qty = x.qty then l.take (plL l x) ++ l.drop (plL l x + 1) else l.set (plL l x) ⟨x.asset, x.tag, (l.getD (plL l x) ⟨0, 0, 0⟩).qty - x.qty⟩) else []
theorem plL_le (l : List Lot) (x : Lot) : plL l x ≤ l.length := tw_len _ _
theorem thL_lt {l : List Lot} {x : Lot} (h : thL l x = true) : plL l x < l.length := by
  rcases Nat.lt_or_ge (plL l x) l.length with h1 | h1
  · exact h1
  · rw [show thL l x = false from atB_none h1] at h; cases h
theorem thL_eq {l : List Lot} {x : Lot} (h : thL l x = true) : (l[plL l x]'(thL_lt h)).asset = x.asset ∧ (l[plL l x]'(thL_lt h)).tag = x.tag := by
  have h1 : eqL (l[plL l x]'(thL_lt h)) x = true := by rw [← h]; exact (atB_some (p := fun y => ordL y x == 0) (thL_lt h)).symm
  exact eqL_iff.1 h1
end Go.Proofs.Ytemhhojenocddaa
