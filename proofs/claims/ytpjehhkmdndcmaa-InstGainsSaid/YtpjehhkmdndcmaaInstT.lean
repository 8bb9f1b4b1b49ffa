/- Instruments: the type. -/
import Derived.Test.YtpjehhkmdndcmaaOwn
import Derived.Test.YtpjehhkmdndcmaaNum
namespace Go.Proofs.Ytpjehhkmdndcmaa
open Go.RowKit
structure Inst where
  id : Int
  mult : Int
  price : Int
  next : Int
  moves : List Int
  deriving DecidableEq
def pricedI (p : Int) : Bool := decide (0 ≤ p) && decide (p ≤ 2147483647)
theorem pricedI_iff {p : Int} : pricedI p = true ↔ 0 ≤ p ∧ p ≤ 2147483647 := by simp [pricedI]
theorem pricedI_no {p : Int} (h : pricedI p = false) : ¬ (0 ≤ p ∧ p ≤ 2147483647) := fun k => by rw [pricedI_iff.2 k] at h; cases h
def farI (m : Int) : Bool := decide (m < -2147483647) || decide (2147483647 < m)
def anyFar (l : List Int) : Bool := l.any farI
/-- Whether an instrument may be. -/
def okI (x : Inst) : Prop := 1 ≤ x.id ∧ x.id ≤ 8 ∧ 1 ≤ x.mult ∧ x.mult ≤ 65536 ∧ (0 ≤ x.price ∧ x.price ≤ 2147483647) ∧ (0 ≤ x.next ∧ x.next ≤ 2147483647) ∧ x.moves.length ≤ 8 ∧ anyFar x.moves = false
instance (x : Inst) : Decidable (okI x) := by unfold okI; infer_instance
def codeI (x : Inst) : Int := if okI x then 0 else 2
theorem codeI_yes {x : Inst} (h : okI x) : codeI x = 0 := if_pos h
theorem codeI_no {x : Inst} (h : ¬ okI x) : codeI x = 2 := if_neg h
theorem okI_move {x : Inst} (h : okI x) {k : Nat} (hk : k < x.moves.length) : -2147483647 ≤ x.moves[k] ∧ x.moves[k] ≤ 2147483647 := by
  have h1 := h.2.2.2.2.2.2.2
  unfold anyFar at h1
  rw [List.any_eq_false] at h1
  have h2 := h1 _ (List.getElem_mem hk)
  simp [farI] at h2
  omega
/-- Whether all that a gain asks is there. -/
def okG (x : Inst) (f t : Int) : Prop := okI x ∧ (0 ≤ f ∧ f ≤ 2147483647) ∧ (0 ≤ t ∧ t ≤ 2147483647)
instance (x : Inst) (f t : Int) : Decidable (okG x f t) := by unfold okG; infer_instance
def gainI (x : Inst) (q f t : Int) : Int := q * x.mult * (t - f)
def okS (x : Inst) (s : Int) : Prop := okI x ∧ 0 ≤ s ∧ s < x.moves.length
instance (x : Inst) (s : Int) : Decidable (okS x s) := by unfold okS; infer_instance
def shockI (x : Inst) (q s : Int) : Int := if okS x s then q * x.mult * x.moves.getD s.toNat 0 else 0
end Go.Proofs.Ytpjehhkmdndcmaa
