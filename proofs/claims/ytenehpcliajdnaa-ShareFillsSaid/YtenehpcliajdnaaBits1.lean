/- Rows of bits: product, quotient, shift. Plain. -/
import Derived.Test.YtenehpcliajdnaaBits0
namespace Go.Proofs.Ytenehpcliajdnaa
theorem val_cons (b : Int) (l : List Int) : val (b :: l) = b + 2 * val l := rfl
theorem bit_cons {b : Int} {l : List Int} (h : Bit l) (h0 : 0 ≤ b) (h1 : b ≤ 1) : Bit (b :: l) := by
  intro x hx
  rcases List.mem_cons.1 hx with e | e
  · subst e; exact ⟨h0, h1⟩
  · exact h x e
theorem top_cons {b : Int} {l : List Int} (h : Top l) (hne : l ≠ []) : Top (b :: l) := by
  intro x hx
  rw [List.getLast?_cons_of_ne_nil hne] at hx
  exact h x hx
/-- The row of round i: la, i places up. -/
theorem row_next {R la : List Int} {i : Nat} (h : val R = pw i * val la) : val (0 :: R) = pw (i + 1) * val la := by
  rw [val_cons, h, pw_succ, Int.mul_assoc]; omega
theorem sum_one {S S' R la lb : List Int} {i : Nat} (hS : val S = val la * val (lb.take i)) (hR : val R = pw i * val la) (hb : lb.getD i 0 = 1) (hS' : val S' = val S + val R) : val S' = val la * val (lb.take (i + 1)) := by
  rw [hS', hS, hR, take_succD, hb, Int.mul_add, Int.mul_one, Int.mul_comm (pw i)]
theorem sum_none {S la lb : List Int} {i : Nat} (hS : val S = val la * val (lb.take i)) (hb : lb.getD i 0 = 0) : val S = val la * val (lb.take (i + 1)) := by
  rw [hS, take_succD, hb, Int.mul_zero, Int.add_zero]
/-- One round of the long division: the next bit below. -/
theorem quo_step {q : List Int} {r r' d bit x v v' : Int} (hq : val q * d + r = v) (hx : v' = x + 2 * v) (hr : 2 * r + x = bit * d + r') : val (bit :: q) * d + r' = v' := by
  rw [val_cons, Int.add_mul, Int.mul_assoc]; omega
end Go.Proofs.Ytenehpcliajdnaa
