/- Plain numbers of 64 and 128 bits, and small laws on worlds: no program in sight. -/
import Derived.WalkKit
import Derived.Deep.Draws
import Derived.Lib.Hide
namespace Go.Proofs.Ytenehpcliajdnaa
open Go.RowKit
def whi (n : Int) : Int := n / 18446744073709551616
def wlo (n : Int) : Int := n % 18446744073709551616
/-- One of 128 bits, with a sign. -/
def In128 (n : Int) : Prop := -170141183460469231731687303715884105728 ≤ n ∧ n < 170141183460469231731687303715884105728
def In64 (n : Int) : Prop := -9223372036854775808 ≤ n ∧ n ≤ 9223372036854775807
def U64 (n : Int) : Prop := 0 ≤ n ∧ n ≤ 18446744073709551615
theorem whi_wlo (n : Int) : whi n * 18446744073709551616 + wlo n = n := by unfold whi wlo; omega
theorem wlo_u (n : Int) : 0 ≤ wlo n ∧ wlo n ≤ 18446744073709551615 := by unfold wlo; omega
theorem whi_i {n : Int} (h : In128 n) : -9223372036854775808 ≤ whi n ∧ whi n ≤ 9223372036854775807 := by unfold In128 at h; unfold whi; omega

/-- What a contract's 'Below' gives the walk that goes on behind the call: rules without side conditions; the 'if' is decided by arithmetic. -/
theorem bget {B : Nat} {W w1 : World} (hb : Below B W w1) : ∃ (f : Nat → Nat → Option Value) (g : Nat → Nat → Bool), (∀ b o, w1.cell? ⟨b, o, none⟩ = if b < B then W.cell? ⟨b, o, none⟩ else f b o) ∧ (∀ b o, w1.frozen? ⟨b, o, none⟩ = if b < B then W.frozen? ⟨b, o, none⟩ else g b o) ∧ W.heap.size ≤ w1.heap.size :=
  ⟨fun b o => w1.cell? ⟨b, o, none⟩, fun b o => w1.frozen? ⟨b, o, none⟩, fun b o => by split <;> first | rfl | exact hb.cell (p := ⟨b, o, none⟩) (by assumption), fun b o => by split <;> first | rfl | exact hb.frozen (p := ⟨b, o, none⟩) (by assumption), hb.size⟩
/-- A call behind what was made before it. -/
theorem below_via {B C : Nat} {a w w1 : World} (h : Below B a w) (hb : Below C w w1) (hB : B ≤ C) : Below B a w1 := h.trans (hb.mono hB)
/-- A number of 128 bits out of any. -/
def wrap128 (n : Int) : Int := (n + 170141183460469231731687303715884105728) % 340282366920938463463374607431768211456 - 170141183460469231731687303715884105728
theorem wrap128_in {n : Int} (h : In128 n) : wrap128 n = n := by unfold In128 at h; unfold wrap128; omega
theorem wrap128_is (n : Int) : In128 (wrap128 n) := by unfold In128 wrap128; omega
theorem ret_bool {a b : Prop} [Decidable a] [Decidable b] (h : a ↔ b) : Ending.returned (.bool (decide a)) = .returned (.bool (decide b)) := by simp [h]
theorem ret_int {k : IntKind} {a b : Int} (h : a = b) : Ending.returned (.int k a) = .returned (.int k b) := by rw [h]
theorem ret_agg2 {k l : IntKind} {a b c d : Int} (h : a = c) (h' : b = d) : Ending.returned (.agg #[.int k a, .int l b]) = .returned (.agg #[.int k c, .int l d]) := by rw [h, h']
theorem bool_eq {a b : Prop} [Decidable a] [Decidable b] (h : a ↔ b) : Value.bool (decide a) = .bool (decide b) := by simp [h]
theorem ret_tup2 {a b c d : Value} (h : a = c) (h' : b = d) : Ending.returned (.tuple #[a, b]) = .returned (.tuple #[c, d]) := by rw [h, h']
/-- A number without its sign. -/
def iabs (n : Int) : Int := if n < 0 then - n else n
theorem iabs_neg {n : Int} (h : n < 0) : iabs n = - n := by unfold iabs; rw [if_pos h]
theorem iabs_pos {n : Int} (h : 0 ≤ n) : iabs n = n := by unfold iabs; rw [if_neg (by omega)]
theorem iabs_nat (n : Int) : iabs n = n.natAbs := by unfold iabs; split <;> omega
/-- A number with a sign. -/
def sgn (s : Bool) (m : Int) : Int := if s then - m else m
def in128 (n : Int) : Bool := decide (-170141183460469231731687303715884105728 ≤ n ∧ n < 170141183460469231731687303715884105728)
theorem in128_true {n : Int} (h : In128 n) : in128 n = true := by unfold In128 at h; simpa [in128] using h
theorem in128_false {n : Int} (h : ¬ In128 n) : in128 n = false := by unfold In128 at h; simpa [in128] using h
theorem in128_iff {n : Int} : in128 n = true ↔ In128 n := by simp [in128, In128]
theorem sgn_abs (n : Int) : sgn (decide (n < 0)) (iabs n) = n := by unfold sgn iabs; by_cases h : n < 0 <;> simp [h]
theorem sgn_mul (a b : Int) : sgn (decide (a < 0) != decide (b < 0)) (iabs a * iabs b) = a * b := by
  unfold iabs
  by_cases h1 : a < 0 <;> by_cases h2 : b < 0 <;> simp [sgn, h1, h2, Int.neg_mul, Int.mul_neg]
theorem iabs_mul (a b : Int) : iabs a * iabs b = iabs (a * b) := by rw [iabs_nat, iabs_nat, iabs_nat, Int.natAbs_mul]; simp
theorem iabs_le {n B : Int} (h : - B ≤ n) (h' : n ≤ B) : 0 ≤ iabs n ∧ iabs n ≤ B := by unfold iabs; split <;> omega
theorem in128_of64 {n : Int} (h : In64 n) : In128 n := by unfold In64 at h; unfold In128; omega
theorem whi_zero : whi 0 = 0 := rfl
theorem wlo_zero : wlo 0 = 0 := rfl
theorem abs_mul_le {a b : Int} {A B : Nat} (ha : a.natAbs ≤ A) (hb : b.natAbs ≤ B) : (a * b).natAbs ≤ A * B := by rw [Int.natAbs_mul]; exact Nat.mul_le_mul ha hb
theorem mul64_128 {a b : Int} (ha : In64 a) (hb : In64 b) : In128 (a * b) := by
  unfold In64 at ha hb
  have := abs_mul_le (a := a) (b := b) (A := 9223372036854775808) (B := 9223372036854775808) (by omega) (by omega)
  unfold In128; omega
theorem wlo_abs64 {n : Int} (h : In64 n) : wlo (iabs n) = iabs n := by unfold In64 at h; unfold wlo iabs; split <;> omega
theorem below_drewN {B : Nat} {a w : World} (h : Below B a w) (n : Nat) : Below B a (w.drewN n) := ⟨h.os, h.tape, h.output, h.size, h.block⟩
/-! A new block: rules without side conditions; the 'if' is decided by arithmetic. -/
theorem cell_alloc_if (w : World) (cs : Array Value) (t : TypeId) (b i : Nat) : (w.alloc (.cells cs t)).cell? ⟨b, i, none⟩ = if b = w.heap.size then cs[i]? else w.cell? ⟨b, i, none⟩ := by
  split
  · rename_i h; subst h; exact World.cell?_alloc_new w cs t i
  · rename_i h; exact World.cell?_alloc_old w _ ⟨b, i, none⟩ h
theorem frozen_alloc_if (w : World) (cs : Array Value) (t : TypeId) (b i : Nat) : (w.alloc (.cells cs t)).frozen? ⟨b, i, none⟩ = if b = w.heap.size then false else w.frozen? ⟨b, i, none⟩ := by
  split
  · rename_i h; subst h; exact World.frozen?_alloc_new w cs t i
  · rename_i h; exact World.frozen?_alloc_old w _ ⟨b, i, none⟩ h
attribute [go_sem] cell_alloc_if frozen_alloc_if

/-! A cell, step by step back to where it is known. -/
theorem cell_via {B : Nat} {W w1 : World} {b o : Nat} {v : Value} (hb : Below B W w1) (hlt : b < B) (h : W.cell? ⟨b, o, none⟩ = some v) : w1.cell? ⟨b, o, none⟩ = some v := (hb.cell (p := ⟨b, o, none⟩) hlt).trans h
theorem cell_alloc {w : World} {b o : Nat} {v : Value} {x : Obj} (hlt : b < w.heap.size) (h : w.cell? ⟨b, o, none⟩ = some v) : (w.alloc x).cell? ⟨b, o, none⟩ = some v := (World.cell?_alloc_lt w x ⟨b, o, none⟩ hlt).trans h
theorem cell_drew {w : World} {a : Addr} {v : Value} (h : w.cell? a = some v) : w.drew.cell? a = some v := h
theorem cell_drewN {w : World} {a : Addr} {v : Value} {n : Nat} (h : w.cell? a = some v) : (w.drewN n).cell? a = some v := h
theorem cell_set_far {w : World} {b o : Nat} {p : Addr} {u v : Value} (hne : b ≠ p.block) (h : w.cell? ⟨b, o, none⟩ = some v) : (w.setCell p u).cell? ⟨b, o, none⟩ = some v :=
  (World.cell?_setCell_other w p ⟨b, o, none⟩ u (fun e => hne (by rw [e]))).trans h
end Go.Proofs.Ytenehpcliajdnaa
