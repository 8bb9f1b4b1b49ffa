/- Contracts of wide.Int, Cmp, Sign, Mul, Neg. -/
import Derived.Test.YtenehpcliajdnaaWide1
namespace Go.Proofs.Ytenehpcliajdnaa
open Go.RowKit

set_option maxHeartbeats 400000 in
theorem wideIntYes (n : Int) (w : World) (h : In64 n) :
    Calls Try.prog 45 #[(.agg #[.int .i64 (whi (n)), .int .u64 (wlo (n))])] w fun e w' => e = .returned (.tuple #[.int .i64 n, .int .i64 0]) ∧ Below w.heap.size w w' := by
  have h2 := wlo_u n
  have e1 : IntKind.i64.wrap (wlo n) = n := by unfold In64 at h; rw [IntKind.wrap_i64]; unfold wlo; omega
  go_enter Try.func45, Try.ntmps45
  go_wp2
  go_region_held3 (fun w' => w'.cell? ⟨w.heap.size, 0, none⟩ = some (.int .i64 (whi n)) ∧ w'.cell? ⟨w.heap.size, 1, none⟩ = some (.int .u64 (wlo n))) (first | (simp [go_sem]; done) | (repeat' (first | (with_reducible assumption) | (with_reducible refine And.intro ?_ ?_) | (with_reducible refine cell_drew ?_) | (with_reducible refine cell_via (by with_reducible assumption) ?_ ?_) | (simp [*]; done) | (simp [go_sem]; done) | (with_reducible refine cell_alloc ?_ ?_) | (with_reducible refine cell_set_far ?_ ?_) | omega | (simp; omega)))) (first | (go_at_call 76; (with_reducible refine (wideOf n _ h).mono ?_); rintro e w1 ⟨rfl, hb1⟩; obtain ⟨fc1, fg1, hc1, hf1, hz1⟩ := bget hb1; try simp at hz1))
  go_wp2
  go_ret2
  exact ⟨rfl, by (repeat' (first | (with_reducible exact Below.refl _ _) | (with_reducible assumption) | (with_reducible refine Below.alloc ?_ ?_ _) | (with_reducible refine Below.setCell ?_ ?_ _) | (with_reducible refine Below.drew ?_) | (with_reducible refine below_drewN ?_ _) | (with_reducible refine below_via ?_ (by with_reducible assumption) ?_) | omega | (simp; done) | (simp; omega)))⟩
set_option maxHeartbeats 400000 in
theorem wideIntNo (n : Int) (w : World) (h : In128 n) (hno : ¬ In64 n) :
    Calls Try.prog 45 #[(.agg #[.int .i64 (whi (n)), .int .u64 (wlo (n))])] w fun e w' => e = .returned (.tuple #[.int .i64 0, .int .i64 7]) ∧ Below w.heap.size w w' := by
  have h2 := wlo_u n
  obtain ⟨m, hm⟩ : ∃ m, m = IntKind.i64.wrap (wlo n) := ⟨_, rfl⟩
  have hm64 : In64 m := by rw [hm]; unfold In64; rw [IntKind.wrap_i64]; omega
  have hne : (whi m == whi n) = false := by
    rw [beq_eq_false_iff_ne]; intro he; apply hno; rw [hm] at he; rw [IntKind.wrap_i64] at he; unfold In128 at h; unfold In64; unfold whi wlo at *; omega
  have e1 : IntKind.i64.wrap (wlo n) = m := hm.symm
  clear hm
  go_enter Try.func45, Try.ntmps45
  go_wp2
  go_region_held3 (fun w' => w'.cell? ⟨w.heap.size, 0, none⟩ = some (.int .i64 (whi n)) ∧ w'.cell? ⟨w.heap.size, 1, none⟩ = some (.int .u64 (wlo n))) (first | (simp [go_sem]; done) | (repeat' (first | (with_reducible assumption) | (with_reducible refine And.intro ?_ ?_) | (with_reducible refine cell_drew ?_) | (with_reducible refine cell_via (by with_reducible assumption) ?_ ?_) | (simp [*]; done) | (simp [go_sem]; done) | (with_reducible refine cell_alloc ?_ ?_) | (with_reducible refine cell_set_far ?_ ?_) | omega | (simp; omega)))) (first | (go_at_call 76; (with_reducible refine (wideOf m _ hm64).mono ?_); rintro e w1 ⟨rfl, hb1⟩; obtain ⟨fc1, fg1, hc1, hf1, hz1⟩ := bget hb1; try simp at hz1))
  go_wp2
  go_ret2
  exact ⟨rfl, by (repeat' (first | (with_reducible exact Below.refl _ _) | (with_reducible assumption) | (with_reducible refine Below.alloc ?_ ?_ _) | (with_reducible refine Below.setCell ?_ ?_ _) | (with_reducible refine Below.drew ?_) | (with_reducible refine below_drewN ?_ _) | (with_reducible refine below_via ?_ (by with_reducible assumption) ?_) | omega | (simp; done) | (simp; omega)))⟩

/-- The order of two numbers. -/
def ord (a b : Int) : Int := if a < b then -1 else if b < a then 1 else 0

set_option maxHeartbeats 400000 in
theorem cmpInt64 (a b : Int) (w : World) :
    Calls Try.prog 86 #[.int .i64 a, .int .i64 b] w fun e w' => e = .returned (.int .i64 (ord a b)) ∧ w = w' := by
  go_enter Try.func86, Try.ntmps86
  go_wp2
  all_goals (go_ret; exact ⟨ret_int (by unfold ord; repeat' split <;> omega), rfl⟩)
def orOf (a b : Int) : Int := if a = 0 then b else a
set_option maxHeartbeats 400000 in
theorem cmpOr2 (a b : Int) (w : World) (g o c : Nat) (h0 : w.cell? ⟨g, o, none⟩ = some (.int .i64 a)) (h1 : w.cell? ⟨g, o + 1, none⟩ = some (.int .i64 b)) :
    Calls Try.prog 85 #[.slice (some ⟨g, o, none⟩) 2 c] w fun e w' => e = .returned (.int .i64 (orOf a b)) ∧ w = w' := by
  by_cases ha : a = 0
  · subst ha
    have d1 : ((0 : Int) != 0) = false := rfl
    by_cases hb : b = 0
    · subst hb
      go_enter Try.func85, Try.ntmps85
      go_wp2
      go_rounds 3
      go_ret
      exact ⟨rfl, rfl⟩
    · have d2 : (b != 0) = true := by simpa using hb
      go_enter Try.func85, Try.ntmps85
      go_wp2
      go_rounds 3
      go_ret
      exact ⟨rfl, rfl⟩
  · have d1 : (a != 0) = true := by simpa using ha
    go_enter Try.func85, Try.ntmps85
    go_wp2
    go_rounds 3
    go_ret
    exact ⟨ret_int (by simp [orOf, ha]), rfl⟩

theorem fieldSizeLo (x y : Int) (w : World) : (Instr.field 115 (.agg #[.int .u64 x, .int .u64 y]) 1).run Try.prog w = .ok (.int .u64 y) w := by kernel_rfl
attribute [local go_sem] fieldSizeLo
set_option maxRecDepth 100000 in
set_option maxHeartbeats 1000000 in
theorem wideMul (a b : Int) (w : World) (ha : In64 a) (hb : In64 b) :
    Calls Try.prog 69 #[.int .i64 a, .int .i64 b] w fun e w' => e = .returned (.agg #[.int .i64 (whi (a * b)), .int .u64 (wlo (a * b))]) ∧ Below w.heap.size w w' := by
  have a128 : In128 a := in128_of64 ha
  have b128 : In128 b := in128_of64 hb
  have ea := wlo_abs64 ha
  have eb := wlo_abs64 hb
  have b1 := mul64_128 ha hb
  have b2 := iabs_mul a b
  have b3 : 0 ≤ iabs a * iabs b ∧ iabs a * iabs b < 340282366920938463463374607431768211456 := by rw [b2]; unfold In128 at b1; unfold iabs; split <;> omega
  have u1 : 0 ≤ iabs a ∧ iabs a ≤ 18446744073709551615 := by unfold In64 at ha; unfold iabs; split <;> omega
  have u2 : 0 ≤ iabs b ∧ iabs b ≤ 18446744073709551615 := by unfold In64 at hb; unfold iabs; split <;> omega
  have fin : wrap128 (sgn (!(decide (a < 0) == decide (b < 0))) (iabs a * iabs b)) = a * b := by rw [show (!(decide (a < 0) == decide (b < 0))) = (decide (a < 0) != decide (b < 0)) from rfl, sgn_mul, wrap128_in b1]
  clear b2
  go_enter Try.func69, Try.ntmps69
  go_wp2_with (first | (go_at_call 76; (with_reducible refine (wideOf a _ ha).mono ?_); rintro e w1 ⟨rfl, hb1⟩; obtain ⟨fc1, fg1, hc1, hf1, hz1⟩ := bget hb1; try simp at hz1) | (go_at_call 76; (with_reducible refine (wideOf b _ hb).mono ?_); rintro e w2 ⟨rfl, hb2⟩; obtain ⟨fc2, fg2, hc2, hf2, hz2⟩ := bget hb2; try simp at hz2))
  go_region_held3 (fun w' => w'.cell? ⟨w2.heap.size, 0, none⟩ = some (.int .i64 (whi a)) ∧ w'.cell? ⟨w2.heap.size, 1, none⟩ = some (.int .u64 (wlo a)) ∧ w'.cell? ⟨w2.heap.size + 1, 0, none⟩ = some (.int .i64 (whi b)) ∧ w'.cell? ⟨w2.heap.size + 1, 1, none⟩ = some (.int .u64 (wlo b))) (first | (simp [go_sem]; done) | (repeat' (first | (with_reducible assumption) | (with_reducible refine And.intro ?_ ?_) | (with_reducible refine cell_drew ?_) | (with_reducible refine cell_via (by with_reducible assumption) ?_ ?_) | (simp [*]; done) | (simp [go_sem]; done) | (with_reducible refine cell_alloc ?_ ?_) | (with_reducible refine cell_set_far ?_ ?_) | omega | (simp; omega)))) (first | (go_at_call 71; (with_reducible refine (wideSize a _ a128).mono ?_); rintro e w3 ⟨rfl, hb3⟩; obtain ⟨fc3, fg3, hc3, hf3, hz3⟩ := bget hb3; try simp at hz3) | (go_at_call 71; (with_reducible refine (wideSize b _ b128).mono ?_); rintro e w4 ⟨rfl, hb4⟩; obtain ⟨fc4, fg4, hc4, hf4, hz4⟩ := bget hb4; try simp at hz4) | (go_at_call 90; (with_reducible refine (mul64 _ _ _ u1.1 u1.2 u2.1 u2.2).mono ?_); rintro e w5 ⟨rfl, rfl⟩))
  go_wp2
  go_region_held3 (fun w' => w'.cell? ⟨w2.heap.size, 0, none⟩ = some (.int .i64 (whi a)) ∧ w'.cell? ⟨w2.heap.size, 1, none⟩ = some (.int .u64 (wlo a)) ∧ w'.cell? ⟨w2.heap.size + 1, 0, none⟩ = some (.int .i64 (whi b)) ∧ w'.cell? ⟨w2.heap.size + 1, 1, none⟩ = some (.int .u64 (wlo b))) (first | (simp [go_sem]; done) | (repeat' (first | (with_reducible assumption) | (with_reducible refine And.intro ?_ ?_) | (with_reducible refine cell_drew ?_) | (with_reducible refine cell_via (by with_reducible assumption) ?_ ?_) | (simp [*]; done) | (simp [go_sem]; done) | (with_reducible refine cell_alloc ?_ ?_) | (with_reducible refine cell_set_far ?_ ?_) | omega | (simp; omega)))) (first | ((go_at_call 73; (with_reducible refine (wideBelow a _ a128).mono ?_); rintro e w5 ⟨rfl, hb5⟩; obtain ⟨fc5, fg5, hc5, hf5, hz5⟩ := bget hb5; try simp at hz5)) | ((go_at_call 73; (with_reducible refine (wideBelow b _ b128).mono ?_); rintro e w6 ⟨rfl, hb6⟩; obtain ⟨fc6, fg6, hc6, hf6, hz6⟩ := bget hb6; try simp at hz6)) | ((go_at_call 75; (with_reducible refine (wideSigned _ _ _ b3.1 b3.2).mono ?_); rintro e w7 ⟨rfl, hb7⟩; obtain ⟨fc7, fg7, hc7, hf7, hz7⟩ := bget hb7; try simp at hz7)))
  go_wp2
  all_goals
    refine bodyPost_ret (by simp [results, Try.results69, go_sem, ↓IntWalk.iteOmega, hc1, hc2, hc3, hc4, hc5, hc6, hc7]; try rfl) rfl ⟨rfl, ?_⟩
    (repeat' (first | (with_reducible exact Below.refl _ _) | (with_reducible assumption) | (with_reducible refine Below.alloc ?_ ?_ _) | (with_reducible refine Below.setCell ?_ ?_ _) | (with_reducible refine Below.drew ?_) | (with_reducible refine below_drewN ?_ _) | (with_reducible refine below_via ?_ (by with_reducible assumption) ?_) | omega | (simp; done) | (simp; omega)))
end Go.Proofs.Ytenehpcliajdnaa
