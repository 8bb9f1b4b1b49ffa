/- Contracts of wide.Int, Cmp, Sign, Mul, Neg. -/
import Derived.Test.YtemhhojenocddaaWide1
namespace Go.Proofs.Ytemhhojenocddaa
open Go.RowKit

set_option maxHeartbeats 400000 in
theorem wideIntYes (n : Int) (w : World) (h : In64 n) :
    Calls Try.prog 119 #[(.agg #[.int .i64 (whi (n)), .int .u64 (wlo (n))])] w fun e w' => e = .returned (.tuple #[.int .i64 n, .int .i64 0]) ∧ Below w.heap.size w w' := by
  have h2 := wlo_u n
  have e1 : IntKind.i64.wrap (wlo n) = n := by unfold In64 at h; rw [IntKind.wrap_i64]; unfold wlo; omega
  go_enter Try.func119, Try.ntmps119
  go_wp2
  go_region_held3 (fun w' => w'.cell? ⟨w.heap.size, 0, none⟩ = some (.int .i64 (whi n)) ∧ w'.cell? ⟨w.heap.size, 1, none⟩ = some (.int .u64 (wlo n))) (first | (simp [go_sem]; done) | (repeat' (first | (with_reducible assumption) | (with_reducible refine And.intro ?_ ?_) | (with_reducible refine cell_drew ?_) | (with_reducible refine cell_via (by with_reducible assumption) ?_ ?_) | (simp [*]; done) | (simp [go_sem]; done) | (with_reducible refine cell_alloc ?_ ?_) | (with_reducible refine cell_set_far ?_ ?_) | omega | (simp; omega)))) (first | (go_at_call 69; (with_reducible refine (wideOf n _ h).mono ?_); rintro e w1 ⟨rfl, hb1⟩; obtain ⟨fc1, fg1, hc1, hf1, hz1⟩ := bget hb1; try simp at hz1))
  go_wp2
  go_ret2
  exact ⟨rfl, by (repeat' (first | (with_reducible exact Below.refl _ _) | (with_reducible assumption) | (with_reducible refine Below.alloc ?_ ?_ _) | (with_reducible refine Below.setCell ?_ ?_ _) | (with_reducible refine Below.drew ?_) | (with_reducible refine below_drewN ?_ _) | (with_reducible refine below_via ?_ (by with_reducible assumption) ?_) | omega | (simp; done) | (simp; omega)))⟩
set_option maxHeartbeats 400000 in
theorem wideIntNo (n : Int) (w : World) (h : In128 n) (hno : ¬ In64 n) :
    Calls Try.prog 119 #[(.agg #[.int .i64 (whi (n)), .int .u64 (wlo (n))])] w fun e w' => e = .returned (.tuple #[.int .i64 0, .int .i64 7]) ∧ Below w.heap.size w w' := by
  have h2 := wlo_u n
  obtain ⟨m, hm⟩ : ∃ m, m = IntKind.i64.wrap (wlo n) := ⟨_, rfl⟩
  have hm64 : In64 m := by rw [hm]; unfold In64; rw [IntKind.wrap_i64]; omega
  have hne : (whi m == whi n) = false := by
    rw [beq_eq_false_iff_ne]; intro he; apply hno; rw [hm] at he; rw [IntKind.wrap_i64] at he; unfold In128 at h; unfold In64; unfold whi wlo at *; omega
  have e1 : IntKind.i64.wrap (wlo n) = m := hm.symm
  clear hm
  go_enter Try.func119, Try.ntmps119
  go_wp2
  go_region_held3 (fun w' => w'.cell? ⟨w.heap.size, 0, none⟩ = some (.int .i64 (whi n)) ∧ w'.cell? ⟨w.heap.size, 1, none⟩ = some (.int .u64 (wlo n))) (first | (simp [go_sem]; done) | (repeat' (first | (with_reducible assumption) | (with_reducible refine And.intro ?_ ?_) | (with_reducible refine cell_drew ?_) | (with_reducible refine cell_via (by with_reducible assumption) ?_ ?_) | (simp [*]; done) | (simp [go_sem]; done) | (with_reducible refine cell_alloc ?_ ?_) | (with_reducible refine cell_set_far ?_ ?_) | omega | (simp; omega)))) (first | (go_at_call 69; (with_reducible refine (wideOf m _ hm64).mono ?_); rintro e w1 ⟨rfl, hb1⟩; obtain ⟨fc1, fg1, hc1, hf1, hz1⟩ := bget hb1; try simp at hz1))
  go_wp2
  go_ret2
  exact ⟨rfl, by (repeat' (first | (with_reducible exact Below.refl _ _) | (with_reducible assumption) | (with_reducible refine Below.alloc ?_ ?_ _) | (with_reducible refine Below.setCell ?_ ?_ _) | (with_reducible refine Below.drew ?_) | (with_reducible refine below_drewN ?_ _) | (with_reducible refine below_via ?_ (by with_reducible assumption) ?_) | omega | (simp; done) | (simp; omega)))⟩

/-- The order of two numbers. -/
def ord (a b : Int) : Int := if a < b then -1 else if b < a then 1 else 0

set_option maxHeartbeats 400000 in
theorem cmpInt64 (a b : Int) (w : World) :
    Calls Try.prog 110 #[.int .i64 a, .int .i64 b] w fun e w' => e = .returned (.int .i64 (ord a b)) ∧ w = w' := by
  go_enter Try.func110, Try.ntmps110
  go_wp2
  all_goals (go_ret; exact ⟨ret_int (by unfold ord; repeat' split <;> omega), rfl⟩)
set_option maxHeartbeats 400000 in
theorem cmpUint64 (a b : Int) (w : World) :
    Calls Try.prog 111 #[.int .u64 a, .int .u64 b] w fun e w' => e = .returned (.int .i64 (ord a b)) ∧ w = w' := by
  go_enter Try.func111, Try.ntmps111
  go_wp2
  all_goals (go_ret; exact ⟨ret_int (by unfold ord; repeat' split <;> omega), rfl⟩)

def orOf (a b : Int) : Int := if a = 0 then b else a
set_option maxHeartbeats 400000 in
theorem cmpOr2 (a b : Int) (w : World) (g o c : Nat) (h0 : w.cell? ⟨g, o, none⟩ = some (.int .i64 a)) (h1 : w.cell? ⟨g, o + 1, none⟩ = some (.int .i64 b)) :
    Calls Try.prog 103 #[.slice (some ⟨g, o, none⟩) 2 c] w fun e w' => e = .returned (.int .i64 (orOf a b)) ∧ w = w' := by
  by_cases ha : a = 0
  · subst ha
    have d1 : ((0 : Int) != 0) = false := rfl
    by_cases hb : b = 0
    · subst hb
      go_enter Try.func103, Try.ntmps103
      go_wp2
      go_rounds 3
      go_ret
      exact ⟨rfl, rfl⟩
    · have d2 : (b != 0) = true := by simpa using hb
      go_enter Try.func103, Try.ntmps103
      go_wp2
      go_rounds 3
      go_ret
      exact ⟨rfl, rfl⟩
  · have d1 : (a != 0) = true := by simpa using ha
    go_enter Try.func103, Try.ntmps103
    go_wp2
    go_rounds 3
    go_ret
    exact ⟨ret_int (by simp [orOf, ha]), rfl⟩

theorem ord_wide (a b : Int) : orOf (ord (whi a) (whi b)) (ord (wlo a) (wlo b)) = ord a b := by
  unfold orOf ord whi wlo; repeat' split <;> omega
set_option maxHeartbeats 400000 in
theorem wideCmp (a b : Int) (w : World) (ha : In128 a) (hb : In128 b) :
    Calls Try.prog 86 #[(.agg #[.int .i64 (whi (a)), .int .u64 (wlo (a))]), (.agg #[.int .i64 (whi (b)), .int .u64 (wlo (b))])] w fun e w' => e = .returned (.int .i64 (ord a b)) ∧ Below w.heap.size w w' := by
  have h1 := whi_i ha
  have h2 := whi_i hb
  have h3 := wlo_u a
  have h4 := wlo_u b
  rw [← ord_wide]
  go_enter Try.func86, Try.ntmps86
  go_wp2
  go_region_held3 (fun w' => w'.cell? ⟨w.heap.size, 0, none⟩ = some (.int .i64 (whi a)) ∧ w'.cell? ⟨w.heap.size, 1, none⟩ = some (.int .u64 (wlo a)) ∧ w'.cell? ⟨w.heap.size + 1, 0, none⟩ = some (.int .i64 (whi b)) ∧ w'.cell? ⟨w.heap.size + 1, 1, none⟩ = some (.int .u64 (wlo b))) (first | (simp [go_sem]; done) | (repeat' (first | (with_reducible assumption) | (with_reducible refine And.intro ?_ ?_) | (with_reducible refine cell_drew ?_) | (with_reducible refine cell_via (by with_reducible assumption) ?_ ?_) | (simp [*]; done) | (simp [go_sem]; done) | (with_reducible refine cell_alloc ?_ ?_) | (with_reducible refine cell_set_far ?_ ?_) | omega | (simp; omega)))) (first | (go_at_call 110; refine (cmpInt64 _ _ _).mono ?_; rintro e w1 ⟨rfl, rfl⟩) | (go_at_call 111; refine (cmpUint64 _ _ _).mono ?_; rintro e w1 ⟨rfl, rfl⟩) | (go_at_call 103; refine (cmpOr2 (ord (whi a) (whi b)) (ord (wlo a) (wlo b)) _ _ 0 _ (by simp [go_sem]) (by simp [go_sem])).mono ?_; rintro e w1 ⟨rfl, rfl⟩))
  go_wp2
  go_ret
  exact ⟨rfl, by (repeat' (first | (with_reducible exact Below.refl _ _) | (with_reducible assumption) | (with_reducible refine Below.alloc ?_ ?_ _) | (with_reducible refine Below.setCell ?_ ?_ _) | (with_reducible refine Below.drew ?_) | (with_reducible refine below_drewN ?_ _) | (with_reducible refine below_via ?_ (by with_reducible assumption) ?_) | omega | (simp; done) | (simp; omega)))⟩
theorem wideCmp0 (a : Int) (w : World) (ha : In128 a) :
    Calls Try.prog 86 #[(.agg #[.int .i64 (whi (a)), .int .u64 (wlo (a))]), .agg #[.int .i64 0, .int .u64 0]] w fun e w' => e = .returned (.int .i64 (ord a 0)) ∧ Below w.heap.size w w' := wideCmp a 0 w ha (by unfold In128; omega)
end Go.Proofs.Ytemhhojenocddaa
