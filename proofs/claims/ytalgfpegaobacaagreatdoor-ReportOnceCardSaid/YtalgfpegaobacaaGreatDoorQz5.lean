/- Joined. -/
import Derived.Test.YtalgfpegaobacaaGreatDoorQz1
import Derived.Test.YtalgfpegaobacaaGreatDoorQz2
import Derived.Shelf.Spec.BitsCarry
namespace Go.Proofs.YtalgfpegaobacaaGreatDoor
set_option linter.all false
set_option maxHeartbeats 1000000
set_option maxRecDepth 100000
open Go.RowKit
open Lib (hid)
/- Contracts of the functions of wide that call nothing but bits.Add64, bits.Sub64, bits.Mul64. -/
theorem add64 (x y c : Int) (hx : 0 ≤ x) (hy : 0 ≤ y) (hc0 : 0 ≤ c) (hc : c ≤ 1) (w : World) : (callFunc 203 #[.int .u64 x, .int .u64 y, .int .u64 c]).run Tryz.prog w =
  .ok (.value (.tuple #[.int .u64 (wlo (x + y + c)), .int .u64 (whi (x + y + c))])) w := by
 obtain ⟨x, rfl⟩ := Int.eq_ofNat_of_zero_le hx
 obtain ⟨y, rfl⟩ := Int.eq_ofNat_of_zero_le hy
 obtain ⟨c, rfl⟩ := Int.eq_ofNat_of_zero_le hc0
 rw [run_callFunc_extern Tryz.func203 (by kernel_rfl) (by kernel_rfl) (by kernel_rfl) (e := add64Entry) (by kernel_rfl), run_add64 x y c (by omega) (by omega) (by omega) (by omega)]
 simp only [Result.andThen, wlo, whi]
theorem sub64 (x y b : Int) (hx : 0 ≤ x) (hx' : x ≤ 18446744073709551615) (hy : 0 ≤ y) (hy' : y ≤ 18446744073709551615) (hb0 : 0 ≤ b) (hb : b ≤ 1) (w : World) : (callFunc 235 #[.int .u64 x, .int .u64 y, .int .u64 b]).run Tryz.prog w =
  .ok (.value (.tuple #[.int .u64 (wlo (x - y - b)), .int .u64 (- whi (x - y - b))])) w := by
 obtain ⟨x, rfl⟩ := Int.eq_ofNat_of_zero_le hx
 obtain ⟨y, rfl⟩ := Int.eq_ofNat_of_zero_le hy
 obtain ⟨b, rfl⟩ := Int.eq_ofNat_of_zero_le hb0
 rw [run_callFunc_extern Tryz.func235 (by kernel_rfl) (by kernel_rfl) (by kernel_rfl) (e := sub64Entry) (by kernel_rfl), run_sub64 x y b (by omega)]
 simp only [Result.andThen, wlo, whi]
 have e1 : (((x + 18446744073709551616 - y - b) % 18446744073709551616 : Nat) : Int) = ((x : Int) - y - b) % 18446744073709551616 := by omega
 have e2 : ((if x < y + b then 1 else 0 : Nat) : Int) = - (((x : Int) - y - b) / 18446744073709551616) := by split <;> omega
 rw [e1, e2]
theorem sub64_0 (x y : Int) (hx : 0 ≤ x) (hx' : x ≤ 18446744073709551615) (hy : 0 ≤ y) (hy' : y ≤ 18446744073709551615) (w : World) : (callFunc 235 #[.int .u64 x, .int .u64 y, .int .u64 0]).run Tryz.prog w =
  .ok (.value (.tuple #[.int .u64 (wlo (x - y)), .int .u64 (- whi (x - y))])) w := by
 simpa using sub64 x y 0 hx hx' hy hy' (Int.le_refl 0) (by decide) w
theorem wideOf (n : Int) (w : World) (h : In64 n) :
  Calls Tryz.prog 164 #[.int .i64 n] w fun e w' => e = .returned (.agg #[.int .i64 (whi n), .int .u64 (wlo n)]) ∧ Below w.heap.size w w' := by
 unfold In64 at h
 go_enter Tryz.func164, Tryz.ntmps164
 go_wp2
 go_returns
 exact ⟨ret_agg2 (by unfold whi; omega) (by rw [IntKind.wrap_u64]; rfl), (Below.refl _ _).alloc (Nat.le_refl _) _⟩
theorem wideBelow (n : Int) (w : World) (h : In128 n) :
  Calls Tryz.prog 223 #[.agg #[.int .i64 (whi n), .int .u64 (wlo n)]] w fun e w' => e = .returned (.bool (decide (n < 0))) ∧ Below w.heap.size w w' := by
 have h1 := whi_i h
 go_enter Tryz.func223, Tryz.ntmps223
 go_wp2
 go_returns
 exact ⟨ret_bool (by unfold whi; omega), (Below.refl _ _).alloc (Nat.le_refl _) _⟩
theorem wideSize (n : Int) (w : World) (h : In128 n) :
  Calls Tryz.prog 221 #[(.agg #[.int .i64 (whi (n)), .int .u64 (wlo (n))])] w fun e w' => e = .returned (.agg #[.int .u64 (whi (iabs n)), .int .u64 (wlo (iabs n))]) ∧ Below w.heap.size w w' := by
 have h1 := whi_i h
 have h2 := wlo_u n
 by_cases hn : n < 0
 ·have hd : decide (n < 0) = true := by simpa using hn
  have e1 := sub64_0 0 (wlo n) (by omega) (by omega) h2.1 h2.2
  have h3 : 0 ≤ - whi (- wlo n) ∧ - whi (- wlo n) ≤ 1 := by unfold whi; omega
  have h4 : 0 ≤ IntKind.u64.wrap (whi n) ∧ IntKind.u64.wrap (whi n) ≤ 18446744073709551615 := by rw [IntKind.wrap_u64]; omega
  have e2 := sub64 0 (IntKind.u64.wrap (whi n)) (- whi (- wlo n)) (by omega) (by omega) h4.1 h4.2 h3.1 h3.2
  have e3 : wlo (- wlo n) = wlo (iabs n) := by rw [iabs_neg hn]; unfold wlo; omega
  have e4 : wlo (- IntKind.u64.wrap (whi n) - - whi (- wlo n)) = whi (iabs n) := by rw [iabs_neg hn]; unfold In128 at h; rw [IntKind.wrap_u64]; unfold wlo whi; omega
  simp only [Int.zero_sub] at e1 e2
  rw [e3] at e1
  rw [e4] at e2
  clear e3 e4
  obtain ⟨b, hb⟩ : ∃ b, b = - whi (- wlo n) := ⟨_, rfl⟩
  rw [← hb] at e1 e2 h3
  clear hb
  go_enter Tryz.func221, Tryz.ntmps221
  go_wp2_with (go_at_call 223; (with_reducible refine cM (hd ▸ wideBelow n _ h) fun w1 hb1 fc1 fg1 hc1 hf1 hz1 => ?_); try simp at hz1)
  refine bodyPost_ret (by simp [results, Tryz.results221, go_sem, hc1]; try rfl) rfl ⟨rfl, ?_⟩
  exact tB
 ·have hd : decide (n < 0) = false := by simpa using hn
  have e5 : 0 ≤ whi n := by unfold whi; omega
  rw [iabs_pos (by omega)]
  go_enter Tryz.func221, Tryz.ntmps221
  go_wp2_with (go_at_call 223; (with_reducible refine cM (hd ▸ wideBelow n _ h) fun w1 hb1 fc1 fg1 hc1 hf1 hz1 => ?_); try simp at hz1)
  refine bodyPost_ret (by simp [results, Tryz.results221, go_sem, hc1]; try rfl) rfl ⟨rfl, ?_⟩
  exact tB
theorem wideSignedPos (m : Int) (w : World) (h0 : 0 ≤ m) (h : m < 340282366920938463463374607431768211456) :
  Calls Tryz.prog 222 #[(.agg #[.int .u64 (whi (m)), .int .u64 (wlo (m))]), .bool false] w fun e w' => e = .returned (.tuple #[(.agg #[.int .i64 (whi (wrap128 m)), .int .u64 (wlo (wrap128 m))]), .bool (decide (m < 170141183460469231731687303715884105728))]) ∧ Below w.heap.size w w' := by
 have h1 : 0 ≤ whi m ∧ whi m ≤ 18446744073709551615 := by unfold whi; omega
 have h2 := wlo_u m
 have e1 : IntKind.i64.wrap (whi m) = whi (wrap128 m) := by rw [IntKind.wrap_i64]; unfold whi wrap128; omega
 have e2 : wlo m = wlo (wrap128 m) := by unfold wlo wrap128; omega
 go_enter Tryz.func222, Tryz.ntmps222
 go_wp2
 go_region
 all_goals
  go_wp2
  refine bodyPost_ret (by simp [results, Tryz.results222, go_sem, ]; try rfl) rfl ⟨ret_tup2 rfl (bool_eq (by unfold whi; omega)), ?_⟩
  exact tB
theorem wideSignedNeg (m : Int) (w : World) (h0 : 0 ≤ m) (h : m < 340282366920938463463374607431768211456) :
  Calls Tryz.prog 222 #[(.agg #[.int .u64 (whi (m)), .int .u64 (wlo (m))]), .bool true] w fun e w' => e = .returned (.tuple #[(.agg #[.int .i64 (whi (wrap128 (- m))), .int .u64 (wlo (wrap128 (- m)))]), .bool (decide (m ≤ 170141183460469231731687303715884105728))]) ∧ Below w.heap.size w w' := by
 have h1 : 0 ≤ whi m ∧ whi m ≤ 18446744073709551615 := by unfold whi; omega
 have h2 := wlo_u m
 have e1 := sub64_0 0 (wlo m) (by omega) (by omega) h2.1 h2.2
 have h3 : 0 ≤ - whi (- wlo m) ∧ - whi (- wlo m) ≤ 1 := by unfold whi; omega
 have e2 := sub64 0 (whi m) (- whi (- wlo m)) (by omega) (by omega) h1.1 h1.2 h3.1 h3.2
 have e3 : wlo (- wlo m) = wlo (wrap128 (- m)) := by unfold wlo wrap128; omega
 have e4 : IntKind.i64.wrap (wlo (- whi m - - whi (- wlo m))) = whi (wrap128 (- m)) := by rw [IntKind.wrap_i64]; unfold wlo whi wrap128; omega
 simp only [Int.zero_sub] at e1 e2
 rw [e3] at e1
 obtain ⟨b, hb⟩ : ∃ b, b = - whi (- wlo m) := ⟨_, rfl⟩
 rw [← hb] at e1 e2 e4 h3
 obtain ⟨c, hc⟩ : ∃ c, c = wlo (- whi m - b) := ⟨_, rfl⟩
 have h5 := wlo_u (- whi m - b)
 rw [← hc] at e2 e4 h5
 clear hb e3 hc
 have hfin : m ≤ 170141183460469231731687303715884105728 ↔ whi m < 9223372036854775808 ∨ (whi m = 9223372036854775808 ∧ wlo m = 0) := by unfold whi wlo; omega
 rw [show decide (m ≤ 170141183460469231731687303715884105728) = decide (whi m < 9223372036854775808 ∨ (whi m = 9223372036854775808 ∧ wlo m = 0)) from by simp only [hfin]]
 clear hfin h0 h
 by_cases c1 : whi m < 9223372036854775808
 ·have d1 : decide (whi m < 9223372036854775808) = true := by simpa using c1
  go_enter Tryz.func222, Tryz.ntmps222
  go_wp2
  go_region
  all_goals
   go_wp2
   refine bodyPost_ret (by simp [results, Tryz.results222, go_sem, ]; try rfl) rfl ⟨ret_tup2 rfl (by simp [c1]), ?_⟩
   exact tB
 ·have d1 : decide (whi m < 9223372036854775808) = false := by simpa using c1
  by_cases c2 : whi m = 9223372036854775808
  ·have d2 : (whi m == 9223372036854775808) = true := by simpa using c2
   by_cases c3 : wlo m = 0
   ·have d3 : (wlo m == 0) = true := by simpa using c3
    have C2 : Hid (whi m = 9223372036854775808) := c2
    have C3 : Hid (wlo m = 0) := c3
    clear c2 c3
    go_enter Tryz.func222, Tryz.ntmps222
    go_wp2
    go_region
    all_goals
     go_wp2
     refine bodyPost_ret (by simp [results, Tryz.results222, go_sem, ]; try rfl) rfl ⟨ret_tup2 rfl (by simp [C2.out, C3.out]), ?_⟩
     exact tB
   ·have d3 : (wlo m == 0) = false := by simpa using c3
    have C2 : Hid (whi m = 9223372036854775808) := c2
    clear c2
    go_enter Tryz.func222, Tryz.ntmps222
    go_wp2
    go_region
    all_goals
     go_wp2
     refine bodyPost_ret (by simp [results, Tryz.results222, go_sem, ]; try rfl) rfl ⟨ret_tup2 rfl (by simp [C2.out, c3]), ?_⟩
     exact tB
  ·have d2 : (whi m == 9223372036854775808) = false := by simpa using c2
   go_enter Tryz.func222, Tryz.ntmps222
   go_wp2
   go_region
   all_goals
    go_wp2
    refine bodyPost_ret (by simp [results, Tryz.results222, go_sem, ]; try rfl) rfl ⟨ret_tup2 rfl (by simp [c2]; omega), ?_⟩
    exact tB
theorem wideSigned (s : Bool) (m : Int) (w : World) (h0 : 0 ≤ m) (h : m < 340282366920938463463374607431768211456) :
  Calls Tryz.prog 222 #[(.agg #[.int .u64 (whi (m)), .int .u64 (wlo (m))]), .bool s] w fun e w' => e = .returned (.tuple #[(.agg #[.int .i64 (whi (wrap128 (sgn s m))), .int .u64 (wlo (wrap128 (sgn s m)))]), .bool (in128 (sgn s m))]) ∧ Below w.heap.size w w' := by
 cases s
 ·refine (wideSignedPos m w h0 h).mono ?_
  rintro e w' ⟨rfl, hb⟩
  exact ⟨ret_tup2 rfl (bool_eq (by simp [sgn]; omega)), hb⟩
 ·refine (wideSignedNeg m w h0 h).mono ?_
  rintro e w' ⟨rfl, hb⟩
  exact ⟨ret_tup2 rfl (bool_eq (by simp [sgn]; omega)), hb⟩
theorem mul64 (x y : Int) (w : World) (hx : 0 ≤ x) (hx' : x ≤ 18446744073709551615) (hy : 0 ≤ y) (hy' : y ≤ 18446744073709551615) :
  Calls Tryz.prog 228 #[.int .u64 x, .int .u64 y] w fun e w' => e = .returned (.tuple #[.int .u64 (whi (x * y)), .int .u64 (wlo (x * y))]) ∧ w = w' := by
 obtain ⟨x, rfl⟩ := Int.eq_ofNat_of_zero_le hx
 obtain ⟨y, rfl⟩ := Int.eq_ofNat_of_zero_le hy
 refine (Tryz.bits_Mul64 x y (by omega) (by omega) w).mono ?_
 rintro e w' ⟨rfl, rfl⟩
 refine ⟨ret_tup2 ?_ ?_, rfl⟩ <;> simp [whi, wlo]
theorem wideRangedYes (n : Int) (w : World) :
  Calls Tryz.prog 204 #[(.agg #[.int .i64 (whi (n)), .int .u64 (wlo (n))]), .bool true] w fun e w' => e = .returned (.tuple #[(.agg #[.int .i64 (whi (n)), .int .u64 (wlo (n))]), .int .i64 0]) ∧ Below w.heap.size w w' := by
 go_enter Tryz.func204, Tryz.ntmps204
 go_wp2
 refine bodyPost_ret (by simp [results, Tryz.results204, go_sem, ]; try rfl) rfl ⟨rfl, ?_⟩
 exact tB
/- Contracts of wide.Int, Cmp, Sign, Mul, Neg. -/
theorem wideIntYes (n : Int) (w : World) (h : In64 n) :
  Calls Tryz.prog 172 #[(.agg #[.int .i64 (whi (n)), .int .u64 (wlo (n))])] w fun e w' => e = .returned (.tuple #[.int .i64 n, .int .i64 0]) ∧ Below w.heap.size w w' := by
 have h2 := wlo_u n
 have e1 : IntKind.i64.wrap (wlo n) = n := by unfold In64 at h; rw [IntKind.wrap_i64]; unfold wlo; omega
 go_enter Tryz.func172, Tryz.ntmps172
 go_wp2
 go_region_held3 (fun w' => w'.cell? ⟨w.heap.size, 0, none⟩ = some (.int .i64 (whi n)) ∧ w'.cell? ⟨w.heap.size, 1, none⟩ = some (.int .u64 (wlo n))) (exact tK) (first | (go_at_call 164; (with_reducible refine cM (wideOf n _ h) fun w1 hb1 fc1 fg1 hc1 hf1 hz1 => ?_); try simp at hz1))
 go_wp2
 go_ret2
 exact ⟨rfl, tB⟩
theorem wideIntNo (n : Int) (w : World) (h : In128 n) (hno : ¬ In64 n) :
  Calls Tryz.prog 172 #[(.agg #[.int .i64 (whi (n)), .int .u64 (wlo (n))])] w fun e w' => e = .returned (.tuple #[.int .i64 0, .int .i64 7]) ∧ Below w.heap.size w w' := by
 have h2 := wlo_u n
 obtain ⟨m, hm⟩ : ∃ m, m = IntKind.i64.wrap (wlo n) := ⟨_, rfl⟩
 have hm64 : In64 m := by rw [hm]; unfold In64; rw [IntKind.wrap_i64]; omega
 have hne : (whi m == whi n) = false := by
  rw [beq_eq_false_iff_ne]; intro he; apply hno; rw [hm] at he; rw [IntKind.wrap_i64] at he; unfold In128 at h; unfold In64; unfold whi wlo at *; omega
 have e1 : IntKind.i64.wrap (wlo n) = m := hm.symm
 clear hm
 go_enter Tryz.func172, Tryz.ntmps172
 go_wp2
 go_region_held3 (fun w' => w'.cell? ⟨w.heap.size, 0, none⟩ = some (.int .i64 (whi n)) ∧ w'.cell? ⟨w.heap.size, 1, none⟩ = some (.int .u64 (wlo n))) (exact tK) (first | (go_at_call 164; (with_reducible refine cM (wideOf m _ hm64) fun w1 hb1 fc1 fg1 hc1 hf1 hz1 => ?_); try simp at hz1))
 go_wp2
 go_ret2
 exact ⟨rfl, tB⟩
def ord (a b : Int) : Int := if a < b then -1 else if b < a then 1 else 0
theorem cmpInt64 (a b : Int) (w : World) :
  Calls Tryz.prog 210 #[.int .i64 a, .int .i64 b] w fun e w' => e = .returned (.int .i64 (ord a b)) ∧ w = w' := by
 go_enter Tryz.func210, Tryz.ntmps210
 go_wp2
 all_goals (go_ret; exact ⟨ret_int (by unfold ord; repeat' split <;> omega), rfl⟩)
theorem cmpUint64 (a b : Int) (w : World) :
  Calls Tryz.prog 211 #[.int .u64 a, .int .u64 b] w fun e w' => e = .returned (.int .i64 (ord a b)) ∧ w = w' := by
 go_enter Tryz.func211, Tryz.ntmps211
 go_wp2
 all_goals (go_ret; exact ⟨ret_int (by unfold ord; repeat' split <;> omega), rfl⟩)
def orOf (a b : Int) : Int := if a = 0 then b else a
theorem cmpOr2 (a b : Int) (w : World) (g o c : Nat) (h0 : w.cell? ⟨g, o, none⟩ = some (.int .i64 a)) (h1 : w.cell? ⟨g, o + 1, none⟩ = some (.int .i64 b)) :
  Calls Tryz.prog 209 #[.slice (some ⟨g, o, none⟩) 2 c] w fun e w' => e = .returned (.int .i64 (orOf a b)) ∧ w = w' := by
 by_cases ha : a = 0
 ·subst ha
  have d1 : ((0 : Int) != 0) = false := rfl
  by_cases hb : b = 0
  ·subst hb
   go_enter Tryz.func209, Tryz.ntmps209
   go_wp2
   go_rounds 3
   go_ret
   exact ⟨rfl, rfl⟩
  ·have d2 : (b != 0) = true := by simpa using hb
   go_enter Tryz.func209, Tryz.ntmps209
   go_wp2
   go_rounds 3
   go_ret
   exact ⟨rfl, rfl⟩
 ·have d1 : (a != 0) = true := by simpa using ha
  go_enter Tryz.func209, Tryz.ntmps209
  go_wp2
  go_rounds 3
  go_ret
  exact ⟨ret_int (by simp [orOf, ha]), rfl⟩
theorem ord_wide (a b : Int) : orOf (ord (whi a) (whi b)) (ord (wlo a) (wlo b)) = ord a b := by
 unfold orOf ord whi wlo; repeat' split <;> omega
theorem wideCmp (a b : Int) (w : World) (ha : In128 a) (hb : In128 b) :
  Calls Tryz.prog 193 #[(.agg #[.int .i64 (whi (a)), .int .u64 (wlo (a))]), (.agg #[.int .i64 (whi (b)), .int .u64 (wlo (b))])] w fun e w' => e = .returned (.int .i64 (ord a b)) ∧ Below w.heap.size w w' := by
 have h1 := whi_i ha
 have h2 := whi_i hb
 have h3 := wlo_u a
 have h4 := wlo_u b
 rw [← ord_wide]
 go_enter Tryz.func193, Tryz.ntmps193
 go_wp2
 go_region_held3 (fun w' => w'.cell? ⟨w.heap.size, 0, none⟩ = some (.int .i64 (whi a)) ∧ w'.cell? ⟨w.heap.size, 1, none⟩ = some (.int .u64 (wlo a)) ∧ w'.cell? ⟨w.heap.size + 1, 0, none⟩ = some (.int .i64 (whi b)) ∧ w'.cell? ⟨w.heap.size + 1, 1, none⟩ = some (.int .u64 (wlo b))) (exact tK) (first | (go_at_call 210; refine (cmpInt64 _ _ _).mono ?_; rintro e w1 ⟨rfl, rfl⟩) | (go_at_call 211; refine (cmpUint64 _ _ _).mono ?_; rintro e w1 ⟨rfl, rfl⟩) | (go_at_call 209; refine (cmpOr2 (ord (whi a) (whi b)) (ord (wlo a) (wlo b)) _ _ 0 _ (by simp [go_sem]) (by simp [go_sem])).mono ?_; rintro e w1 ⟨rfl, rfl⟩))
 go_wp2
 go_ret
 exact ⟨rfl, tB⟩
theorem fieldSizeLo (x y : Int) (w : World) : (Instr.field 284 (.agg #[.int .u64 x, .int .u64 y]) 1).run Tryz.prog w = .ok (.int .u64 y) w := by kernel_rfl
attribute [local go_sem] fieldSizeLo
theorem wideMul (a b : Int) (w : World) (ha : In64 a) (hb : In64 b) :
  Calls Tryz.prog 217 #[.int .i64 a, .int .i64 b] w fun e w' => e = .returned (.agg #[.int .i64 (whi (a * b)), .int .u64 (wlo (a * b))]) ∧ Below w.heap.size w w' := by
 have a128 : In128 a := in128_of64 ha
 have b128 : In128 b := in128_of64 hb
 have ea := wlo_abs64 ha
 have eb := wlo_abs64 hb
 have b1 := mul64_128 ha hb
 have b2 := iabs_mul a b
 have b3 : 0 ≤ iabs a * iabs b ∧ iabs a * iabs b < 340282366920938463463374607431768211456 := by rw [b2]; unfold In128 at b1; unfold iabs; split <;> omega
 have u1 : 0 ≤ iabs a ∧ iabs a ≤ 18446744073709551615 := by unfold In64 at ha; unfold iabs; split <;> omega
 have u2 : 0 ≤ iabs b ∧ iabs b ≤ 18446744073709551615 := by unfold In64 at hb; unfold iabs; split <;> omega
 have fin : wrap128 (sgn (!(decide (a < 0) == decide (b < 0))) (iabs a * iabs b)) = a * b := by rw [show (!(decide (a < 0) == decide (b < 0))) = (decide (a < 0) != decide (b < 0)) from rfl, sgn_mul, wrap128_in b1]
 clear b2
 go_enter Tryz.func217, Tryz.ntmps217
 go_wp2_with (first | (go_at_call 164; (with_reducible refine cM (wideOf a _ ha) fun w1 hb1 fc1 fg1 hc1 hf1 hz1 => ?_); try simp at hz1) | (go_at_call 164; (with_reducible refine cM (wideOf b _ hb) fun w2 hb2 fc2 fg2 hc2 hf2 hz2 => ?_); try simp at hz2))
 go_region_held3 (fun w' => w'.cell? ⟨w2.heap.size, 0, none⟩ = some (.int .i64 (whi a)) ∧ w'.cell? ⟨w2.heap.size, 1, none⟩ = some (.int .u64 (wlo a)) ∧ w'.cell? ⟨w2.heap.size + 1, 0, none⟩ = some (.int .i64 (whi b)) ∧ w'.cell? ⟨w2.heap.size + 1, 1, none⟩ = some (.int .u64 (wlo b))) (exact tK) (first | (go_at_call 221; (with_reducible refine cM (wideSize a _ a128) fun w3 hb3 fc3 fg3 hc3 hf3 hz3 => ?_); try simp at hz3) | (go_at_call 221; (with_reducible refine cM (wideSize b _ b128) fun w4 hb4 fc4 fg4 hc4 hf4 hz4 => ?_); try simp at hz4) | (go_at_call 228; (with_reducible refine (mul64 _ _ _ u1.1 u1.2 u2.1 u2.2).mono ?_); rintro e w5 ⟨rfl, rfl⟩))
 go_wp2
 go_region_held3 (fun w' => w'.cell? ⟨w2.heap.size, 0, none⟩ = some (.int .i64 (whi a)) ∧ w'.cell? ⟨w2.heap.size, 1, none⟩ = some (.int .u64 (wlo a)) ∧ w'.cell? ⟨w2.heap.size + 1, 0, none⟩ = some (.int .i64 (whi b)) ∧ w'.cell? ⟨w2.heap.size + 1, 1, none⟩ = some (.int .u64 (wlo b))) (exact tK) (first | ((go_at_call 223; (with_reducible refine cM (wideBelow a _ a128) fun w5 hb5 fc5 fg5 hc5 hf5 hz5 => ?_); try simp at hz5)) | ((go_at_call 223; (with_reducible refine cM (wideBelow b _ b128) fun w6 hb6 fc6 fg6 hc6 hf6 hz6 => ?_); try simp at hz6)) | ((go_at_call 222; (with_reducible refine cM (wideSigned _ _ _ b3.1 b3.2) fun w7 hb7 fc7 fg7 hc7 hf7 hz7 => ?_); try simp at hz7)))
 go_wp2
 all_goals
  refine bodyPost_ret (by simp [results, Tryz.results217, go_sem, ↓IntWalk.iteOmega, hc1, hc2, hc3, hc4, hc5, hc6, hc7]; try rfl) rfl ⟨rfl, ?_⟩
  exact tB
/- Contracts of wide.total's add and done. -/
def tot (s : Int) : Array Value := #[.int .i64 (s / 340282366920938463463374607431768211456), .int .i64 (whi (wrap128 s)), .int .u64 (wlo s)]
def InT (s : Int) : Prop := -1532495540865888858358347027150309183618739122183602176 ≤ s ∧ s ≤ 1532495540865888858358347027150309183618739122183602176
theorem word_hi (s : Int) : whi (wrap128 s) % 18446744073709551616 = (s % 340282366920938463463374607431768211456) / 18446744073709551616 := by unfold whi wrap128; omega
theorem word_lo (s : Int) : wlo s = (s % 340282366920938463463374607431768211456) % 18446744073709551616 := by unfold wlo; omega
theorem carry128 (a b : Int) : whi (a / 18446744073709551616 + b / 18446744073709551616 + whi (a % 18446744073709551616 + b % 18446744073709551616)) = (a + b) / 340282366920938463463374607431768211456 := by unfold whi; omega
theorem low128 (a b : Int) : (a / 18446744073709551616 + b / 18446744073709551616 + whi (a % 18446744073709551616 + b % 18446744073709551616)) = (a + b) / 18446744073709551616 := by unfold whi; omega
theorem whi_in (n : Int) (h : In128 n) : whi n = whi (wrap128 n) := by rw [wrap128_in h]
theorem tot_carry (s n : Int) (hn : In128 n) : whi (IntKind.u64.wrap (whi (wrap128 s)) + IntKind.u64.wrap (whi n) + whi (wlo s + wlo n)) = (s % 340282366920938463463374607431768211456 + n % 340282366920938463463374607431768211456) / 340282366920938463463374607431768211456 := by
 rw [IntKind.wrap_u64, IntKind.wrap_u64, whi_in n hn, word_hi, word_hi, word_lo s, word_lo n]
 exact carry128 _ _
theorem tot_over (s n : Int) (hn : In128 n) : s / 340282366920938463463374607431768211456 + (whi n / 9223372036854775808 + whi (IntKind.u64.wrap (whi (wrap128 s)) + IntKind.u64.wrap (whi n) + whi (wlo s + wlo n))) = (s + n) / 340282366920938463463374607431768211456 := by
 rw [tot_carry s n hn]
 have : whi n / 9223372036854775808 = n / 340282366920938463463374607431768211456 := by unfold In128 at hn; unfold whi; omega
 rw [this]; clear this hn
 omega
theorem tot_hi (s n : Int) (hn : In128 n) : IntKind.i64.wrap (wlo (IntKind.u64.wrap (whi (wrap128 s)) + IntKind.u64.wrap (whi n) + whi (wlo s + wlo n))) = whi (wrap128 (s + n)) := by
 rw [IntKind.wrap_u64, IntKind.wrap_u64, whi_in n hn, word_hi, word_hi, word_lo s, word_lo n, low128, IntKind.wrap_i64]
 clear hn
 unfold wlo whi wrap128
 omega
theorem totalAdd (s n : Int) (g : Nat) (w : World) (hs : InT s) (hn : In128 n) (hg : Blk w g 251 (tot s)) :
  Calls Tryz.prog 188 #[.pointer (some ⟨g, 0, none⟩), (.agg #[.int .i64 (whi (n)), .int .u64 (wlo (n))])] w fun e w' => e = .returned (.tuple #[]) ∧ Blk w' g 251 (tot (s + n)) ∧ Only g w w' := by
 have c0 := hg.cell 0
 have c1 := hg.cell 1
 have c2 := hg.cell 2
 have z0 := hg.frozen 0
 have z1 := hg.frozen 1
 have z2 := hg.frozen 2
 have hlt := hg.lt
 simp [tot] at c0 c1 c2
 have h1 := whi_i hn
 have h2 := wlo_u n
 have h3 := wlo_u s
 have h4 := whi_i (wrap128_is s)
 have e1 := add64 (wlo s) (wlo n) 0 h3.1 h2.1 (by omega) (by omega)
 simp only [Int.add_zero] at e1
 have s1 : wlo (wlo s + wlo n) = wlo (s + n) := by unfold wlo; omega
 rw [s1] at e1
 have h5 : 0 ≤ whi (wlo s + wlo n) ∧ whi (wlo s + wlo n) ≤ 1 := by unfold whi; omega
 have h6 : 0 ≤ IntKind.u64.wrap (whi (wrap128 s)) ∧ IntKind.u64.wrap (whi (wrap128 s)) ≤ 18446744073709551615 := by rw [IntKind.wrap_u64]; omega
 have h7 : 0 ≤ IntKind.u64.wrap (whi n) ∧ IntKind.u64.wrap (whi n) ≤ 18446744073709551615 := by rw [IntKind.wrap_u64]; omega
 have e2 := add64 (IntKind.u64.wrap (whi (wrap128 s))) (IntKind.u64.wrap (whi n)) (whi (wlo s + wlo n)) h6.1 h7.1 h5.1 h5.2
 obtain ⟨c, hc⟩ : ∃ c, c = whi (wlo s + wlo n) := ⟨_, rfl⟩
 rw [← hc] at e1 e2 h5
 have s2 : IntKind.i64.wrap (wlo (IntKind.u64.wrap (whi (wrap128 s)) + IntKind.u64.wrap (whi n) + c)) = whi (wrap128 (s + n)) := by
  rw [hc]; exact tot_hi s n hn
 have h8 := wlo_u (IntKind.u64.wrap (whi (wrap128 s)) + IntKind.u64.wrap (whi n) + c)
 obtain ⟨d, hd⟩ : ∃ d, d = whi (IntKind.u64.wrap (whi (wrap128 s)) + IntKind.u64.wrap (whi n) + c) := ⟨_, rfl⟩
 have h9 : 0 ≤ d ∧ d ≤ 1 := by rw [hd]; rw [IntKind.wrap_u64, IntKind.wrap_u64]; unfold whi; omega
 have s3 : s / 340282366920938463463374607431768211456 + (whi n / 9223372036854775808 + d) = (s + n) / 340282366920938463463374607431768211456 := by
  rw [hd, hc]; exact tot_over s n hn
 have h10 : -9007199254740992 ≤ s / 340282366920938463463374607431768211456 ∧ s / 340282366920938463463374607431768211456 ≤ 9007199254740992 := by unfold InT at hs; omega
 rw [← hd] at e2
 obtain ⟨lo, hlo⟩ : ∃ lo, lo = wlo (IntKind.u64.wrap (whi (wrap128 s)) + IntKind.u64.wrap (whi n) + c) := ⟨_, rfl⟩
 rw [← hlo] at e2 s2 h8
 clear hlo hd hc s1
 have Hg := hid hg
 clear hg
 go_enter Tryz.func188, Tryz.ntmps188
 go_wp2
 go_region
 all_goals (go_wp2; go_region)
 all_goals (go_wp2; go_region)
 all_goals
  go_wp2
  go_end0
  exact ⟨rfl, by simpa [tot] using ((((Hg.out.set 0 _).set 1 _).set 2 _).alloc _).drew.drew.drew, (((((Only.refl g w).set (.inl rfl) _).set (.inl rfl) _).set (.inl rfl) _).alloc _).drew.drew.drew⟩
theorem totalDoneYes (s : Int) (g : Nat) (w : World) (hs : In128 s) (hg : Blk w g 251 (tot s)) :
  Calls Tryz.prog 189 #[.pointer (some ⟨g, 0, none⟩)] w fun e w' => e = .returned (.tuple #[(.agg #[.int .i64 (whi (s)), .int .u64 (wlo (s))]), .int .i64 0]) ∧ Below w.heap.size w w' := by
 have c0 := hg.cell 0
 have c1 := hg.cell 1
 have c2 := hg.cell 2
 have hlt := hg.lt
 simp [tot, wrap128_in hs] at c0 c1 c2
 have h1 := whi_i hs
 have e1 : (s / 340282366920938463463374607431768211456 == whi s / 9223372036854775808) = true := by
  rw [beq_iff_eq]; unfold In128 at hs; unfold whi; omega
 clear hg
 go_enter Tryz.func189, Tryz.ntmps189
 go_wp2
 go_region_held3 (fun w' => w'.cell? ⟨g, 0, none⟩ = some (.int .i64 (s / 340282366920938463463374607431768211456)) ∧ w'.cell? ⟨g, 1, none⟩ = some (.int .i64 (whi s)) ∧ w'.cell? ⟨g, 2, none⟩ = some (.int .u64 (wlo s))) (exact tK) (first | (go_at_call 204; (with_reducible refine cM (wideRangedYes _ _) fun w1 hb1 fc1 fg1 hc1 hf1 hz1 => ?_); try simp at hz1))
 go_wp2
 all_goals
  refine bodyPost_ret (by simp [*, results, Tryz.results189, go_sem]; try rfl) rfl ⟨rfl, ?_⟩
  exact tB
/- Contracts of wide.Sub, Add. -/
theorem tot_zero : tot 0 = #[.int .i64 0, .int .i64 0, .int .u64 0] := by simp [tot, whi, wlo, wrap128]
theorem not_u64 (x : Int) (h : 0 ≤ x) (h' : x ≤ 18446744073709551615) : bits .xor .u64 IntKind.u64.max x = 18446744073709551615 - x := by
 obtain ⟨x, rfl⟩ := Int.eq_ofNat_of_zero_le h
 show IntKind.u64.wrap ((BitVec.ofInt 64 IntKind.u64.max ^^^ BitVec.ofInt 64 (x : Int)).toNat : Int) = _
 have e : BitVec.ofInt 64 IntKind.u64.max = BitVec.allOnes 64 := by decide
 rw [e, BitVec.allOnes_xor, BitVec.toNat_not, BitVec.ofInt_natCast, BitVec.toNat_ofNat, IntKind.wrap_u64]
 omega
theorem not_i64 (x : Int) (h : -9223372036854775808 ≤ x) (h' : x ≤ 9223372036854775807) : bits .xor .i64 (-1) x = - x - 1 := by
 show IntKind.i64.wrap ((BitVec.ofInt 64 (-1) ^^^ BitVec.ofInt 64 x).toNat : Int) = _
 have e : BitVec.ofInt 64 (-1) = BitVec.allOnes 64 := by decide
 rw [e, BitVec.allOnes_xor, BitVec.toNat_not, BitVec.toNat_ofInt, IntKind.wrap_i64]
 omega
theorem not_hi (b : Int) (hb : In128 b) : bits .xor .i64 (-1) (whi b) = whi (- b - 1) := by
 have h := whi_i hb
 rw [not_i64 _ h.1 h.2]; unfold whi; omega
theorem not_lo (b : Int) : bits .xor .u64 IntKind.u64.max (wlo b) = wlo (- b - 1) := by
 have h := wlo_u b
 rw [not_u64 _ h.1 h.2]; unfold wlo; omega
theorem wideSubYes (a b : Int) (w : World) (ha : In128 a) (hb : In128 b) (hab : In128 (a - b)) :
  Calls Tryz.prog 202 #[(.agg #[.int .i64 (whi (a)), .int .u64 (wlo (a))]), (.agg #[.int .i64 (whi (b)), .int .u64 (wlo (b))])] w fun e w' => e = .returned (.tuple #[(.agg #[.int .i64 (whi (a - b)), .int .u64 (wlo (a - b))]), .int .i64 0]) ∧ Below w.heap.size w w' := by
 have h3 := whi_i hb
 have h4 := wlo_u b
 have x1 := not_hi b hb
 have x2 := not_lo b
 have hb' : In128 (- b - 1) := by unfold In128 at hb ⊢; omega
 have q1 : 0 + a + (- b - 1) + 1 = a - b := by omega
 have i1 : IntKind.i64.signed = true := rfl
 have i2 : IntKind.u64.signed = false := rfl
 go_enter Tryz.func202, Tryz.ntmps202
 go_wp2_with fail
 refine (totalAdd 0 a (w.heap.size + 1 + 1 + 1) _ (by unfold InT; omega) ha (by rw [tot_zero]; exact tL)).mono ?_
 rintro e w1 ⟨rfl, hk1, ho1⟩
 obtain ⟨fc1, fg1, hc1, hf1, hz1⟩ := oget ho1
 simp at hz1
 have Hk1 := hid hk1
 have Ho1 := hid ho1
 clear hk1 ho1
 go_wp2_with fail
 refine (totalAdd (0 + a) (- b - 1) (w.heap.size + 1 + 1 + 1) _ (by unfold In128 at ha; unfold InT; omega) hb' Hk1.out).mono ?_
 rintro e w2 ⟨rfl, hk2, ho2⟩
 obtain ⟨fc2, fg2, hc2, hf2, hz2⟩ := oget ho2
 have Hk2 := hid hk2
 have Ho2 := hid ho2
 clear hk2 ho2
 go_wp2_with fail
 refine (wideOf 1 _ (by unfold In64; omega)).mono ?_
 rintro e w3 ⟨rfl, hb3⟩
 obtain ⟨fc3, fg3, hc3, hf3, hz3⟩ := bget hb3
 go_wp2_with fail
 refine (totalAdd (0 + a + (- b - 1)) 1 (w.heap.size + 1 + 1 + 1) _ (by unfold In128 at ha hb; unfold InT; omega) (by unfold In128; omega) (Hk2.out.below hb3 (by omega))).mono ?_
 rintro e w4 ⟨rfl, hk4, ho4⟩
 obtain ⟨fc4, fg4, hc4, hf4, hz4⟩ := oget ho4
 rw [q1] at hk4
 have Hk4 := hid hk4
 have Ho4 := hid ho4
 clear hk4 ho4 q1
 go_wp2_with fail
 refine (totalDoneYes (a - b) (w.heap.size + 1 + 1 + 1) _ hab Hk4.out).mono ?_
 rintro e w5 ⟨rfl, hb5⟩
 obtain ⟨fc5, fg5, hc5, hf5, hz5⟩ := bget hb5
 go_wp2
 all_goals
  refine bodyPost_ret (by simp [*, results, Tryz.results202, go_sem, ↓IntWalk.iteOmega]; try rfl) rfl ⟨rfl, ?_⟩
  refine Below.setCell (Below.setCell (below_via (below_only (below_via (below_only (below_only ?_ Ho1.out ?_ ?_) Ho2.out ?_ ?_) hb3 ?_) Ho4.out ?_ ?_) hb5 ?_) ?_ _) ?_ _ <;> first | (simp; omega) | exact tB
/- Contracts of fix.narrow, Sub, Abs, Least, Most, Clip. -/
theorem narrowYes (n : Int) (w : World) (h : In64 n) :
  Calls Tryz.prog 165 #[(.agg #[.int .i64 (whi (n)), .int .u64 (wlo (n))]), .int .i64 0] w fun e w' => e = .returned (.tuple #[.int .i64 n, .int .i64 0]) ∧ Below w.heap.size w w' := by
 go_enter Tryz.func165, Tryz.ntmps165
 go_wp2_with (go_at_call 172; (with_reducible refine cM (wideIntYes _ _ h) fun w1 hb1 fc1 fg1 hc1 hf1 hz1 => ?_); try simp at hz1)
 go_ret2
 exact ⟨rfl, tB⟩
theorem narrowNo (n : Int) (w : World) (h : In128 n) (h' : ¬ In64 n) :
  Calls Tryz.prog 165 #[(.agg #[.int .i64 (whi (n)), .int .u64 (wlo (n))]), .int .i64 0] w fun e w' => e = .returned (.tuple #[.int .i64 0, .int .i64 7]) ∧ Below w.heap.size w w' := by
 go_enter Tryz.func165, Tryz.ntmps165
 go_wp2_with (go_at_call 172; (with_reducible refine cM (wideIntNo _ _ h h') fun w1 hb1 fc1 fg1 hc1 hf1 hz1 => ?_); try simp at hz1)
 go_ret2
 exact ⟨rfl, tB⟩
theorem fixSubYes (a b : Int) (w : World) (ha : In64 a) (hb : In64 b) (h : In64 (a - b)) :
  Calls Tryz.prog 187 #[.int .i64 a, .int .i64 b] w fun e w' => e = .returned (.tuple #[.int .i64 (a - b), .int .i64 0]) ∧ Below w.heap.size w w' := by
 have a1 := in128_of64 ha
 have b1 := in128_of64 hb
 have c1 := in128_of64 h
 go_enter Tryz.func187, Tryz.ntmps187
 go_wp2_with (first | (go_at_call 164; (with_reducible refine cM (wideOf a _ ha) fun w1 hb1 fc1 fg1 hc1 hf1 hz1 => ?_); try simp at hz1) | (go_at_call 164; (with_reducible refine cM (wideOf b _ hb) fun w1 hb1 fc1 fg1 hc1 hf1 hz1 => ?_); try simp at hz1) | (go_at_call 202; (with_reducible refine cM (wideSubYes a b _ a1 b1 c1) fun w1 hb1 fc1 fg1 hc1 hf1 hz1 => ?_); try simp at hz1) | (go_at_call 165; (with_reducible refine cM (narrowYes _ _ h) fun w1 hb1 fc1 fg1 hc1 hf1 hz1 => ?_); try simp at hz1))
 go_ret2
 exact ⟨rfl, tB⟩
theorem fixSubNo (a b : Int) (w : World) (ha : In64 a) (hb : In64 b) (h : ¬ In64 (a - b)) :
  Calls Tryz.prog 187 #[.int .i64 a, .int .i64 b] w fun e w' => e = .returned (.tuple #[.int .i64 0, .int .i64 7]) ∧ Below w.heap.size w w' := by
 have a1 := in128_of64 ha
 have b1 := in128_of64 hb
 have c1 : In128 (a - b) := by unfold In64 at ha hb; unfold In128; omega
 go_enter Tryz.func187, Tryz.ntmps187
 go_wp2_with (first | (go_at_call 164; (with_reducible refine cM (wideOf a _ ha) fun w1 hb1 fc1 fg1 hc1 hf1 hz1 => ?_); try simp at hz1) | (go_at_call 164; (with_reducible refine cM (wideOf b _ hb) fun w1 hb1 fc1 fg1 hc1 hf1 hz1 => ?_); try simp at hz1) | (go_at_call 202; (with_reducible refine cM (wideSubYes a b _ a1 b1 c1) fun w1 hb1 fc1 fg1 hc1 hf1 hz1 => ?_); try simp at hz1) | (go_at_call 165; (with_reducible refine cM (narrowNo _ _ c1 h) fun w1 hb1 fc1 fg1 hc1 hf1 hz1 => ?_); try simp at hz1))
 go_ret2
 exact ⟨rfl, tB⟩
theorem fixAbsYes (a : Int) (w : World) (ha : In64 a) (h : In64 (iabs a)) :
  Calls Tryz.prog 163 #[.int .i64 a] w fun e w' => e = .returned (.tuple #[.int .i64 (iabs a), .int .i64 0]) ∧ Below w.heap.size w w' := by
 by_cases hn : a < 0
 ·have e1 : iabs a = 0 - a := by rw [iabs_neg hn]; omega
  rw [e1] at h ⊢
  clear e1
  have z64 : In64 0 := by unfold In64; omega
  go_enter Tryz.func163, Tryz.ntmps163
  go_wp2_with (go_at_call 187; (with_reducible refine cM (fixSubYes 0 a _ z64 ha h) fun w1 hb1 fc1 fg1 hc1 hf1 hz1 => ?_); try simp at hz1)
  go_ret2
  exact ⟨by simp, tB⟩
 ·rw [iabs_pos (by omega)]
  go_enter Tryz.func163, Tryz.ntmps163
  go_wp2
  go_ret2
  exact ⟨rfl, tB⟩
theorem fixAbsNo (a : Int) (w : World) (ha : In64 a) (h : ¬ In64 (iabs a)) :
  Calls Tryz.prog 163 #[.int .i64 a] w fun e w' => e = .returned (.tuple #[.int .i64 0, .int .i64 7]) ∧ Below w.heap.size w w' := by
 by_cases hn : a < 0
 ·have e1 : iabs a = 0 - a := by rw [iabs_neg hn]; omega
  rw [e1] at h
  clear e1
  have z64 : In64 0 := by unfold In64; omega
  go_enter Tryz.func163, Tryz.ntmps163
  go_wp2_with (go_at_call 187; (with_reducible refine cM (fixSubNo 0 a _ z64 ha h) fun w1 hb1 fc1 fg1 hc1 hf1 hz1 => ?_); try simp at hz1)
  go_ret2
  exact ⟨rfl, tB⟩
 ·rw [iabs_pos (by omega)] at h
  exact absurd ha h
/- Contract of wide.Add. -/
def encW (n : Int) : List Value := [.int .i64 (whi n), .int .u64 (wlo n)]
theorem sum_take_succ (l : List Int) (k : Nat) (h : k < l.length) : (l.take (k + 1)).sum = (l.take k).sum + l[k] := by
 rw [List.take_succ_eq_append_getElem h, List.sum_append]; simp
theorem sum_bound (l : List Int) (hin : ∀ n ∈ l, In128 n) : -(l.length * 170141183460469231731687303715884105728 : Int) ≤ l.sum ∧ l.sum ≤ l.length * 170141183460469231731687303715884105728 := by
 induction l with
 | nil => simp
 | cons a l ih =>
  have h1 := hin a (by simp)
  have h2 := ih (fun n hn => hin n (by simp [hn]))
  unfold In128 at h1
  simp only [List.sum_cons, List.length_cons]
  omega
theorem wideAddAt (l : List Int) (A : Option Addr) (c : Nat) (w : World) (hl : l.length ≤ 4503599627370496) (hin : ∀ n ∈ l, In128 n) (hr : Rd w A 2 (l.map encW)) (x y z : Int)
  (hv : ∀ (w' : World) (g : Nat), Blk w' g 251 (tot l.sum) → Calls Tryz.prog 189 #[.pointer (some ⟨g, 0, none⟩)] w' fun e w'' => e = .returned (.tuple #[.agg #[.int .i64 x, .int .u64 y], .int .i64 z]) ∧ Below w'.heap.size w' w'') :
  Calls Tryz.prog 166 #[.slice A l.length c] w fun e w' => e = .returned (.tuple #[.agg #[.int .i64 x, .int .u64 y], .int .i64 z]) ∧ Below w.heap.size w w' := by
 have Hv := hid hv
 have Hr := hid hr
 have Hin := hid hin
 clear hv hr hin
 go_enter Tryz.func166, Tryz.ntmps166
 go_wp2_with fail
 go_loopw [9] (fun i wr => ∃ k : Nat, k ≤ l.length ∧ i = .int .i64 k ∧ Blk wr (w.heap.size + 1) 251 (tot (l.take k).sum) ∧ Below (w.heap.size + 1) (w.alloc (.cells #[.int .i64 0, .int .u64 0] 219)) wr)
  (fun i _ => l.length - (intOf i).toNat)
 case atStart => exact ⟨0, Nat.zero_le _, rfl, by simp only [List.take_zero, List.sum_nil]; rw [show tot 0 = #[.int .i64 0, .int .i64 0, .int .u64 0] from by simp [tot, whi, wlo, wrap128]]; exact tL, tB⟩
 case round =>
  obtain ⟨k, hk, rfl, hB, hbl⟩ := hrel
  have HB := hid hB
  have Hbl := hid hbl
  have hz := hbl.size
  simp at hz
  have hz2 := hB.lt
  clear hB hbl
  by_cases hlt : k < l.length
  ·obtain ⟨b, o, rfl, hb, hc⟩ := Hr.out k (encW l[k]) (by simp [hlt])
   have c0 := (Hbl.out.cell (p := ⟨b, o + k * 2 + 0, none⟩) (by exact Nat.lt_succ_of_lt hb)).trans (cell_alloc hb (hc 0 _ rfl))
   have c1 := (Hbl.out.cell (p := ⟨b, o + k * 2 + 1, none⟩) (by exact Nat.lt_succ_of_lt hb)).trans (cell_alloc hb (hc 1 _ rfl))
   have sb := sum_bound (l.take k) (fun n hn => Hin.out n (List.mem_of_mem_take hn))
   have sl : (l.take k).length ≤ k := List.length_take_le _ _
   clear hc
   simp only [Nat.add_zero] at c0
   have hlk := Hin.out l[k] (List.getElem_mem hlt)
   obtain ⟨n, hn⟩ : ∃ n, n = l[k] := ⟨_, rfl⟩
   have hs := sum_take_succ l k hlt
   rw [← hn] at c0 c1 hlk hs
   have Hs := hid hs
   have Hn := hid hn
   clear hs hn
   go_wp2_with fail
   refine (totalAdd (l.take k).sum n (w.heap.size + 1) _ (by unfold InT; omega) hlk (by have hB := HB.out; exact tL)).mono ?_
   rintro e w1 ⟨rfl, hk1, ho1⟩
   obtain ⟨fc1, fg1, hc1, hf1, hz1⟩ := oget ho1
   rw [← Hs.out] at hk1
   have Hk1 := hid hk1
   have Ho1 := hid ho1
   clear hk1 ho1
   go_wp2_with fail
   go_roundw
   case rel => exact ⟨k + 1, by omega, by go_num, Hk1.out, by refine below_only ?_ Ho1.out ?_ ?_ <;> first | (simp; omega) | (have hb := Hbl.out; exact tB)⟩
   case measure => simp [intOf]; omega
  ·have hkl : k = l.length := by omega
   subst hkl
   have hB := HB.out
   rw [List.take_length] at hB
   obtain ⟨hfc, hff, hzz⟩ : (∀ b o, b < w.heap.size + 1 → wr.cell? ⟨b, o, none⟩ = (w.alloc (.cells #[.int .i64 0, .int .u64 0] 219)).cell? ⟨b, o, none⟩) ∧ (∀ b o, b < w.heap.size + 1 → wr.frozen? ⟨b, o, none⟩ = (w.alloc (.cells #[.int .i64 0, .int .u64 0] 219)).frozen? ⟨b, o, none⟩) ∧ True := ⟨fun b o h => Hbl.out.cell (p := ⟨b, o, none⟩) h, fun b o h => Hbl.out.frozen (p := ⟨b, o, none⟩) h, trivial⟩
   have r0 := hfc w.heap.size 0 (by omega)
   have r1 := hfc w.heap.size 1 (by omega)
   have z0 := hff w.heap.size 0 (by omega)
   have z1 := hff w.heap.size 1 (by omega)
   simp at r0 r1 z0 z1
   clear hfc hff
   have HBB := hid hB
   clear hB
   go_wp2_with fail
   refine (Hv.out _ _ HBB.out).mono ?_
   rintro e w1 ⟨rfl, hb1⟩
   obtain ⟨fc1, fg1, hc1, hf1, hz1⟩ := bget hb1
   go_wp2
   all_goals
    refine bodyPost_ret (by simp [*, results, Tryz.results166, go_sem, ↓IntWalk.iteOmega]; try rfl) rfl ⟨rfl, ?_⟩
    have hb := Hbl.out.mono (B' := w.heap.size) (by omega)
    have hb2 : Below w.heap.size w wr := ((Below.refl _ _).alloc (Nat.le_refl _) _).trans hb
    exact tB
theorem wideAddYes (l : List Int) (A : Option Addr) (c : Nat) (w : World) (hl : l.length ≤ 4503599627370496) (hin : ∀ n ∈ l, In128 n) (hr : Rd w A 2 (l.map encW)) (hs : In128 l.sum) :
  Calls Tryz.prog 166 #[.slice A l.length c] w fun e w' => e = .returned (.tuple #[(.agg #[.int .i64 (whi (l.sum)), .int .u64 (wlo (l.sum))]), .int .i64 0]) ∧ Below w.heap.size w w' :=
 wideAddAt l A c w hl hin hr _ _ _ fun _ _ hB => totalDoneYes _ _ _ hs hB
/- Contracts of fix.Sum, Product. -/
theorem elW : Elem Tryz.prog 217 219 2 16 := elem_of Tryz.underlying217 (z := .agg #[.int .i64 0, .int .u64 0]) (by kernel_rfl) rfl (by omega)
theorem sum64_bound (l : List Int) (hin : ∀ n ∈ l, In64 n) : -(l.length * 9223372036854775808 : Int) ≤ l.sum ∧ l.sum ≤ l.length * 9223372036854775808 := by
 induction l with
 | nil => simp
 | cons a l ih =>
  have h1 := hin a (by simp)
  have h2 := ih (fun n hn => hin n (by simp [hn]))
  unfold In64 at h1
  simp only [List.sum_cons, List.length_cons]
  omega
theorem fixSumAt (l : List Int) (A : Option Addr) (c : Nat) (w : World) (hl : l.length ≤ 1099511627776) (hin : ∀ n ∈ l, In64 n) (hr : Rd w A 1 (l.map encI)) (p q : Int)
  (hv : ∀ w1 : World, Calls Tryz.prog 165 #[(.agg #[.int .i64 (whi (l.sum)), .int .u64 (wlo (l.sum))]), .int .i64 0] w1 fun e w' => e = .returned (.tuple #[.int .i64 p, .int .i64 q]) ∧ Below w1.heap.size w1 w') :
  Calls Tryz.prog 135 #[.slice A l.length c] w fun e w' => e = .returned (.tuple #[.int .i64 p, .int .i64 q]) ∧ Below w.heap.size w w' := by
 have Hr := hid hr
 have Hin := hid hin
 have Hv := hid hv
 clear hr hin hv
 go_enter Tryz.func135, Tryz.ntmps135
 go_wp2_with (at_make; refine wpList_mk rfl _ _ _ rfl elW w.heap.size _ _ _ l.length rfl rfl (by omega) (by omega) (by unfold maxLen; omega) (Nat.le_refl _) ?_; intro w1 hown1 hb1)
 have Hown1 := hid hown1
 have Hb1 := hid hb1
 clear hown1 hb1
 go_loopw [4, 12] (fun v i wr => ∃ k : Nat, k ≤ l.length ∧ i = .int .i64 k ∧ Own wr w.heap.size 219 2 v ((l.take k).map encW) ∧ Below w.heap.size w wr) (fun _ i _ => l.length - (intOf i).toNat)
 case atStart => exact ⟨0, Nat.zero_le _, rfl, by simpa using Hown1.out, Hb1.out⟩
 case round =>
  obtain ⟨k, hk, rfl, hown, hbl⟩ := hrel
  have Hown := hid hown
  have Hbl := hid hbl
  have hz := hbl.size
  clear hown hbl
  by_cases hlt : k < l.length
  ·obtain ⟨b, o, rfl, hb, hc⟩ := Hr.out k (encI l[k]) (by simp [hlt])
   have c0 := tC Hbl hb (hc 0 _ rfl)
   simp only [Nat.add_zero, Nat.mul_one] at c0
   clear hc
   have hlk := Hin.out l[k] (List.getElem_mem hlt)
   have Hs : Hid ((l.take (k + 1)).map encW = (l.take k).map encW ++ [encW l[k]]) := by unfold Hid; rw [List.take_succ_eq_append_getElem hlt, List.map_append]; rfl
   obtain ⟨n, hn⟩ : ∃ n, n = l[k] := ⟨_, rfl⟩
   rw [← hn] at c0 hlk Hs
   clear hn
   have lk : ((l.take k).map encW).length ≤ k := by simp; omega
   go_wp2_with (first | (go_at_call 164; refine (wideOf n _ hlk).mono ?_; rintro e w2 ⟨rfl, hb2⟩; have hz2 := hb2.size; have Hb2 := hid hb2; clear hb2) | (at_builtin; refine wpList_app rfl _ _ _ rfl elW w.heap.size _ _ rfl ((Hown.out.keep Hb2.out).alloc _) (some ⟨w2.heap.size, 0, none⟩) 1 1 rfl [encW n] rfl (fun h => by cases h) rd_one (by simp [encW]; exact ⟨rfl, rfl⟩) (by unfold maxLen; omega) (by omega) (by simp; omega) ?_; intro v' w3 hown3 hb3))
   go_roundw
   case rel => exact ⟨k + 1, by omega, by go_num, by rw [Hs.out]; exact hown3, ((Hbl.out.trans (Hb2.out.mono hz)).alloc (by omega) _).trans hb3⟩
   case measure => simp [intOf]; omega
  ·obtain rfl : k = l.length := by omega
   have ho := Hown.out
   rw [List.take_length] at ho
   obtain ⟨A', c', rfl, _, _, hr', _⟩ := ho.shape
   have Hr' := hid hr'
   have h128 : ∀ n ∈ l, In128 n := fun n hn => in128_of64 (Hin.out n hn)
   have hsum := sum64_bound l Hin.out
   have H128 := hid h128
   clear hr' ho h128
   simp only [List.length_map]
   go_wp2_with fail
   refine (wideAddYes l A' c' _ (by omega) H128.out Hr'.out (by unfold In128; omega)).mono ?_
   rintro e w2 ⟨rfl, hb2⟩
   have hz2 := hb2.size
   have Hb2 := hid hb2
   clear hb2
   go_wp2_with fail
   refine (Hv.out _).mono ?_
   rintro e w3 ⟨rfl, hb3⟩
   have Hb3 := hid hb3
   clear hb3
   go_wp2_with fail
   go_ret2
   exact ⟨rfl, Hbl.out.trans ((Hb2.out.mono hz).trans (Hb3.out.mono (by omega)))⟩
theorem fixSumYes (l : List Int) (A : Option Addr) (c : Nat) (w : World) (hl : l.length ≤ 1099511627776) (hin : ∀ n ∈ l, In64 n) (hr : Rd w A 1 (l.map encI)) (hs : In64 l.sum) :
  Calls Tryz.prog 135 #[.slice A l.length c] w fun e w' => e = .returned (.tuple #[.int .i64 l.sum, .int .i64 0]) ∧ Below w.heap.size w w' :=
 fixSumAt l A c w hl hin hr _ _ fun w1 => narrowYes _ w1 hs
theorem fixSumNo (l : List Int) (A : Option Addr) (c : Nat) (w : World) (hl : l.length ≤ 1099511627776) (hin : ∀ n ∈ l, In64 n) (hr : Rd w A 1 (l.map encI)) (hs : ¬ In64 l.sum) :
  Calls Tryz.prog 135 #[.slice A l.length c] w fun e w' => e = .returned (.tuple #[.int .i64 0, .int .i64 7]) ∧ Below w.heap.size w w' :=
 fixSumAt l A c w hl hin hr _ _ fun w1 => narrowNo _ w1 (by have := sum64_bound l hin; unfold In128; omega) hs
/- Contracts of the reference's trim, Nat, Of. -/
structure IsBig (w : World) (n : Int) (s : Bool) (A : Option Addr) (l : List Int) (c : Nat) : Prop where
 rd : Rd w A 1 (l.map encB)
 bit : Bit l
 top : Top l
 val : val l = iabs n
 cap : l.length ≤ c
 room : c ≤ maxLen
 sgn : s = decide (n < 0)
theorem IsBig.keep {w w' : World} {n : Int} {s : Bool} {A : Option Addr} {l : List Int} {c : Nat} (h : IsBig w n s A l c) (hb : Below w.heap.size w w') : IsBig w' n s A l c := ⟨h.rd.keep hb, h.bit, h.top, h.val, h.cap, h.room, h.sgn⟩
theorem IsBig.far {w : World} {n : Int} {s : Bool} {A : Option Addr} {l : List Int} {c : Nat} (h : IsBig w n s A l c) {p : Addr} {v0 : Value} (hp : w.cell? p = some v0) (hne : ∀ k x, v0 ≠ .int k x) (u : Value) : IsBig (w.setCell p u) n s A l c :=
 ⟨h.rd.far hp (fun r hr hm => by
  obtain ⟨b, _, rfl⟩ := List.mem_map.1 hr
  simp [encB] at hm
  exact hne _ _ hm) u, h.bit, h.top, h.val, h.cap, h.room, h.sgn⟩
theorem Rd.take {w : World} {A : Option Addr} {l : List Int} (h : Rd w A 1 (l.map encB)) (k : Nat) : Rd w A 1 ((l.take k).map encB) := by
 intro i r hr
 rw [List.map_take, List.getElem?_take] at hr
 split at hr
 ·exact h i r hr
 ·cases hr
/- Contracts of the reference's Nat, Of. -/
theorem fieldBigB (s : Bool) (A : Option Addr) (n c : Nat) (w : World) : (Instr.field 141 (.agg #[.bool s, .slice A n c]) 1).run Tryz.prog w = .ok (.slice A n c) w := by kernel_rfl
attribute [local go_sem] fieldBigB
/- The sum of numbers of 64 bits, or that it leaves them: contract of fix.Sum. -/
def sum64C (l : List Int) : Int := if in64 l.sum then 0 else 7
def sum64N (l : List Int) : Int := if in64 l.sum then l.sum else 0
theorem sum64_in (l : List Int) : In64 (sum64N l) := by
 unfold sum64N
 split
 ·rename_i h; exact in64_iff.1 h
 ·unfold In64; omega
theorem fixSum64 (l : List Int) (A : Option Addr) (c : Nat) (w : World) (hl : l.length ≤ 1099511627776) (hin : ∀ n ∈ l, In64 n) (hr : Rd w A 1 (l.map encI)) :
  Calls Tryz.prog 135 #[.slice A l.length c] w fun e w' => e = .returned (.tuple #[.int .i64 (sum64N l), .int .i64 (sum64C l)]) ∧ Below w.heap.size w w' := by
 unfold sum64N sum64C
 by_cases h : in64 l.sum = true
 ·rw [if_pos h, if_pos h]; exact fixSumYes l A c w hl hin hr (in64_iff.1 h)
 ·rw [if_neg h, if_neg h]; exact fixSumNo l A c w hl hin hr (in64_no (by simpa using h))
end Go.Proofs.YtalgfpegaobacaaGreatDoor
