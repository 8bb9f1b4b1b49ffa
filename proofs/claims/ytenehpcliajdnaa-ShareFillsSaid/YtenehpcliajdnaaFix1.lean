/- Contracts of fix.narrow, Sub, Abs, Least, Most, Clip. -/
import Derived.Test.YtenehpcliajdnaaWide2
import Derived.Test.YtenehpcliajdnaaWide5
import Derived.Test.YtenehpcliajdnaaOwn
namespace Go.Proofs.Ytenehpcliajdnaa
open Go.RowKit
set_option maxHeartbeats 400000 in
theorem narrowYes (n : Int) (w : World) (h : In64 n) :
    Calls Try.prog 80 #[(.agg #[.int .i64 (whi (n)), .int .u64 (wlo (n))]), .int .i64 0] w fun e w' => e = .returned (.tuple #[.int .i64 n, .int .i64 0]) ∧ Below w.heap.size w w' := by
  go_enter Try.func80, Try.ntmps80
  go_wp2_with (go_at_call 45; (with_reducible refine (wideIntYes _ _ h).mono ?_); rintro e w1 ⟨rfl, hb1⟩; obtain ⟨fc1, fg1, hc1, hf1, hz1⟩ := bget hb1; try simp at hz1)
  go_ret2
  exact ⟨rfl, by (repeat' (first | (with_reducible exact Below.refl _ _) | (with_reducible assumption) | (with_reducible refine Below.alloc ?_ ?_ _) | (with_reducible refine Below.setCell ?_ ?_ _) | (with_reducible refine Below.drew ?_) | (with_reducible refine below_drewN ?_ _) | (with_reducible refine below_via ?_ (by with_reducible assumption) ?_) | omega | (simp; done) | (simp; omega)))⟩
set_option maxHeartbeats 400000 in
theorem narrowNo (n : Int) (w : World) (h : In128 n) (h' : ¬ In64 n) :
    Calls Try.prog 80 #[(.agg #[.int .i64 (whi (n)), .int .u64 (wlo (n))]), .int .i64 0] w fun e w' => e = .returned (.tuple #[.int .i64 0, .int .i64 7]) ∧ Below w.heap.size w w' := by
  go_enter Try.func80, Try.ntmps80
  go_wp2_with (go_at_call 45; (with_reducible refine (wideIntNo _ _ h h').mono ?_); rintro e w1 ⟨rfl, hb1⟩; obtain ⟨fc1, fg1, hc1, hf1, hz1⟩ := bget hb1; try simp at hz1)
  go_ret2
  exact ⟨rfl, by (repeat' (first | (with_reducible exact Below.refl _ _) | (with_reducible assumption) | (with_reducible refine Below.alloc ?_ ?_ _) | (with_reducible refine Below.setCell ?_ ?_ _) | (with_reducible refine Below.drew ?_) | (with_reducible refine below_drewN ?_ _) | (with_reducible refine below_via ?_ (by with_reducible assumption) ?_) | omega | (simp; done) | (simp; omega)))⟩
set_option maxHeartbeats 400000 in
theorem narrowErr (a b e : Int) (w : World) (h : (e != 0) = true) :
    Calls Try.prog 80 #[.agg #[.int .i64 a, .int .u64 b], .int .i64 e] w fun e' w' => e' = .returned (.tuple #[.int .i64 0, .int .i64 e]) ∧ Below w.heap.size w w' := by
  go_enter Try.func80, Try.ntmps80
  go_wp2
  go_ret2
  exact ⟨rfl, by (repeat' (first | (with_reducible exact Below.refl _ _) | (with_reducible assumption) | (with_reducible refine Below.alloc ?_ ?_ _) | (with_reducible refine Below.setCell ?_ ?_ _) | (with_reducible refine Below.drew ?_) | (with_reducible refine below_drewN ?_ _) | (with_reducible refine below_via ?_ (by with_reducible assumption) ?_) | omega | (simp; done) | (simp; omega)))⟩
set_option maxHeartbeats 400000 in
theorem fixSubYes (a b : Int) (w : World) (ha : In64 a) (hb : In64 b) (h : In64 (a - b)) :
    Calls Try.prog 89 #[.int .i64 a, .int .i64 b] w fun e w' => e = .returned (.tuple #[.int .i64 (a - b), .int .i64 0]) ∧ Below w.heap.size w w' := by
  have a1 := in128_of64 ha
  have b1 := in128_of64 hb
  have c1 := in128_of64 h
  go_enter Try.func89, Try.ntmps89
  go_wp2_with (first | (go_at_call 76; (with_reducible refine (wideOf a _ ha).mono ?_); rintro e w1 ⟨rfl, hb1⟩; obtain ⟨fc1, fg1, hc1, hf1, hz1⟩ := bget hb1; try simp at hz1) | (go_at_call 76; (with_reducible refine (wideOf b _ hb).mono ?_); rintro e w1 ⟨rfl, hb1⟩; obtain ⟨fc1, fg1, hc1, hf1, hz1⟩ := bget hb1; try simp at hz1) | (go_at_call 107; (with_reducible refine (wideSubYes a b _ a1 b1 c1).mono ?_); rintro e w1 ⟨rfl, hb1⟩; obtain ⟨fc1, fg1, hc1, hf1, hz1⟩ := bget hb1; try simp at hz1) | (go_at_call 80; (with_reducible refine (narrowYes _ _ h).mono ?_); rintro e w1 ⟨rfl, hb1⟩; obtain ⟨fc1, fg1, hc1, hf1, hz1⟩ := bget hb1; try simp at hz1))
  go_ret2
  exact ⟨rfl, by (repeat' (first | (with_reducible exact Below.refl _ _) | (with_reducible assumption) | (with_reducible refine Below.alloc ?_ ?_ _) | (with_reducible refine Below.setCell ?_ ?_ _) | (with_reducible refine Below.drew ?_) | (with_reducible refine below_drewN ?_ _) | (with_reducible refine below_via ?_ (by with_reducible assumption) ?_) | omega | (simp; done) | (simp; omega)))⟩
set_option maxHeartbeats 400000 in
theorem fixSubNo (a b : Int) (w : World) (ha : In64 a) (hb : In64 b) (h : ¬ In64 (a - b)) :
    Calls Try.prog 89 #[.int .i64 a, .int .i64 b] w fun e w' => e = .returned (.tuple #[.int .i64 0, .int .i64 7]) ∧ Below w.heap.size w w' := by
  have a1 := in128_of64 ha
  have b1 := in128_of64 hb
  have c1 : In128 (a - b) := by unfold In64 at ha hb; unfold In128; omega
  go_enter Try.func89, Try.ntmps89
  go_wp2_with (first | (go_at_call 76; (with_reducible refine (wideOf a _ ha).mono ?_); rintro e w1 ⟨rfl, hb1⟩; obtain ⟨fc1, fg1, hc1, hf1, hz1⟩ := bget hb1; try simp at hz1) | (go_at_call 76; (with_reducible refine (wideOf b _ hb).mono ?_); rintro e w1 ⟨rfl, hb1⟩; obtain ⟨fc1, fg1, hc1, hf1, hz1⟩ := bget hb1; try simp at hz1) | (go_at_call 107; (with_reducible refine (wideSubYes a b _ a1 b1 c1).mono ?_); rintro e w1 ⟨rfl, hb1⟩; obtain ⟨fc1, fg1, hc1, hf1, hz1⟩ := bget hb1; try simp at hz1) | (go_at_call 80; (with_reducible refine (narrowNo _ _ c1 h).mono ?_); rintro e w1 ⟨rfl, hb1⟩; obtain ⟨fc1, fg1, hc1, hf1, hz1⟩ := bget hb1; try simp at hz1))
  go_ret2
  exact ⟨rfl, by (repeat' (first | (with_reducible exact Below.refl _ _) | (with_reducible assumption) | (with_reducible refine Below.alloc ?_ ?_ _) | (with_reducible refine Below.setCell ?_ ?_ _) | (with_reducible refine Below.drew ?_) | (with_reducible refine below_drewN ?_ _) | (with_reducible refine below_via ?_ (by with_reducible assumption) ?_) | omega | (simp; done) | (simp; omega)))⟩
set_option maxHeartbeats 400000 in
theorem fixAbsYes (a : Int) (w : World) (ha : In64 a) (h : In64 (iabs a)) :
    Calls Try.prog 68 #[.int .i64 a] w fun e w' => e = .returned (.tuple #[.int .i64 (iabs a), .int .i64 0]) ∧ Below w.heap.size w w' := by
  by_cases hn : a < 0
  · have e1 : iabs a = 0 - a := by rw [iabs_neg hn]; omega
    rw [e1] at h ⊢
    clear e1
    have z64 : In64 0 := by unfold In64; omega
    go_enter Try.func68, Try.ntmps68
    go_wp2_with (go_at_call 89; (with_reducible refine (fixSubYes 0 a _ z64 ha h).mono ?_); rintro e w1 ⟨rfl, hb1⟩; obtain ⟨fc1, fg1, hc1, hf1, hz1⟩ := bget hb1; try simp at hz1)
    go_ret2
    exact ⟨by simp, by (repeat' (first | (with_reducible exact Below.refl _ _) | (with_reducible assumption) | (with_reducible refine Below.alloc ?_ ?_ _) | (with_reducible refine Below.setCell ?_ ?_ _) | (with_reducible refine Below.drew ?_) | (with_reducible refine below_drewN ?_ _) | (with_reducible refine below_via ?_ (by with_reducible assumption) ?_) | omega | (simp; done) | (simp; omega)))⟩
  · rw [iabs_pos (by omega)]
    go_enter Try.func68, Try.ntmps68
    go_wp2
    go_ret2
    exact ⟨rfl, by (repeat' (first | (with_reducible exact Below.refl _ _) | (with_reducible assumption) | (with_reducible refine Below.alloc ?_ ?_ _) | (with_reducible refine Below.setCell ?_ ?_ _) | (with_reducible refine Below.drew ?_) | (with_reducible refine below_drewN ?_ _) | (with_reducible refine below_via ?_ (by with_reducible assumption) ?_) | omega | (simp; done) | (simp; omega)))⟩
set_option maxHeartbeats 400000 in
theorem fixAbsNo (a : Int) (w : World) (ha : In64 a) (h : ¬ In64 (iabs a)) :
    Calls Try.prog 68 #[.int .i64 a] w fun e w' => e = .returned (.tuple #[.int .i64 0, .int .i64 7]) ∧ Below w.heap.size w w' := by
  by_cases hn : a < 0
  · have e1 : iabs a = 0 - a := by rw [iabs_neg hn]; omega
    rw [e1] at h
    clear e1
    have z64 : In64 0 := by unfold In64; omega
    go_enter Try.func68, Try.ntmps68
    go_wp2_with (go_at_call 89; (with_reducible refine (fixSubNo 0 a _ z64 ha h).mono ?_); rintro e w1 ⟨rfl, hb1⟩; obtain ⟨fc1, fg1, hc1, hf1, hz1⟩ := bget hb1; try simp at hz1)
    go_ret2
    exact ⟨rfl, by (repeat' (first | (with_reducible exact Below.refl _ _) | (with_reducible assumption) | (with_reducible refine Below.alloc ?_ ?_ _) | (with_reducible refine Below.setCell ?_ ?_ _) | (with_reducible refine Below.drew ?_) | (with_reducible refine below_drewN ?_ _) | (with_reducible refine below_via ?_ (by with_reducible assumption) ?_) | omega | (simp; done) | (simp; omega)))⟩
  · rw [iabs_pos (by omega)] at h
    exact absurd ha h

def minL (a : Int) (l : List Int) : Int := l.foldl min a
def maxL (a : Int) (l : List Int) : Int := l.foldl max a
theorem foldl_take (f : Int → Int → Int) (a : Int) (l : List Int) (k : Nat) (h : k < l.length) : (l.take (k + 1)).foldl f a = f ((l.take k).foldl f a) l[k] := by
  rw [List.take_succ_eq_append_getElem h, List.foldl_append]; rfl
set_option maxHeartbeats 400000 in
theorem fixLeast (a : Int) (l : List Int) (A : Option Addr) (c : Nat) (w : World) (hl : l.length ≤ 4503599627370496) (hr : Rd w A 1 (l.map encI)) :
    Calls Try.prog 81 #[.int .i64 a, .slice A l.length c] w fun e w' => e = .returned (.int .i64 (minL a l)) ∧ w = w' := by
  have Hr := Lib.hid hr
  clear hr
  go_enter Try.func81, Try.ntmps81
  go_wp2_with fail
  go_loop [0, 9] (fun m i => ∃ k : Nat, k ≤ l.length ∧ i = .int .i64 k ∧ m = .int .i64 (minL a (l.take k))) (fun _ i => l.length - (intOf i).toNat)
  case atStart => exact ⟨0, Nat.zero_le _, rfl, rfl⟩
  case round =>
    obtain ⟨k, hk, rfl, rfl⟩ := hrel
    by_cases hlt : k < l.length
    · obtain ⟨b, o, rfl, hb, hc⟩ := Hr.out k (encI l[k]) (by simp [hlt])
      have c0 := hc 0 _ rfl
      simp only [Nat.add_zero, Nat.mul_one] at c0
      clear hc
      have Hs := Lib.hid (foldl_take min a l k hlt)
      go_wp2
      go_round
      case rel => exact ⟨k + 1, by omega, by go_num, by (unfold minL; rw [Hs.out]; try (congr 1; split <;> omega))⟩
      case measure => simp [intOf]; omega
    · obtain rfl : k = l.length := by omega
      go_wp2
      go_ret
      exact ⟨ret_int (by simp), rfl⟩
def clip (a lo hi : Int) : Int := max lo (min a hi)
theorem maxL_one (a b : Int) : maxL a [b] = max a b := rfl
theorem minL_one (a b : Int) : minL a [b] = min a b := rfl
theorem rd_int1 {w : World} {g o : Nat} {b : Int} (hg : g < w.heap.size) (h0 : w.cell? ⟨g, o, none⟩ = some (.int .i64 b)) : Rd w (some ⟨g, o, none⟩) 1 ([b].map encI) := by
  intro i r hr
  match i, hr with
  | 0, hr =>
    simp at hr
    subst hr
    refine ⟨g, o, rfl, hg, fun j v hv => ?_⟩
    match j, hv with
    | 0, hv => simp [encI] at hv; subst hv; simpa using h0
theorem fixLeast1 (a b : Int) (g o c : Nat) (w : World) (hg : g < w.heap.size) (h0 : w.cell? ⟨g, o, none⟩ = some (.int .i64 b)) :
    Calls Try.prog 81 #[.int .i64 a, .slice (some ⟨g, o, none⟩) 1 c] w fun e w' => e = .returned (.int .i64 (min a b)) ∧ w = w' := fixLeast a [b] _ c w (by simp) (rd_int1 hg h0)
end Go.Proofs.Ytenehpcliajdnaa
