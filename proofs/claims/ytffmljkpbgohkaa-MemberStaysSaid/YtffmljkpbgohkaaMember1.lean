/- Contracts of member.May, Room. -/
import Derived.Test.YtffmljkpbgohkaaFix2
namespace Go.Proofs.Ytffmljkpbgohkaa
open Go.RowKit
theorem rd_int2 {w : World} {g o : Nat} {a b : Int} (hg : g < w.heap.size) (h0 : w.cell? ⟨g, o, none⟩ = some (.int .i64 a)) (h1 : w.cell? ⟨g, o + 1, none⟩ = some (.int .i64 b)) : Rd w (some ⟨g, o, none⟩) 1 ([a, b].map encI) := by
  intro i r hr
  match i, hr with
  | 0, hr =>
    simp at hr
    subst hr
    refine ⟨g, o, rfl, hg, fun j v hv => ?_⟩
    match j, hv with
    | 0, hv => simp [encI] at hv; subst hv; simpa using h0
  | 1, hr =>
    simp at hr
    subst hr
    refine ⟨g, o, rfl, hg, fun j v hv => ?_⟩
    match j, hv with
    | 0, hv => simp [encI] at hv; subst hv; simpa using h1
theorem fixSum2Yes (a b : Int) (g o c : Nat) (w : World) (ha : In64 a) (hb : In64 b) (hs : In64 (a + b)) (hg : g < w.heap.size) (h0 : w.cell? ⟨g, o, none⟩ = some (.int .i64 a)) (h1 : w.cell? ⟨g, o + 1, none⟩ = some (.int .i64 b)) :
    Calls Try.prog 60 #[.slice (some ⟨g, o, none⟩) 2 c] w fun e w' => e = .returned (.tuple #[.int .i64 (a + b), .int .i64 0]) ∧ Below w.heap.size w w' := by
  have := fixSumYes [a, b] (some ⟨g, o, none⟩) c w (by simp) (by simp [ha, hb]) (rd_int2 hg h0 h1) (by simpa using hs)
  simpa using this
theorem fixSum2No (a b : Int) (g o c : Nat) (w : World) (ha : In64 a) (hb : In64 b) (hs : ¬ In64 (a + b)) (hg : g < w.heap.size) (h0 : w.cell? ⟨g, o, none⟩ = some (.int .i64 a)) (h1 : w.cell? ⟨g, o + 1, none⟩ = some (.int .i64 b)) :
    Calls Try.prog 60 #[.slice (some ⟨g, o, none⟩) 2 c] w fun e w' => e = .returned (.tuple #[.int .i64 0, .int .i64 7]) ∧ Below w.heap.size w w' := by
  have := fixSumNo [a, b] (some ⟨g, o, none⟩) c w (by simp) (by simp [ha, hb]) (rd_int2 hg h0 h1) (by simpa using hs)
  simpa using this
/-- A member. -/
structure Mem where
  id : Int
  cap : Int
  phase : Int
  til : Int
def encM (m : Mem) : List Value := [.int .i64 m.id, .int .i64 m.cap, .int .i64 m.phase, .int .i64 m.til]
def roomOf (cap used more : Int) : Int := if used < 0 ∨ more < 0 then 2 else if used + more ≤ cap then 0 else 16
set_option maxRecDepth 100000 in
set_option maxHeartbeats 1000000 in
theorem memRoom (i cap p t used more : Int) (w : World) (hc : In64 cap) (hu : In64 used) (hm : In64 more) :
    Calls Try.prog 22 #[.agg #[.int .i64 i, .int .i64 cap, .int .i64 p, .int .i64 t], .int .i64 used, .int .i64 more] w fun e w' => e = .returned (.int .i64 (roomOf cap used more)) ∧ Below w.heap.size w w' := by
  by_cases h1 : min used more < 0
  · have d1 : decide (min used more < 0) = true := by simpa using h1
    have hr : roomOf cap used more = 2 := by unfold roomOf; rw [if_pos (by omega)]
    rw [hr]
    clear hr
    go_enter Try.func22, Try.ntmps22
    go_wp2_with (go_at_call 64; (with_reducible refine (fixLeast1 used more _ _ _ _ ?_ ?_).mono ?_); exact (by simp); exact (by simp [go_sem]); rintro e w' ⟨rfl, rfl⟩)
    go_ret
    exact ⟨rfl, by (repeat' (first | (with_reducible exact Below.refl _ _) | (with_reducible assumption) | (with_reducible refine Below.alloc ?_ ?_ _) | (with_reducible refine Below.setCell ?_ ?_ _) | (with_reducible refine Below.drew ?_) | (with_reducible refine below_drewN ?_ _) | (with_reducible refine below_via ?_ (by with_reducible assumption) ?_) | omega | (simp; done) | (simp; omega)))⟩
  · have d1 : decide (min used more < 0) = false := by simpa using h1
    have h2 : 0 ≤ used ∧ 0 ≤ more := by omega
    by_cases hs : In64 (used + more)
    · have hr : roomOf cap used more = if used + more ≤ cap then 0 else 16 := by unfold roomOf; rw [if_neg (by omega)]
      rw [hr]
      clear hr
      by_cases h3 : cap < used + more
      · rw [if_neg (by omega)]
        go_enter Try.func22, Try.ntmps22
        go_wp2_with (first | (go_at_call 64; (with_reducible refine (fixLeast1 used more _ _ _ _ ?_ ?_).mono ?_); exact (by simp); exact (by simp [go_sem]); rintro e w' ⟨rfl, rfl⟩) | (go_at_call 60; (with_reducible refine (fixSum2Yes used more _ _ _ _ hu hm hs ?_ ?_ ?_).mono ?_); exact (by simp); exact (by simp [go_sem]); exact (by simp [go_sem]); rintro e w1 ⟨rfl, hb1⟩; obtain ⟨fc1, fg1, hc1, hf1, hz1⟩ := bget hb1; (try simp at hz1)))
        go_ret
        exact ⟨rfl, by (repeat' (first | (with_reducible exact Below.refl _ _) | (with_reducible assumption) | (with_reducible refine Below.alloc ?_ ?_ _) | (with_reducible refine Below.setCell ?_ ?_ _) | (with_reducible refine Below.drew ?_) | (with_reducible refine below_drewN ?_ _) | (with_reducible refine below_via ?_ (by with_reducible assumption) ?_) | omega | (simp; done) | (simp; omega)))⟩
      · rw [if_pos (by omega)]
        go_enter Try.func22, Try.ntmps22
        go_wp2_with (first | (go_at_call 64; (with_reducible refine (fixLeast1 used more _ _ _ _ ?_ ?_).mono ?_); exact (by simp); exact (by simp [go_sem]); rintro e w' ⟨rfl, rfl⟩) | (go_at_call 60; (with_reducible refine (fixSum2Yes used more _ _ _ _ hu hm hs ?_ ?_ ?_).mono ?_); exact (by simp); exact (by simp [go_sem]); exact (by simp [go_sem]); rintro e w1 ⟨rfl, hb1⟩; obtain ⟨fc1, fg1, hc1, hf1, hz1⟩ := bget hb1; (try simp at hz1)))
        go_ret
        exact ⟨rfl, by (repeat' (first | (with_reducible exact Below.refl _ _) | (with_reducible assumption) | (with_reducible refine Below.alloc ?_ ?_ _) | (with_reducible refine Below.setCell ?_ ?_ _) | (with_reducible refine Below.drew ?_) | (with_reducible refine below_drewN ?_ _) | (with_reducible refine below_via ?_ (by with_reducible assumption) ?_) | omega | (simp; done) | (simp; omega)))⟩
    · have hr : roomOf cap used more = 16 := by unfold roomOf; rw [if_neg (by omega), if_neg (by unfold In64 at *; omega)]
      rw [hr]
      clear hr
      go_enter Try.func22, Try.ntmps22
      go_wp2_with (first | (go_at_call 64; (with_reducible refine (fixLeast1 used more _ _ _ _ ?_ ?_).mono ?_); exact (by simp); exact (by simp [go_sem]); rintro e w' ⟨rfl, rfl⟩) | (go_at_call 60; (with_reducible refine (fixSum2No used more _ _ _ _ hu hm hs ?_ ?_ ?_).mono ?_); exact (by simp); exact (by simp [go_sem]); exact (by simp [go_sem]); rintro e w1 ⟨rfl, hb1⟩; obtain ⟨fc1, fg1, hc1, hf1, hz1⟩ := bget hb1; (try simp at hz1)))
      go_ret
      exact ⟨rfl, by (repeat' (first | (with_reducible exact Below.refl _ _) | (with_reducible assumption) | (with_reducible refine Below.alloc ?_ ?_ _) | (with_reducible refine Below.setCell ?_ ?_ _) | (with_reducible refine Below.drew ?_) | (with_reducible refine below_drewN ?_ _) | (with_reducible refine below_via ?_ (by with_reducible assumption) ?_) | omega | (simp; done) | (simp; omega)))⟩
def mayOf (p : Int) : Int := if p = 0 then 0 else 15
set_option maxHeartbeats 400000 in
theorem memMay (i cap p t : Int) (w : World) :
    Calls Try.prog 24 #[.agg #[.int .i64 i, .int .i64 cap, .int .i64 p, .int .i64 t]] w fun e w' => e = .returned (.int .i64 (mayOf p)) ∧ Below w.heap.size w w' := by
  by_cases h : p = 0
  · subst h
    go_enter Try.func24, Try.ntmps24
    go_wp2
    go_ret
    exact ⟨rfl, by (repeat' (first | (with_reducible exact Below.refl _ _) | (with_reducible assumption) | (with_reducible refine Below.alloc ?_ ?_ _) | (with_reducible refine Below.setCell ?_ ?_ _) | (with_reducible refine Below.drew ?_) | (with_reducible refine below_drewN ?_ _) | (with_reducible refine below_via ?_ (by with_reducible assumption) ?_) | omega | (simp; done) | (simp; omega)))⟩
  · have d1 : (p != 0) = true := by simpa using h
    rw [show mayOf p = 15 from by unfold mayOf; rw [if_neg h]]
    go_enter Try.func24, Try.ntmps24
    go_wp2
    go_ret
    exact ⟨rfl, by (repeat' (first | (with_reducible exact Below.refl _ _) | (with_reducible assumption) | (with_reducible refine Below.alloc ?_ ?_ _) | (with_reducible refine Below.setCell ?_ ?_ _) | (with_reducible refine Below.drew ?_) | (with_reducible refine below_drewN ?_ _) | (with_reducible refine below_via ?_ (by with_reducible assumption) ?_) | omega | (simp; done) | (simp; omega)))⟩
end Go.Proofs.Ytffmljkpbgohkaa
