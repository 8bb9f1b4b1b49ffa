/- Shares: the contract of slices.SortFunc at quotas. -/
import Derived.Test.YtenehpcliajdnaaSortQ
import Derived.Test.YtenehpcliajdnaaShrR
import Derived.Test.YtenehpcliajdnaaList
import Derived.Test.YtenehpcliajdnaaRows
import Derived.Deep.RegionHeld3
import Derived.BigQuiet
namespace Go.Proofs.Ytenehpcliajdnaa
open Go.RowKit
instance : Inhabited Quo := ⟨⟨0, 0, 0⟩⟩
theorem grow3 (w : World) (a b c : Obj) : (((w.alloc a).alloc b).alloc c).drew = Go.Sort.grow (w.drewN 1) (#[a] ++ #[b] ++ #[c]) := by
  rw [Go.Sort.alloc_eq_grow, Go.Sort.alloc_eq_grow, Go.Sort.alloc_eq_grow, Go.Sort.grow_grow, Go.Sort.grow_grow]
  rfl
def cfQ (q p : Quo) : Int := orOf (ord p.left q.left) (ord q.pos p.pos)
set_option maxHeartbeats 400000 in
theorem cmpQ64 (a b : Int) (w : World) :
    Calls Try.prog 86 #[.int .i64 a, .int .i64 b] w fun e w' => e = .returned (.int .i64 (ord a b)) ∧ w = w' := by
  go_enter Try.func86, Try.ntmps86
  go_wp2
  all_goals (go_ret; exact ⟨ret_int (by unfold ord; repeat' split <;> omega), rfl⟩)
set_option maxHeartbeats 400000 in
theorem cmpQi (a b : Int) (w : World) :
    Calls Try.prog 87 #[.int .i64 a, .int .i64 b] w fun e w' => e = .returned (.int .i64 (ord a b)) ∧ w = w' := by
  go_enter Try.func87, Try.ntmps87
  go_wp2
  all_goals (go_ret; exact ⟨ret_int (by unfold ord; repeat' split <;> omega), rfl⟩)
set_option maxRecDepth 100000 in
set_option maxHeartbeats 4000000 in
theorem shrAhead (x y : Quo) (w : World) : Calls Try.prog 64 #[.agg #[.int .i64 x.pos, .int .i64 x.part, .int .i64 x.left], .agg #[.int .i64 y.pos, .int .i64 y.part, .int .i64 y.left]] w fun e w' => e = .returned (.int .i64 (cfQ x y)) ∧ ∃ q os, w' = Go.Sort.grow (w.drewN q) os := by
  unfold cfQ
  generalize ho1 : ord y.left x.left = o1
  generalize ho2 : ord x.pos y.pos = o2
  have C1 := Lib.hid (fun W => show Calls Try.prog 86 #[.int .i64 y.left, .int .i64 x.left] W fun e w' => e = .returned (.int .i64 o1) ∧ W = w' from by rw [← ho1]; exact cmpQ64 _ _ _)
  have C2 := Lib.hid (fun W => show Calls Try.prog 87 #[.int .i64 x.pos, .int .i64 y.pos] W fun e w' => e = .returned (.int .i64 o2) ∧ W = w' from by rw [← ho2]; exact cmpQi _ _ _)
  clear ho1 ho2
  go_enter Try.func64, Try.ntmps64
  go_wp2_with fail
  go_region_held3 (fun w' => (w'.cell? ⟨w.heap.size, 0, none⟩ = some (.int .i64 x.pos) ∧ w'.cell? ⟨w.heap.size, 2, none⟩ = some (.int .i64 x.left)) ∧ w'.cell? ⟨w.heap.size + 1, 0, none⟩ = some (.int .i64 y.pos) ∧ w'.cell? ⟨w.heap.size + 1, 2, none⟩ = some (.int .i64 y.left)) (first | (simp [go_sem]; done) | (repeat' (first | (with_reducible assumption) | (with_reducible refine And.intro ?_ ?_) | (with_reducible refine cell_drew ?_) | (with_reducible refine cell_via (by with_reducible assumption) ?_ ?_) | (simp [*]; done) | (simp [go_sem]; done) | (with_reducible refine cell_alloc ?_ ?_) | (with_reducible refine cell_set_far ?_ ?_) | omega | (simp; omega)))) (first | (go_at_call 86; (with_reducible refine (C1.out _).mono ?_); rintro e w1 ⟨rfl, rfl⟩) | (go_at_call 87; (with_reducible refine (C2.out _).mono ?_); rintro e w2 ⟨rfl, rfl⟩) | (go_at_call 85; (with_reducible refine (cmpOr2 o1 o2 _ _ 0 _ ?_ ?_).mono ?_); (focus (simp [go_sem]; done)); (focus (simp [go_sem]; done)); rintro e w3 ⟨rfl, rfl⟩) | fail)
  all_goals
    go_wp2_with fail
    go_ret
    exact ⟨rfl, 1, _, grow3 _ _ _ _⟩
theorem shrLays (blk off size : Nat) (w : World) : CmpLays Try.prog 64 #[] encQuo 3 cfQ blk off size w :=
  fun _ _ _ _ x y => shrAhead x y _
theorem cfQ_lt (x y : Quo) : Go.Proofs.ltOf cfQ x y = aheadQ x y := by
  unfold Go.Proofs.ltOf cfQ orOf ord aheadQ
  rw [Bool.eq_iff_iff]
  simp
  repeat' split
  all_goals omega
theorem cfQ_swo : Go.Sort.SWO (Go.Proofs.ltOf cfQ) where
  irrefl x := by
    rw [cfQ_lt]
    cases h : aheadQ x x
    · rfl
    · rw [aheadQ_iff] at h; omega
  trans x y z h k := by rw [cfQ_lt] at *; rw [aheadQ_iff] at *; omega
  ntrans x y z h k := by
    rw [cfQ_lt] at *
    cases hh : aheadQ x z
    · rfl
    · have h' : ¬ (y.left < x.left ∨ (x.left = y.left ∧ x.pos < y.pos)) := fun e => by rw [aheadQ_iff.2 e] at h; cases h
      have k' : ¬ (z.left < y.left ∨ (y.left = z.left ∧ y.pos < z.pos)) := fun e => by rw [aheadQ_iff.2 e] at k; cases k
      rw [aheadQ_iff] at hh
      omega
end Go.Proofs.Ytenehpcliajdnaa
