/- Joined. -/
import Derived.Test.YtalgfpegaobacaaGreatDoorQz5
namespace Go.Proofs.YtalgfpegaobacaaGreatDoor
set_option linter.all false
set_option maxHeartbeats 1000000
set_option maxRecDepth 100000
open Go.RowKit
/- Contracts of wide.Neg, Times. -/
attribute [local go_sem] fieldSizeLo
theorem sgn_neg (n : Int) : sgn (!decide (n < 0)) (iabs n) = - n := by unfold sgn iabs; by_cases h : n < 0 <;> simp [h]
theorem wideNegYes (n : Int) (w : World) (h : In128 n) (hn : In128 (- n)) :
  Calls Tryz.prog 208 #[(.agg #[.int .i64 (whi (n)), .int .u64 (wlo (n))])] w fun e w' => e = .returned (.tuple #[(.agg #[.int .i64 (whi (- n)), .int .u64 (wlo (- n))]), .int .i64 0]) ∧ Below w.heap.size w w' := by
 have f1 := sgn_neg n
 have f2 := wrap128_in hn
 have f3 := in128_true hn
 have b3 : 0 ≤ iabs n ∧ iabs n < 340282366920938463463374607431768211456 := by unfold In128 at h; unfold iabs; split <;> omega
 go_enter Tryz.func208, Tryz.ntmps208
 go_wp2
 go_region_held3 (fun w' => w'.cell? ⟨w.heap.size, 0, none⟩ = some (.int .i64 (whi n)) ∧ w'.cell? ⟨w.heap.size, 1, none⟩ = some (.int .u64 (wlo n))) (exact tK) (first | (go_at_call 221; (with_reducible refine cM (wideSize n _ h) fun w1 hb1 fc1 fg1 hc1 hf1 hz1 => ?_); try simp at hz1) | (go_at_call 223; (with_reducible refine cM (wideBelow n _ h) fun w2 hb2 fc2 fg2 hc2 hf2 hz2 => ?_); try simp at hz2) | (go_at_call 222; (with_reducible refine cM (wideSigned _ _ _ b3.1 b3.2) fun w3 hb3 fc3 fg3 hc3 hf3 hz3 => ?_); try simp at hz3) | (go_at_call 204; (with_reducible refine cM (wideRangedYes _ _) fun w4 hb4 fc4 fg4 hc4 hf4 hz4 => ?_); try simp at hz4))
 go_wp2
 all_goals
  refine bodyPost_ret (by simp [results, Tryz.results208, go_sem, ↓IntWalk.iteOmega, hc1, hc2, hc3, hc4]; try rfl) rfl ⟨rfl, ?_⟩
  exact tB
end Go.Proofs.YtalgfpegaobacaaGreatDoor
