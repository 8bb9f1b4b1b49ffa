/- Contracts of the functions of wide that call nothing but bits.Add64, bits.Sub64, bits.Mul64. -/
import Derived.Test.YtemhhojenocddaaNum
import Derived.Test.YtemhhojenocddaaRows
import Derived.Shelf.Spec.BitsCarry
import Derived.WalkKit
import Derived.WalkSpells
import Derived.WalkLawsBesides
import Derived.BigQuiet
import Derived.Deep.RegionHeld3
import Derived.Handy
namespace Go.Proofs.Ytemhhojenocddaa
open Go.RowKit

theorem add64 (x y c : Int) (hx : 0 ≤ x) (hy : 0 ≤ y) (hc0 : 0 ≤ c) (hc : c ≤ 1) (w : World) : (callFunc 116 #[.int .u64 x, .int .u64 y, .int .u64 c]).run Try.prog w =
    .ok (.value (.tuple #[.int .u64 (wlo (x + y + c)), .int .u64 (whi (x + y + c))])) w := by
  obtain ⟨x, rfl⟩ := Int.eq_ofNat_of_zero_le hx
  obtain ⟨y, rfl⟩ := Int.eq_ofNat_of_zero_le hy
  obtain ⟨c, rfl⟩ := Int.eq_ofNat_of_zero_le hc0
  rw [run_callFunc_extern Try.func116 (by kernel_rfl) (by kernel_rfl) (by kernel_rfl) (e := add64Entry) (by kernel_rfl), run_add64 x y c (by omega) (by omega) (by omega) (by omega)]
  simp only [Result.andThen, wlo, whi]
set_option maxHeartbeats 400000 in
theorem wideOf (n : Int) (w : World) (h : In64 n) :
    Calls Try.prog 69 #[.int .i64 n] w fun e w' => e = .returned (.agg #[.int .i64 (whi n), .int .u64 (wlo n)]) ∧ Below w.heap.size w w' := by
  unfold In64 at h
  go_enter Try.func69, Try.ntmps69
  go_wp2
  go_returns
  exact ⟨ret_agg2 (by unfold whi; omega) (by rw [IntKind.wrap_u64]; rfl), (Below.refl _ _).alloc (Nat.le_refl _) _⟩

set_option maxHeartbeats 400000 in
theorem wideRangedYes (n : Int) (w : World) :
    Calls Try.prog 117 #[(.agg #[.int .i64 (whi (n)), .int .u64 (wlo (n))]), .bool true] w fun e w' => e = .returned (.tuple #[(.agg #[.int .i64 (whi (n)), .int .u64 (wlo (n))]), .int .i64 0]) ∧ Below w.heap.size w w' := by
  go_enter Try.func117, Try.ntmps117
  go_wp2
  refine bodyPost_ret (by simp [results, Try.results117, go_sem, ]; try rfl) rfl ⟨rfl, ?_⟩
  (repeat' (first | (with_reducible exact Below.refl _ _) | (with_reducible assumption) | (with_reducible refine Below.alloc ?_ ?_ _) | (with_reducible refine Below.setCell ?_ ?_ _) | (with_reducible refine Below.drew ?_) | (with_reducible refine below_drewN ?_ _) | (with_reducible refine below_via ?_ (by with_reducible assumption) ?_) | omega | (simp; done) | (simp; omega)))
set_option maxHeartbeats 400000 in
theorem wideRangedNo (a b : Int) (w : World) :
    Calls Try.prog 117 #[.agg #[.int .i64 a, .int .u64 b], .bool false] w fun e w' => e = .returned (.tuple #[.agg #[.int .i64 0, .int .u64 0], .int .i64 7]) ∧ Below w.heap.size w w' := by
  go_enter Try.func117, Try.ntmps117
  go_wp2
  refine bodyPost_ret (by simp [results, Try.results117, go_sem, ]; try rfl) rfl ⟨rfl, ?_⟩
  (repeat' (first | (with_reducible exact Below.refl _ _) | (with_reducible assumption) | (with_reducible refine Below.alloc ?_ ?_ _) | (with_reducible refine Below.setCell ?_ ?_ _) | (with_reducible refine Below.drew ?_) | (with_reducible refine below_drewN ?_ _) | (with_reducible refine below_via ?_ (by with_reducible assumption) ?_) | omega | (simp; done) | (simp; omega)))

end Go.Proofs.Ytemhhojenocddaa
