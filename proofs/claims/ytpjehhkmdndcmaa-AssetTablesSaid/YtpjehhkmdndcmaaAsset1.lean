/- Assets: contracts of asset.Check and the reference's Is. -/
import Derived.Test.YtpjehhkmdndcmaaAssetT
import Derived.Test.YtpjehhkmdndcmaaRows
import Derived.WalkKit
import Derived.WalkSpells
import Derived.WalkLawsBesides
import Derived.BigQuiet
import Derived.Deep.RegionHeld3
import Derived.Handy
namespace Go.Proofs.Ytpjehhkmdndcmaa
open Go.RowKit
def pricedA (p : Int) : Bool := decide (0 ≤ p) && decide (p ≤ 2147483647)
set_option maxRecDepth 100000 in
set_option maxHeartbeats 2000000 in
theorem assetPriced (p : Int) (w : World) : Calls Try.prog 84 #[.int .i64 p] w fun e w' => e = .returned (.bool (pricedA p)) ∧ Below w.heap.size w w' := by
  by_cases h : 0 ≤ p
  · have d1 : decide (0 ≤ p) = true := by simpa using h
    have HP := Lib.hid (show pricedA p = decide (p ≤ 2147483647) from by unfold pricedA; rw [d1]; rfl)
    go_enter Try.func84, Try.ntmps84
    go_wp2_with fail
    go_ret
    exact ⟨by rw [HP.out]; first | done | rfl, by (repeat' (first | (with_reducible exact Below.refl _ _) | (with_reducible assumption) | (with_reducible refine Below.alloc ?_ ?_ _) | (with_reducible refine Below.setCell ?_ ?_ _) | (with_reducible refine Below.drew ?_) | (with_reducible refine below_drewN ?_ _) | (with_reducible refine below_via ?_ (by with_reducible assumption) ?_) | omega | (simp; done) | (simp; omega)))⟩
  · have d1 : decide (0 ≤ p) = false := by simpa using h
    have HP := Lib.hid (show pricedA p = false from by unfold pricedA; rw [d1]; rfl)
    go_enter Try.func84, Try.ntmps84
    go_wp2_with fail
    go_ret
    exact ⟨by rw [HP.out]; first | done | rfl, by (repeat' (first | (with_reducible exact Below.refl _ _) | (with_reducible assumption) | (with_reducible refine Below.alloc ?_ ?_ _) | (with_reducible refine Below.setCell ?_ ?_ _) | (with_reducible refine Below.drew ?_) | (with_reducible refine below_drewN ?_ _) | (with_reducible refine below_via ?_ (by with_reducible assumption) ?_) | omega | (simp; done) | (simp; omega)))⟩
def codeA (x : Asset) : Int := if okA x then 0 else 2
theorem codeA_yes {x : Asset} (h : okA x) : codeA x = 0 := by unfold codeA; rw [if_pos h]
theorem codeA_no {x : Asset} (h : ¬ okA x) : codeA x = 2 := by unfold codeA; rw [if_neg h]
set_option maxRecDepth 100000 in
set_option maxHeartbeats 4000000 in
theorem assetCheck (x : Asset) (w : World) : Calls Try.prog 47 #[.agg #[.int .i64 x.id, .int .i64 x.price, .int .i64 x.hair]] w fun e w' => e = .returned (.int .i64 (codeA x)) ∧ Below w.heap.size w w' := by
  obtain ⟨c, hc⟩ : ∃ c, c = codeA x := ⟨_, rfl⟩
  have HD := Lib.hid hc
  rw [← hc]
  clear hc
  obtain ⟨pb, hpb⟩ : ∃ pb, pb = pricedA x.price := ⟨_, rfl⟩
  have HPB := Lib.hid hpb
  have c1 := fun W => assetPriced x.price W
  rw [← hpb] at c1
  have C1 := Lib.hid c1
  clear c1 hpb
  cases pb
  all_goals
    go_enter Try.func47, Try.ntmps47
    go_wp2_with (first | (go_at_call 84; (with_reducible refine (C1.out _).mono ?_); rintro e w1 ⟨rfl, hb1⟩; obtain ⟨fc1, fg1, hc1, hf1, hz1⟩ := bget hb1; try simp at hz1) | fail)
  all_goals
    go_ret
    refine ⟨?_, by (repeat' (first | (with_reducible exact Below.refl _ _) | (with_reducible assumption) | (with_reducible refine Below.alloc ?_ ?_ _) | (with_reducible refine Below.setCell ?_ ?_ _) | (with_reducible refine Below.drew ?_) | (with_reducible refine below_drewN ?_ _) | (with_reducible refine below_via ?_ (by with_reducible assumption) ?_) | omega | (simp; done) | (simp; omega)))⟩
    have h1 := HPB.out
    unfold pricedA at h1
    simp at h1
    rw [HD.out]
    first
      | (rw [codeA_no (fun hk => by unfold okA at hk; omega)]; rfl)
      | (rw [codeA_yes (by unfold okA; omega)]; rfl)
      | fail
set_option maxRecDepth 100000 in
set_option maxHeartbeats 4000000 in
theorem ref12Is (x : Asset) (w : World) : Calls Try.prog 28 #[.agg #[.int .i64 x.id, .int .i64 x.price, .int .i64 x.hair]] w fun e w' => e = .returned (.bool (decide (okA x))) ∧ Below w.heap.size w w' := by
  obtain ⟨c, hc⟩ : ∃ c, c = decide (okA x) := ⟨_, rfl⟩
  have HD := Lib.hid hc
  rw [← hc]
  clear hc
  go_enter Try.func28, Try.ntmps28
  go_wp2_with fail
  all_goals
    go_ret
    refine ⟨?_, by (repeat' (first | (with_reducible exact Below.refl _ _) | (with_reducible assumption) | (with_reducible refine Below.alloc ?_ ?_ _) | (with_reducible refine Below.setCell ?_ ?_ _) | (with_reducible refine Below.drew ?_) | (with_reducible refine below_drewN ?_ _) | (with_reducible refine below_via ?_ (by with_reducible assumption) ?_) | omega | (simp; done) | (simp; omega)))⟩
    rw [HD.out]
    first
      | (rw [decide_eq_false (p := okA x) (fun hk => by unfold okA at hk; omega)]; rfl)
      | (rw [decide_eq_true (p := okA x) (by unfold okA; omega)]; rfl)
      | (refine Eq.trans (b := Ending.returned (.bool (decide (x.hair < 10001)))) rfl ?_; refine ret_bool ?_; unfold okA; omega)
      | fail
end Go.Proofs.Ytpjehhkmdndcmaa
