/- Lots: contract of lots.with. -/
import Derived.Test.YtemhhojenocddaaLot5
import Derived.Test.YtemhhojenocddaaLotP
import Derived.Outline
import Derived.Test.YtemhhojenocddaaGrown
namespace Go.Proofs.Ytemhhojenocddaa
open Go.RowKit
def addQ (x : Lot) (q : Int) : List Lot := if q = 0 then [] else [withQ x q]
set_option maxRecDepth 100000 in
set_option maxHeartbeats 8000000 in
theorem lotWith (l : List Lot) (x : Lot) (q : Int) (v : Value) (base : Nat) (w : World) (hl : l.length ≤ 900000) (hbs : base ≤ w.heap.size) (hown : Own w base 58 3 v (l.map encLot)) :
    Calls Try.prog 87 #[v, .agg #[.int .i64 x.asset, .int .i64 x.tag, .int .i64 x.qty], .int .i64 q] w fun e w' => ∃ v', e = .returned v' ∧ Own w' base 58 3 v' ((l ++ addQ x q).map encLot) ∧ Below base w w' ∧ w.grownBy w' v.ownBlock ∧ (∀ g, v'.ownBlock = some g → v.ownBlock = some g ∨ w.heap.size ≤ g) := by
  have HO := Lib.hid hown
  obtain ⟨A, c, hv0, _, _⟩ := hown.rs
  have hlt : ∀ g, v.ownBlock = some g → g < w.heap.size := fun g hg => (hown.block g hg).2
  have HLT := Lib.hid hlt
  clear hown hlt
  by_cases h0 : q = 0
  · have HA := Lib.hid (show l ++ addQ x q = l from by unfold addQ; rw [if_pos h0]; simp)
    have b0 : (q == 0) = true := by simpa using h0
    clear h0
    go_enter Try.func87, Try.ntmps87
    go_wp2_with fail
    go_ret
    exact ⟨_, rfl, by rw [HA.out]; exact HO.out.alloc _, by (repeat' (first | (with_reducible exact Below.refl _ _) | (with_reducible assumption) | (with_reducible refine Below.alloc ?_ ?_ _) | (with_reducible refine Below.setCell ?_ ?_ _) | (with_reducible refine Below.drew ?_) | (with_reducible refine below_drewN ?_ _) | (with_reducible refine below_via ?_ (by with_reducible assumption) ?_) | omega | (simp; done) | (simp; omega))), grown_of_below (by (repeat' (first | (with_reducible exact Below.refl _ _) | (with_reducible assumption) | (with_reducible refine Below.alloc ?_ ?_ _) | (with_reducible refine Below.setCell ?_ ?_ _) | (with_reducible refine Below.drew ?_) | (with_reducible refine below_drewN ?_ _) | (with_reducible refine below_via ?_ (by with_reducible assumption) ?_) | omega | (simp; done) | (simp; omega)))), fun g hg => .inl hg⟩
  · have HA := Lib.hid (show l ++ addQ x q = l ++ [withQ x q] from by unfold addQ; rw [if_neg h0])
    have b0 : (q == 0) = false := by simpa using h0
    clear h0
    rw [List.length_map] at hv0
    subst hv0
    go_enter Try.func87, Try.ntmps87
    go_wp2_with (first | (at_builtin; refine wpList_appAt rfl _ _ _ rfl elLot base (.slice A l.length c) (l.map encLot) rfl ?_ ⟨_, 0, none⟩ 1 1 rfl [encLot (withQ x q)] rfl (rd_oneN (by simp)) (rowsLot [withQ x q]) (by unfold maxLen; first | (simp; done) | omega | (simp; omega)) (by first | (simp; done) | omega | (simp; omega)) (by first | omega | (simp; done) | (simp; omega)) ?_; (focus (repeat' (first | (with_reducible exact HO.out) | (with_reducible refine Own.alloc ?_ _) | (with_reducible refine Own.far ?_ ?_ _) | (intro h; have := HLT.out _ h; simp at this)))); intro v3 w3 hown3 hb3 hg3 ha3) | fail)
    go_ret
    refine ⟨_, rfl, by rw [HA.out, List.map_append]; exact hown3, by (repeat' (first | (with_reducible exact Below.refl _ _) | (with_reducible assumption) | (with_reducible refine Below.alloc ?_ ?_ _) | (with_reducible refine Below.setCell ?_ ?_ _) | (with_reducible refine Below.drew ?_) | (with_reducible refine below_drewN ?_ _) | (with_reducible refine below_via ?_ (by with_reducible assumption) ?_) | omega | (simp; done) | (simp; omega))), ?_, ?_⟩
    · exact grown_via (by (repeat' (first | (with_reducible exact Below.refl _ _) | (with_reducible assumption) | (with_reducible refine Below.alloc ?_ ?_ _) | (with_reducible refine Below.setCell ?_ ?_ _) | (with_reducible refine Below.drew ?_) | (with_reducible refine below_drewN ?_ _) | (with_reducible refine below_via ?_ (by with_reducible assumption) ?_) | omega | (simp; done) | (simp; omega)))) hg3
    · intro g hg
      have hg' : v3.ownBlock = some g := hg
      rcases ha3 with h | h
      · exact .inl (h.symm.trans hg')
      · rw [h] at hg'
        injection hg' with hg'
        simp at hg'
        exact .inr (by omega)
end Go.Proofs.Ytemhhojenocddaa
