/- Contracts of wide.Sub, Add. -/
import Derived.Test.YtenehpcliajdnaaWide4
namespace Go.Proofs.Ytenehpcliajdnaa
open Go.RowKit
theorem tot_zero : tot 0 = #[.int .i64 0, .int .i64 0, .int .u64 0] := by simp [tot, whi, wlo, wrap128]
theorem not_u64 (x : Int) (h : 0 ≤ x) (h' : x ≤ 18446744073709551615) : bits .xor .u64 IntKind.u64.max x = 18446744073709551615 - x := by
  obtain ⟨x, rfl⟩ := Int.eq_ofNat_of_zero_le h
  show IntKind.u64.wrap ((BitVec.ofInt 64 IntKind.u64.max ^^^ BitVec.ofInt 64 (x : Int)).toNat : Int) = _
  have e : BitVec.ofInt 64 IntKind.u64.max = BitVec.allOnes 64 := by decide
  rw [e, BitVec.allOnes_xor, BitVec.toNat_not, BitVec.ofInt_natCast, BitVec.toNat_ofNat, IntKind.wrap_u64]
  omega
theorem not_i64 (x : Int) (h : -9223372036854775808 ≤ x) (h' : x ≤ 9223372036854775807) : bits .xor .i64 (-1) x = - x - 1 := by
  show IntKind.i64.wrap ((BitVec.ofInt 64 (-1) ^^^ BitVec.ofInt 64 x).toNat : Int) = _
  have e : BitVec.ofInt 64 (-1) = BitVec.allOnes 64 := by decide
  rw [e, BitVec.allOnes_xor, BitVec.toNat_not, BitVec.toNat_ofInt, IntKind.wrap_i64]
  omega
theorem not_hi (b : Int) (hb : In128 b) : bits .xor .i64 (-1) (whi b) = whi (- b - 1) := by
  have h := whi_i hb
  rw [not_i64 _ h.1 h.2]; unfold whi; omega
theorem not_lo (b : Int) : bits .xor .u64 IntKind.u64.max (wlo b) = wlo (- b - 1) := by
  have h := wlo_u b
  rw [not_u64 _ h.1 h.2]; unfold wlo; omega
set_option maxRecDepth 100000 in
set_option maxHeartbeats 1000000 in
theorem wideSubYes (a b : Int) (w : World) (ha : In128 a) (hb : In128 b) (hab : In128 (a - b)) :
    Calls Try.prog 107 #[(.agg #[.int .i64 (whi (a)), .int .u64 (wlo (a))]), (.agg #[.int .i64 (whi (b)), .int .u64 (wlo (b))])] w fun e w' => e = .returned (.tuple #[(.agg #[.int .i64 (whi (a - b)), .int .u64 (wlo (a - b))]), .int .i64 0]) ∧ Below w.heap.size w w' := by
  have h3 := whi_i hb
  have h4 := wlo_u b
  have x1 := not_hi b hb
  have x2 := not_lo b
  have hb' : In128 (- b - 1) := by unfold In128 at hb ⊢; omega
  have q1 : 0 + a + (- b - 1) + 1 = a - b := by omega
  have i1 : IntKind.i64.signed = true := rfl
  have i2 : IntKind.u64.signed = false := rfl
  go_enter Try.func107, Try.ntmps107
  go_wp2_with fail
  refine (totalAdd 0 a (w.heap.size + 1 + 1 + 1) _ (by unfold InT; omega) ha (by rw [tot_zero]; (repeat' (first | (with_reducible assumption) | (with_reducible refine Blk.drew ?_) | (with_reducible refine Blk.here ?_) | (with_reducible refine Blk.alloc ?_ _) | (with_reducible refine Blk.far ?_ ?_ _) | (with_reducible refine Blk.below ?_ (by with_reducible assumption) ?_) | omega | (simp; done) | (simp; omega))))).mono ?_
  rintro e w1 ⟨rfl, hk1, ho1⟩
  obtain ⟨fc1, fg1, hc1, hf1, hz1⟩ := oget ho1
  simp at hz1
  have Hk1 := Lib.hid hk1
  have Ho1 := Lib.hid ho1
  clear hk1 ho1
  go_wp2_with fail
  refine (totalAdd (0 + a) (- b - 1) (w.heap.size + 1 + 1 + 1) _ (by unfold In128 at ha; unfold InT; omega) hb' Hk1.out).mono ?_
  rintro e w2 ⟨rfl, hk2, ho2⟩
  obtain ⟨fc2, fg2, hc2, hf2, hz2⟩ := oget ho2
  have Hk2 := Lib.hid hk2
  have Ho2 := Lib.hid ho2
  clear hk2 ho2
  go_wp2_with fail
  refine (wideOf 1 _ (by unfold In64; omega)).mono ?_
  rintro e w3 ⟨rfl, hb3⟩
  obtain ⟨fc3, fg3, hc3, hf3, hz3⟩ := bget hb3
  go_wp2_with fail
  refine (totalAdd (0 + a + (- b - 1)) 1 (w.heap.size + 1 + 1 + 1) _ (by unfold In128 at ha hb; unfold InT; omega) (by unfold In128; omega) (Hk2.out.below hb3 (by omega))).mono ?_
  rintro e w4 ⟨rfl, hk4, ho4⟩
  obtain ⟨fc4, fg4, hc4, hf4, hz4⟩ := oget ho4
  rw [q1] at hk4
  have Hk4 := Lib.hid hk4
  have Ho4 := Lib.hid ho4
  clear hk4 ho4 q1
  go_wp2_with fail
  refine (totalDoneYes (a - b) (w.heap.size + 1 + 1 + 1) _ hab Hk4.out).mono ?_
  rintro e w5 ⟨rfl, hb5⟩
  obtain ⟨fc5, fg5, hc5, hf5, hz5⟩ := bget hb5
  go_wp2
  all_goals
    refine bodyPost_ret (by simp [*, results, Try.results107, go_sem, ↓IntWalk.iteOmega]; try rfl) rfl ⟨rfl, ?_⟩
    refine Below.setCell (Below.setCell (below_via (below_only (below_via (below_only (below_only ?_ Ho1.out ?_ ?_) Ho2.out ?_ ?_) hb3 ?_) Ho4.out ?_ ?_) hb5 ?_) ?_ _) ?_ _ <;> first | (simp; omega) | (repeat' (first | (with_reducible exact Below.refl _ _) | (with_reducible assumption) | (with_reducible refine Below.alloc ?_ ?_ _) | (with_reducible refine Below.setCell ?_ ?_ _) | (with_reducible refine Below.drew ?_) | (with_reducible refine below_drewN ?_ _) | (with_reducible refine below_via ?_ (by with_reducible assumption) ?_) | omega | (simp; done) | (simp; omega)))
set_option maxRecDepth 100000 in
set_option maxHeartbeats 1000000 in
theorem wideSubNo (a b : Int) (w : World) (ha : In128 a) (hb : In128 b) (hab : ¬ In128 (a - b)) :
    Calls Try.prog 107 #[(.agg #[.int .i64 (whi (a)), .int .u64 (wlo (a))]), (.agg #[.int .i64 (whi (b)), .int .u64 (wlo (b))])] w fun e w' => e = .returned (.tuple #[.agg #[.int .i64 0, .int .u64 0], .int .i64 7]) ∧ Below w.heap.size w w' := by
  have h3 := whi_i hb
  have h4 := wlo_u b
  have x1 := not_hi b hb
  have x2 := not_lo b
  have hb' : In128 (- b - 1) := by unfold In128 at hb ⊢; omega
  have q1 : 0 + a + (- b - 1) + 1 = a - b := by omega
  have i1 : IntKind.i64.signed = true := rfl
  have i2 : IntKind.u64.signed = false := rfl
  go_enter Try.func107, Try.ntmps107
  go_wp2_with fail
  refine (totalAdd 0 a (w.heap.size + 1 + 1 + 1) _ (by unfold InT; omega) ha (by rw [tot_zero]; (repeat' (first | (with_reducible assumption) | (with_reducible refine Blk.drew ?_) | (with_reducible refine Blk.here ?_) | (with_reducible refine Blk.alloc ?_ _) | (with_reducible refine Blk.far ?_ ?_ _) | (with_reducible refine Blk.below ?_ (by with_reducible assumption) ?_) | omega | (simp; done) | (simp; omega))))).mono ?_
  rintro e w1 ⟨rfl, hk1, ho1⟩
  obtain ⟨fc1, fg1, hc1, hf1, hz1⟩ := oget ho1
  simp at hz1
  have Hk1 := Lib.hid hk1
  have Ho1 := Lib.hid ho1
  clear hk1 ho1
  go_wp2_with fail
  refine (totalAdd (0 + a) (- b - 1) (w.heap.size + 1 + 1 + 1) _ (by unfold In128 at ha; unfold InT; omega) hb' Hk1.out).mono ?_
  rintro e w2 ⟨rfl, hk2, ho2⟩
  obtain ⟨fc2, fg2, hc2, hf2, hz2⟩ := oget ho2
  have Hk2 := Lib.hid hk2
  have Ho2 := Lib.hid ho2
  clear hk2 ho2
  go_wp2_with fail
  refine (wideOf 1 _ (by unfold In64; omega)).mono ?_
  rintro e w3 ⟨rfl, hb3⟩
  obtain ⟨fc3, fg3, hc3, hf3, hz3⟩ := bget hb3
  go_wp2_with fail
  refine (totalAdd (0 + a + (- b - 1)) 1 (w.heap.size + 1 + 1 + 1) _ (by unfold In128 at ha hb; unfold InT; omega) (by unfold In128; omega) (Hk2.out.below hb3 (by omega))).mono ?_
  rintro e w4 ⟨rfl, hk4, ho4⟩
  obtain ⟨fc4, fg4, hc4, hf4, hz4⟩ := oget ho4
  rw [q1] at hk4
  have Hk4 := Lib.hid hk4
  have Ho4 := Lib.hid ho4
  clear hk4 ho4 q1
  go_wp2_with fail
  refine (totalDoneNo (a - b) (w.heap.size + 1 + 1 + 1) _ hab Hk4.out).mono ?_
  rintro e w5 ⟨rfl, hb5⟩
  obtain ⟨fc5, fg5, hc5, hf5, hz5⟩ := bget hb5
  go_wp2
  all_goals
    refine bodyPost_ret (by simp [*, results, Try.results107, go_sem, ↓IntWalk.iteOmega]; try rfl) rfl ⟨rfl, ?_⟩
    refine Below.setCell (Below.setCell (below_via (below_only (below_via (below_only (below_only ?_ Ho1.out ?_ ?_) Ho2.out ?_ ?_) hb3 ?_) Ho4.out ?_ ?_) hb5 ?_) ?_ _) ?_ _ <;> first | (simp; omega) | (repeat' (first | (with_reducible exact Below.refl _ _) | (with_reducible assumption) | (with_reducible refine Below.alloc ?_ ?_ _) | (with_reducible refine Below.setCell ?_ ?_ _) | (with_reducible refine Below.drew ?_) | (with_reducible refine below_drewN ?_ _) | (with_reducible refine below_via ?_ (by with_reducible assumption) ?_) | omega | (simp; done) | (simp; omega)))
end Go.Proofs.Ytenehpcliajdnaa
