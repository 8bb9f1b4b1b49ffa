/- Contracts of the reference's Neg, Gross (11). -/
import Derived.Test.YtffmljkpbgohkaaVecPlain
import Derived.Test.YtffmljkpbgohkaaVec4
import Derived.Outline
namespace Go.Proofs.Ytffmljkpbgohkaa
open Go.RowKit
set_option maxRecDepth 100000 in
set_option maxHeartbeats 4000000 in
theorem ref11Neg (l : List Leg) (A : Option Addr) (c : Nat) (w : World) (hl : l.length ≤ 1099511627776) (h64 : Legs64 l) (hr : Rd w A 2 (l.map encLeg)) :
    Calls Try.prog 39 #[.slice A l.length c] w (LegsPost w (negC l) (negL l)) := by
  have HR := Lib.hid hr
  have H64 := Lib.hid h64
  have c1 := fun W (h : Rd W A 2 (l.map encLeg)) => refIs11 l A c W hl h
  have HC := Lib.hid (negC_ref l)
  have HA := Lib.hid (negL_ref l)
  clear hr h64
  cases hv : isV l
  · rw [hv] at c1 HC HA
    have C1 := Lib.hid c1
    clear c1 hv
    go_enter Try.func39, Try.ntmps39
    go_wp2_with (go_at_call 15; (with_reducible refine (C1.out _ HR.out).mono ?_); rintro e w1 ⟨rfl, hb1⟩; obtain ⟨fc1, fg1, hc1, hf1, hz1⟩ := bget hb1; try simp at hz1)
    go_ret2
    exact ⟨_, by rw [← HC.out]; rfl, by rw [← HA.out]; exact Own.nil _ _ _ _, by (repeat' (first | (with_reducible exact Below.refl _ _) | (with_reducible assumption) | (with_reducible refine Below.alloc ?_ ?_ _) | (with_reducible refine Below.setCell ?_ ?_ _) | (with_reducible refine Below.drew ?_) | (with_reducible refine below_drewN ?_ _) | (with_reducible refine below_via ?_ (by with_reducible assumption) ?_) | omega | (simp; done) | (simp; omega)))⟩
  rw [hv] at c1 HC HA
  have C1 := Lib.hid c1
  have hmk := make8
  clear c1 hv
  go_enter Try.func39, Try.ntmps39
  go_wp2_with (go_at_call 15; (with_reducible refine (C1.out _ HR.out).mono ?_); rintro e w2 ⟨rfl, hb2⟩; obtain ⟨fc2, fg2, hc2, hf2, hz2⟩ := bget hb2; (try simp at hz2); have Hb2 := Lib.hid hb2; clear hb2)
  clear hmk hc2 hf2
  go_loopw [5] (fun i wr => ∃ j : Nat, j ≤ 8 ∧ i = .int .i64 j ∧ OwnB wr w.heap.size (66 + j) (.slice (some ⟨w2.heap.size, 0, none⟩) 8 8) (mix (f8 (fun i => - getF i l)) (f8 (sumG [])) j) ∧ Below w.heap.size w wr) (fun i _ => 8 - (intOf i).toNat)
  case atStart => exact ⟨0, Nat.zero_le _, rfl, by rw [mix_zero, f8_zero]; exact ownB_zeros w2 8 (by unfold maxLen; omega) _ rfl (by omega) _, by have hb2 := Hb2.out; (repeat' (first | (with_reducible exact Below.refl _ _) | (with_reducible assumption) | (with_reducible refine Below.alloc ?_ ?_ _) | (with_reducible refine Below.setCell ?_ ?_ _) | (with_reducible refine Below.drew ?_) | (with_reducible refine below_drewN ?_ _) | (with_reducible refine below_via ?_ (by with_reducible assumption) ?_) | omega | (simp; done) | (simp; omega)))⟩
  case round =>
    obtain ⟨j, hj, rfl, hown, hbl⟩ := hrel
    have Hown := Lib.hid hown
    have Hbl := Lib.hid hbl
    have hz := hbl.size
    clear hown hbl
    by_cases h8 : j < 8
    · have hfz := Hown.out.frozen.1
      have hgz := Hown.out.frozen.2.2
      obtain ⟨s, A1, l1, d1, e0, e1, _, hl1⟩ := Hown.out.at (mix_at (by rw [f8_len, f8_len]) (by rw [f8_len]; exact h8) (f8_at _ h8))
      have c3 := fun W (h : Rd W A 2 (l.map encLeg)) => refGet11 l ((j : Int) + 1) A c W hl h
      have I3 := get64 (i := (j : Int) + 1) H64.out
      have HAT := Lib.hid (f8_at (fun i => - getF i l) h8)
      obtain ⟨n, hn⟩ : ∃ n, n = getF ((j : Int) + 1) l := ⟨_, rfl⟩
      rw [← hn] at c3 I3 HAT
      have C3 := Lib.hid c3
      have HK3 := Lib.hid (HR.out.keep Hbl.out)
      have jb : (j : Int) < 8 := by omega
      clear c3 hn
      go_wp2_with (first | (go_at_call 17; (with_reducible refine (C3.out _ (HK3.out.keep (by (repeat' (first | (with_reducible exact Below.refl _ _) | (with_reducible assumption) | (with_reducible refine Below.alloc ?_ ?_ _) | (with_reducible refine Below.setCell ?_ ?_ _) | (with_reducible refine Below.drew ?_) | (with_reducible refine below_drewN ?_ _) | (with_reducible refine below_via ?_ (by with_reducible assumption) ?_) | omega | (simp; done) | (simp; omega)))))).mono ?_); rintro e w3 ⟨rfl, hb3⟩; obtain ⟨fc3, fg3, hc3, hf3, hz3⟩ := bget hb3; try simp at hz3) | (go_at_call 62; (with_reducible refine (bigOf n _ I3).mono ?_); rintro e w4 ⟨s4, A4, l4, c4, rfl, hB4, hl4, hb4⟩; have HB4 := Lib.hid hB4; clear hB4; obtain ⟨fc4, fg4, hc4, hf4, hz4⟩ := bget hb4; (try simp at hz4)) | (go_at_call 70; (with_reducible refine (bigNeg n s4 l4 A4 c4 (65 + j) _ (by omega) (by omega) (HB4.out.keep (by (repeat' (first | (with_reducible exact Below.refl _ _) | (with_reducible assumption) | (with_reducible refine Below.alloc ?_ ?_ _) | (with_reducible refine Below.setCell ?_ ?_ _) | (with_reducible refine Below.drew ?_) | (with_reducible refine below_drewN ?_ _) | (with_reducible refine below_via ?_ (by with_reducible assumption) ?_) | omega | (simp; done) | (simp; omega)))))).mono ?_); rintro e w5 ⟨s5, A5, l5, c5, rfl, hB5, hl5, hb5⟩; have HB5 := Lib.hid hB5; clear hB5; obtain ⟨fc5, fg5, hc5, hf5, hz5⟩ := bget hb5; (try simp at hz5)))
      have HNX := Lib.hid (mix_set (a := f8 (fun i => - getF i l)) (b := f8 (sumG [])) (k := j) (by rw [f8_len, f8_len]) (by rw [f8_len]; exact h8) HAT.out).symm
      have HST := Lib.hid ((Hown.out.keep (w' := w5) (by (repeat' (first | (with_reducible exact Below.refl _ _) | (with_reducible assumption) | (with_reducible refine Below.alloc ?_ ?_ _) | (with_reducible refine Below.setCell ?_ ?_ _) | (with_reducible refine Below.drew ?_) | (with_reducible refine below_drewN ?_ _) | (with_reducible refine below_via ?_ (by with_reducible assumption) ?_) | omega | (simp; done) | (simp; omega))))).store (M := 66 + (j + 1)) (i := j) (by rw [mix_len (by rw [f8_len, f8_len]) (by rw [f8_len]; omega), f8_len]; exact h8) HB5.out (by omega) (by omega))
      have Hb5 : Hid (Below w.heap.size w w5) := by have hbl := Hbl.out; unfold Hid; (repeat' (first | (with_reducible exact Below.refl _ _) | (with_reducible assumption) | (with_reducible refine Below.alloc ?_ ?_ _) | (with_reducible refine Below.setCell ?_ ?_ _) | (with_reducible refine Below.drew ?_) | (with_reducible refine below_drewN ?_ _) | (with_reducible refine below_via ?_ (by with_reducible assumption) ?_) | omega | (simp; done) | (simp; omega)))
      have hgg := Hown.out.frozen.2.1
      go_roundw
      case rel => exact ⟨j + 1, by omega, by go_num, by rw [HNX.out]; exact HST.out, by have hbl := Hb5.out; (repeat' (first | (with_reducible exact Below.refl _ _) | (with_reducible assumption) | (with_reducible refine Below.alloc ?_ ?_ _) | (with_reducible refine Below.setCell ?_ ?_ _) | (with_reducible refine Below.drew ?_) | (with_reducible refine below_drewN ?_ _) | (with_reducible refine below_via ?_ (by with_reducible assumption) ?_) | omega | (simp; done) | (simp; omega)))⟩
      case measure => simp [intOf]; omega
    · obtain rfl : j = 8 := by omega
      have ho := Hown.out
      rw [mix_all (by rw [f8_len]; omega) (by rw [f8_len]; omega)] at ho
      have HO := Lib.hid (ho.mono (M := 900000) (Nat.le_refl _) (by omega))
      clear ho
      go_wp2_with (go_at_call 63; (with_reducible refine (ref11Of (fun i => - getF i l) _ _ w.heap.size 900000 _ (by omega) HO.out).mono ?_); rintro e w5 ⟨v, rfl, hown5, hb5⟩)
      go_ret2
      exact ⟨_, by rw [← HC.out]; rfl, by rw [← HA.out]; exact hown5.mono hz, by (have hbl := Hbl.out; (repeat' (first | (with_reducible exact Below.refl _ _) | (with_reducible assumption) | (with_reducible refine Below.alloc ?_ ?_ _) | (with_reducible refine Below.setCell ?_ ?_ _) | (with_reducible refine Below.drew ?_) | (with_reducible refine below_drewN ?_ _) | (with_reducible refine below_via ?_ (by with_reducible assumption) ?_) | omega | (simp; done) | (simp; omega))))⟩
end Go.Proofs.Ytffmljkpbgohkaa
