/- Contract of the reference's Gross (11). -/
import Derived.Test.YtffmljkpbgohkaaRef11d
import Derived.Outline
namespace Go.Proofs.Ytffmljkpbgohkaa
open Go.RowKit
theorem isBig_abs {w : World} {n : Int} {s : Bool} {A : Option Addr} {l : List Int} {c : Nat} (h : IsBig w n s A l c) : IsBig w (iabs n) false A l c :=
  ⟨h.rd, h.bit, h.top, by rw [h.val]; unfold iabs; split <;> (try split) <;> omega, h.cap, h.room, by symm; rw [decide_eq_false_iff_not]; unfold iabs; split <;> omega⟩
theorem absL_snoc {l : List Leg} {k : Nat} (h : k < l.length) : (absL (l.take (k + 1))).sum = (absL (l.take k)).sum + iabs l[k].qty := by
  unfold absL; rw [map_snoc h, List.sum_append]; simp
set_option maxRecDepth 100000 in
set_option maxHeartbeats 4000000 in
theorem ref11Gross (l : List Leg) (A : Option Addr) (c : Nat) (w : World) (hl : l.length ≤ 100000) (h64 : Legs64 l) (hr : Rd w A 2 (l.map encLeg)) :
    Calls Try.prog 41 #[.slice A l.length c] w fun e w' => e = .returned (.tuple #[.int .i64 (grossN l), .int .i64 (grossC l)]) ∧ Below w.heap.size w w' := by
  have HR := Lib.hid hr
  have H64 := Lib.hid h64
  have c1 := fun W (h : Rd W A 2 (l.map encLeg)) => refIs11 l A c W (by omega) h
  clear hr h64
  cases hv : isV l
  · rw [hv] at c1
    have HC := Lib.hid (show grossC l = 3 from by unfold grossC; rw [hv]; rfl)
    have HA := Lib.hid (show grossN l = 0 from by unfold grossN; rw [hv]; rfl)
    have C1 := Lib.hid c1
    clear c1 hv
    go_enter Try.func41, Try.ntmps41
    go_wp2_with (go_at_call 15; (with_reducible refine (C1.out _ HR.out).mono ?_); rintro e w1 ⟨rfl, hb1⟩; obtain ⟨fc1, fg1, hc1, hf1, hz1⟩ := bget hb1; try simp at hz1)
    go_ret2
    exact ⟨by rw [HC.out, HA.out]; rfl, by (repeat' (first | (with_reducible exact Below.refl _ _) | (with_reducible assumption) | (with_reducible refine Below.alloc ?_ ?_ _) | (with_reducible refine Below.setCell ?_ ?_ _) | (with_reducible refine Below.drew ?_) | (with_reducible refine below_drewN ?_ _) | (with_reducible refine below_via ?_ (by with_reducible assumption) ?_) | omega | (simp; done) | (simp; omega)))⟩
  rw [hv] at c1
  have HC := Lib.hid (show grossC l = if absF l then (if in64 (absL l).sum then 0 else 7) else 7 from by unfold grossC; rw [hv]; rfl)
  have HA := Lib.hid (show grossN l = if absF l then (if in64 (absL l).sum then (absL l).sum else 0) else 0 from by unfold grossN; rw [hv]; rfl)
  have C1 := Lib.hid c1
  clear c1 hv
  go_enter Try.func41, Try.ntmps41
  go_wp2_with (go_at_call 15; (with_reducible refine (C1.out _ HR.out).mono ?_); rintro e w2 ⟨rfl, hb2⟩; obtain ⟨fc2, fg2, hc2, hf2, hz2⟩ := bget hb2; (try simp at hz2); have Hb2 := Lib.hid hb2; clear hb2)
  clear hc2 hf2
  go_loopw [5] (fun i wr => ∃ (k : Nat) (s : Bool) (A1 : Option Addr) (l1 : List Int) (c1 : Nat), k ≤ l.length ∧ i = .int .i64 k ∧ (absF l = absF (l.drop k)) ∧ Blk wr w2.heap.size 95 #[.bool s, .slice A1 l1.length c1] ∧ IsBig wr (absL (l.take k)).sum s A1 l1 c1 ∧ l1.length ≤ 70 + k ∧ Below w.heap.size w wr) (fun i _ => l.length - (intOf i).toNat)
  case atStart => exact ⟨0, false, none, [], 0, Nat.zero_le _, rfl, rfl, by show Blk _ _ _ #[.bool false, .slice none 0 0]; (repeat' (first | (with_reducible assumption) | (with_reducible refine Blk.drew ?_) | (with_reducible refine Blk.here ?_) | (with_reducible refine Blk.alloc ?_ _) | (with_reducible refine Blk.far ?_ ?_ _) | (with_reducible refine Blk.below ?_ (by with_reducible assumption) ?_) | omega | (simp; done) | (simp; omega))), isBig_zero _, by simp, by have hb2 := Hb2.out; (repeat' (first | (with_reducible exact Below.refl _ _) | (with_reducible assumption) | (with_reducible refine Below.alloc ?_ ?_ _) | (with_reducible refine Below.setCell ?_ ?_ _) | (with_reducible refine Below.drew ?_) | (with_reducible refine below_drewN ?_ _) | (with_reducible refine below_via ?_ (by with_reducible assumption) ?_) | omega | (simp; done) | (simp; omega)))⟩
  case round =>
    obtain ⟨k, s, A1, l1, c1, hk, rfl, hv, hblk, hB, hl1, hbl⟩ := hrel
    have Hblk := Lib.hid hblk
    have HB := Lib.hid hB
    have r0 := hblk.cell 0
    have r1 := hblk.cell 1
    simp at r0 r1
    have fz := fun i => hblk.frozen i
    have hgl := hblk.lt
    clear hblk hB
    have Hbl := Lib.hid hbl
    have HV := Lib.hid hv
    have hz := hbl.size
    clear hbl hv
    by_cases hlt : k < l.length
    · obtain ⟨be, oe, rfl, hbe, hqe⟩ := HR.out k (encLeg l[k]) (by simp [hlt])
      replace hqe := fun j v hv => (Hbl.out.cell (p := ⟨be, oe + k * 2 + j, none⟩) hbe).trans (hqe j v hv)
      have e0 := hqe 0 _ rfl
      have e1 := hqe 1 _ rfl
      simp only [Nat.add_zero] at e0
      clear hqe
      have HD := Lib.hid (drop_cons' hlt)
      have hq := H64.out l[k] (List.getElem_mem hlt)
      have HSM := Lib.hid (absL_snoc hlt)
      cases hm : in64 (iabs l[k].qty)
      · have HN : Hid (absF (l[k] :: l.drop (k + 1)) = false) := by unfold Hid absF; simp only [List.all_cons]; rw [hm]; rfl
        have HM := Lib.hid hm
        clear hm
        go_wp2_with (first | (go_at_call 62; (with_reducible refine (bigOf l[k].qty _ hq).mono ?_); rintro e w4 ⟨s4, A4, l4, c4, rfl, hB4, hl4, hb4⟩; have HB4 := Lib.hid (isBig_abs hB4); clear hB4; obtain ⟨fc4, fg4, hc4, hf4, hz4⟩ := bget hb4; (try simp at hz4)) | (go_at_call 72; (with_reducible refine (bigFits (iabs l[k].qty) false l4 A4 c4 65 _ (by omega) hl4 (HB4.out.keep (by (repeat' (first | (with_reducible exact Below.refl _ _) | (with_reducible assumption) | (with_reducible refine Below.alloc ?_ ?_ _) | (with_reducible refine Below.setCell ?_ ?_ _) | (with_reducible refine Below.drew ?_) | (with_reducible refine below_drewN ?_ _) | (with_reducible refine below_via ?_ (by with_reducible assumption) ?_) | omega | (simp; done) | (simp; omega)))))).mono ?_); rw [HM.out]; rintro e w5 ⟨rfl, hb5⟩; obtain ⟨fc5, fg5, hc5, hf5, hz5⟩ := bget hb5; (try simp at hz5)))
        go_ret2
        exact ⟨by rw [HC.out, HA.out, HV.out, HD.out, HN.out]; rfl, by (have hbl := Hbl.out; (repeat' (first | (with_reducible exact Below.refl _ _) | (with_reducible assumption) | (with_reducible refine Below.alloc ?_ ?_ _) | (with_reducible refine Below.setCell ?_ ?_ _) | (with_reducible refine Below.drew ?_) | (with_reducible refine below_drewN ?_ _) | (with_reducible refine below_via ?_ (by with_reducible assumption) ?_) | omega | (simp; done) | (simp; omega))))⟩
      · have HN : Hid (absF (l[k] :: l.drop (k + 1)) = absF (l.drop (k + 1))) := by unfold Hid absF; simp only [List.all_cons]; rw [hm]; rfl
        have HM := Lib.hid hm
        clear hm
        go_wp2_with (first | (go_at_call 62; (with_reducible refine (bigOf l[k].qty _ hq).mono ?_); rintro e w4 ⟨s4, A4, l4, c4, rfl, hB4, hl4, hb4⟩; have HB4 := Lib.hid (isBig_abs hB4); clear hB4; obtain ⟨fc4, fg4, hc4, hf4, hz4⟩ := bget hb4; (try simp at hz4)) | (go_at_call 72; (with_reducible refine (bigFits (iabs l[k].qty) false l4 A4 c4 65 _ (by omega) hl4 (HB4.out.keep (by (repeat' (first | (with_reducible exact Below.refl _ _) | (with_reducible assumption) | (with_reducible refine Below.alloc ?_ ?_ _) | (with_reducible refine Below.setCell ?_ ?_ _) | (with_reducible refine Below.drew ?_) | (with_reducible refine below_drewN ?_ _) | (with_reducible refine below_via ?_ (by with_reducible assumption) ?_) | omega | (simp; done) | (simp; omega)))))).mono ?_); rw [HM.out]; rintro e w5 ⟨rfl, hb5⟩; obtain ⟨fc5, fg5, hc5, hf5, hz5⟩ := bget hb5; (try simp at hz5)) | (go_at_call 61; (with_reducible refine (bigAdd _ (iabs l[k].qty) s false l1 l4 A1 A4 c1 c4 (70 + k) _ (by omega) hl1 (by omega) (HB.out.keep (by (repeat' (first | (with_reducible exact Below.refl _ _) | (with_reducible assumption) | (with_reducible refine Below.alloc ?_ ?_ _) | (with_reducible refine Below.setCell ?_ ?_ _) | (with_reducible refine Below.drew ?_) | (with_reducible refine below_drewN ?_ _) | (with_reducible refine below_via ?_ (by with_reducible assumption) ?_) | omega | (simp; done) | (simp; omega))))) (HB4.out.keep (by (repeat' (first | (with_reducible exact Below.refl _ _) | (with_reducible assumption) | (with_reducible refine Below.alloc ?_ ?_ _) | (with_reducible refine Below.setCell ?_ ?_ _) | (with_reducible refine Below.drew ?_) | (with_reducible refine below_drewN ?_ _) | (with_reducible refine below_via ?_ (by with_reducible assumption) ?_) | omega | (simp; done) | (simp; omega)))))).mono ?_); rintro e w6 ⟨s6, A6, l6, c6, rfl, hB6, hl6, hb6⟩; have HB6 := Lib.hid hB6; clear hB6; obtain ⟨fc6, fg6, hc6, hf6, hz6⟩ := bget hb6; (try simp at hz6)))
        have hk6 : Blk w6 w2.heap.size 95 #[.bool s, .slice A1 l1.length c1] := by have hblk := Hblk.out; (repeat' (first | (with_reducible assumption) | (with_reducible refine Blk.drew ?_) | (with_reducible refine Blk.here ?_) | (with_reducible refine Blk.alloc ?_ _) | (with_reducible refine Blk.far ?_ ?_ _) | (with_reducible refine Blk.below ?_ (by with_reducible assumption) ?_) | omega | (simp; done) | (simp; omega)))
        have x0 := hk6.cell 0
        have x1 := hk6.cell 1
        simp at x0 x1
        have hk7 : Blk ((w6.setCell ⟨w2.heap.size, 0, none⟩ (.bool s6)).setCell ⟨w2.heap.size, 1, none⟩ (.slice A6 l6.length c6)) w2.heap.size 95 #[.bool s6, .slice A6 l6.length c6] := by
          simpa using (hk6.set 0 (.bool s6)).set 1 (.slice A6 l6.length c6)
        have hb7 := (HB6.out.far x0 (by simp) (.bool s6)).far ((World.cell?_setCell_other _ _ _ _ (by simp)).trans x1) (by simp) (.slice A6 l6.length c6)
        go_roundw
        case rel => exact ⟨k + 1, s6, A6, l6, c6, by omega, by go_num, by rw [HV.out, HD.out, HN.out], hk7, by rw [HSM.out]; exact hb7, by omega, by (have hbl := Hbl.out; (repeat' (first | (with_reducible exact Below.refl _ _) | (with_reducible assumption) | (with_reducible refine Below.alloc ?_ ?_ _) | (with_reducible refine Below.setCell ?_ ?_ _) | (with_reducible refine Below.drew ?_) | (with_reducible refine below_drewN ?_ _) | (with_reducible refine below_via ?_ (by with_reducible assumption) ?_) | omega | (simp; done) | (simp; omega))))⟩
        case measure => simp [intOf]; omega
    · have HD := Lib.hid (drop_all (l := l) (k := k) (by omega))
      have hB := HB.out
      rw [List.take_of_length_le (by omega)] at hB
      have HB2 := Lib.hid hB
      have HF : Hid (absF l = true) := by unfold Hid; rw [HV.out, HD.out]; rfl
      clear hB
      cases hm : in64 (absL l).sum
      · have HM := Lib.hid hm
        clear hm
        go_wp2_with (go_at_call 72; (with_reducible refine (bigFits _ s l1 A1 c1 (70 + k) _ (by omega) hl1 HB2.out).mono ?_); rw [HM.out]; rintro e w5 ⟨rfl, hb5⟩; obtain ⟨fc5, fg5, hc5, hf5, hz5⟩ := bget hb5; (try simp at hz5))
        go_ret2
        exact ⟨by rw [HC.out, HA.out, HF.out, HM.out]; rfl, by (have hbl := Hbl.out; (repeat' (first | (with_reducible exact Below.refl _ _) | (with_reducible assumption) | (with_reducible refine Below.alloc ?_ ?_ _) | (with_reducible refine Below.setCell ?_ ?_ _) | (with_reducible refine Below.drew ?_) | (with_reducible refine below_drewN ?_ _) | (with_reducible refine below_via ?_ (by with_reducible assumption) ?_) | omega | (simp; done) | (simp; omega))))⟩
      · have HM := Lib.hid hm
        have HI := Lib.hid (in64_iff.1 hm)
        clear hm
        go_wp2_with (first | (go_at_call 72; (with_reducible refine (bigFits _ s l1 A1 c1 (70 + k) _ (by omega) hl1 HB2.out).mono ?_); rw [HM.out]; rintro e w5 ⟨rfl, hb5⟩; obtain ⟨fc5, fg5, hc5, hf5, hz5⟩ := bget hb5; (try simp at hz5)) | (go_at_call 73; (with_reducible refine (bigInt _ s l1 A1 c1 _ (by omega) HI.out (HB2.out.keep (by (repeat' (first | (with_reducible exact Below.refl _ _) | (with_reducible assumption) | (with_reducible refine Below.alloc ?_ ?_ _) | (with_reducible refine Below.setCell ?_ ?_ _) | (with_reducible refine Below.drew ?_) | (with_reducible refine below_drewN ?_ _) | (with_reducible refine below_via ?_ (by with_reducible assumption) ?_) | omega | (simp; done) | (simp; omega)))))).mono ?_); rintro e w6 ⟨rfl, hb6⟩; obtain ⟨fc6, fg6, hc6, hf6, hz6⟩ := bget hb6; (try simp at hz6)))
        go_ret2
        exact ⟨by rw [HC.out, HA.out, HF.out, HM.out]; rfl, by (have hbl := Hbl.out; (repeat' (first | (with_reducible exact Below.refl _ _) | (with_reducible assumption) | (with_reducible refine Below.alloc ?_ ?_ _) | (with_reducible refine Below.setCell ?_ ?_ _) | (with_reducible refine Below.drew ?_) | (with_reducible refine below_drewN ?_ _) | (with_reducible refine below_via ?_ (by with_reducible assumption) ?_) | omega | (simp; done) | (simp; omega))))⟩
end Go.Proofs.Ytffmljkpbgohkaa
