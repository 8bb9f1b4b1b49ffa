/- Joined. -/
import Derived.Test.YtalgfpegaobacaaGreatDoorQz29
import Derived.Test.YtalgfpegaobacaaGreatDoorQb7
import Derived.Test.YtalgfpegaobacaaGreatDoorQb8
namespace Go.Proofs.YtalgfpegaobacaaGreatDoor
set_option linter.all false
set_option maxHeartbeats 64000000
set_option maxRecDepth 100000
open Go.RowKit
open Lib (hid)
theorem pfx_step {l : List Str} {k : Nat} (h : k < l.length) : ((l.take (k + 1)).filter pfxU).length = ((l.take k).filter pfxU).length + (if pfxU l[k] = true then 1 else 0) := by
 rw [List.take_succ_eq_append_getElem h, List.filter_append, List.length_append, List.filter_cons]
 split <;> rfl
theorem pfx_test (L : Str) : pfxU L = (decide (5 < L.length) && (({ data := L.toArray } : ByteArray).extract 0 5).toList == [117, 110, 105, 116, 32]) := by
 rw [Lib.extract_toList]
 unfold pfxU
 congr 1
 rw [Bool.eq_iff_iff]
 simp
theorem reportOnceAt (s : StV) (w : World) (hs : RawSt w s) (ht : TabP w) :
  Calls Tryz.prog 3 #[.agg #[.int .i64 (s).day, .slice (s).mem.A (s).mem.val.length (s).mem.c, .slice (s).ins.A (s).ins.val.length (s).ins.c, .slice (s).ats.A (s).ats.val.length (s).ats.c, .slice (s).acs.A (s).acs.val.length (s).acs.c, .slice (s).cho.A (s).cho.val.length (s).cho.c, .slice (s).grp.A (s).grp.val.length (s).grp.c, .slice (s).giv.A (s).giv.val.length (s).giv.c, .slice (s).bk.A (s).bk.val.length (s).bk.c, .slice (s).sale.A (s).sale.val.length (s).sale.c, .slice (s).pu.A (s).pu.val.length (s).pu.c, .slice (s).ho.A (s).ho.val.length (s).ho.c]] w fun e w' => e = .returned (.bool true) ∧ Below w.heap.size w w' := by
 have CF := hid (fun W (h : Below w.heap.size w W) => law33Few s w W hs h)
 have CLV := hid (fun W (h : Below w.heap.size w W) => law36lives W (ht.keep h))
 have HT := hid ht
 clear hs ht
 go_enter Tryz.func3, Tryz.ntmps3
 go_upto_region 2 with (first | (go_at_call 5; (with_reducible refine (CF.out _ tB).mono ?_); rintro e w1 ⟨t, rfl, hft, hb1⟩; have HFT := hid hft; clear hft; obtain ⟨fc1, fg1, hc1, hf1, hz1⟩ := bget hb1; (try simp at hz1)) | fail)
 have hft := HFT.out
 rw [show (w.alloc (.cells #[.int .i64 (s).day, .slice (s).mem.A (s).mem.val.length (s).mem.c, .slice (s).ins.A (s).ins.val.length (s).ins.c, .slice (s).ats.A (s).ats.val.length (s).ats.c, .slice (s).acs.A (s).acs.val.length (s).acs.c, .slice (s).cho.A (s).cho.val.length (s).cho.c, .slice (s).grp.A (s).grp.val.length (s).grp.c, .slice (s).giv.A (s).giv.val.length (s).giv.c, .slice (s).bk.A (s).bk.val.length (s).bk.c, .slice (s).sale.A (s).sale.val.length (s).sale.c, .slice (s).pu.A (s).pu.val.length (s).pu.c, .slice (s).ho.A (s).ho.val.length (s).ho.c] 33)).heap.size = w.heap.size + 1 from by simp] at hft
 have hon := setL_only (g := w.heap.size) (#[.int .i64 (t).day, .slice (t).mem.A (t).mem.val.length (t).mem.c, .slice (t).ins.A (t).ins.val.length (t).ins.c, .slice (t).ats.A (t).ats.val.length (t).ats.c, .slice (t).acs.A (t).acs.val.length (t).acs.c, .slice (t).cho.A (t).cho.val.length (t).cho.c, .slice (t).grp.A (t).grp.val.length (t).grp.c, .slice (t).giv.A (t).giv.val.length (t).giv.c, .slice (t).bk.A (t).bk.val.length (t).bk.c, .slice (t).sale.A (t).sale.val.length (t).sale.c, .slice (t).pu.A (t).pu.val.length (t).pu.c, .slice (t).ho.A (t).ho.val.length (t).ho.c]).toList 0 (Only.refl _ w1)
 have hbk := setL_blk (g := w.heap.size) (t := 33) (#[.int .i64 (t).day, .slice (t).mem.A (t).mem.val.length (t).mem.c, .slice (t).ins.A (t).ins.val.length (t).ins.c, .slice (t).ats.A (t).ats.val.length (t).ats.c, .slice (t).acs.A (t).acs.val.length (t).acs.c, .slice (t).cho.A (t).cho.val.length (t).cho.c, .slice (t).grp.A (t).grp.val.length (t).grp.c, .slice (t).giv.A (t).giv.val.length (t).giv.c, .slice (t).bk.A (t).bk.val.length (t).bk.c, .slice (t).sale.A (t).sale.val.length (t).sale.c, .slice (t).pu.A (t).pu.val.length (t).pu.c, .slice (t).ho.A (t).ho.val.length (t).ho.c]).toList 0 (show Blk w1 w.heap.size 33 #[.int .i64 (s).day, .slice (s).mem.A (s).mem.val.length (s).mem.c, .slice (s).ins.A (s).ins.val.length (s).ins.c, .slice (s).ats.A (s).ats.val.length (s).ats.c, .slice (s).acs.A (s).acs.val.length (s).acs.c, .slice (s).cho.A (s).cho.val.length (s).cho.c, .slice (s).grp.A (s).grp.val.length (s).grp.c, .slice (s).giv.A (s).giv.val.length (s).giv.c, .slice (s).bk.A (s).bk.val.length (s).bk.c, .slice (s).sale.A (s).sale.val.length (s).sale.c, .slice (s).pu.A (s).pu.val.length (s).pu.c, .slice (s).ho.A (s).ho.val.length (s).ho.c] by exact tL) (by simp)
 have hst : setL w1 w.heap.size 0 (#[.int .i64 (t).day, .slice (t).mem.A (t).mem.val.length (t).mem.c, .slice (t).ins.A (t).ins.val.length (t).ins.c, .slice (t).ats.A (t).ats.val.length (t).ats.c, .slice (t).acs.A (t).acs.val.length (t).acs.c, .slice (t).cho.A (t).cho.val.length (t).cho.c, .slice (t).grp.A (t).grp.val.length (t).grp.c, .slice (t).giv.A (t).giv.val.length (t).giv.c, .slice (t).bk.A (t).bk.val.length (t).bk.c, .slice (t).sale.A (t).sale.val.length (t).sale.c, .slice (t).pu.A (t).pu.val.length (t).pu.c, .slice (t).ho.A (t).ho.val.length (t).ho.c]).toList = ((((((((((((w1.setCell ⟨w.heap.size, 0, none⟩ (.int .i64 t.day)).setCell ⟨w.heap.size, 1, none⟩ (.slice t.mem.A t.mem.val.length t.mem.c)).setCell ⟨w.heap.size, 2, none⟩ (.slice t.ins.A t.ins.val.length t.ins.c)).setCell ⟨w.heap.size, 3, none⟩ (.slice t.ats.A t.ats.val.length t.ats.c)).setCell ⟨w.heap.size, 4, none⟩ (.slice t.acs.A t.acs.val.length t.acs.c)).setCell ⟨w.heap.size, 5, none⟩ (.slice t.cho.A t.cho.val.length t.cho.c)).setCell ⟨w.heap.size, 6, none⟩ (.slice t.grp.A t.grp.val.length t.grp.c)).setCell ⟨w.heap.size, 7, none⟩ (.slice t.giv.A t.giv.val.length t.giv.c)).setCell ⟨w.heap.size, 8, none⟩ (.slice t.bk.A t.bk.val.length t.bk.c)).setCell ⟨w.heap.size, 9, none⟩ (.slice t.sale.A t.sale.val.length t.sale.c)).setCell ⟨w.heap.size, 10, none⟩ (.slice t.pu.A t.pu.val.length t.pu.c)).setCell ⟨w.heap.size, 11, none⟩ (.slice t.ho.A t.ho.val.length t.ho.c)) := rfl
 rw [hst] at hon hbk
 rw [List.take_zero, List.nil_append] at hbk
 have hw1 := (show Below w.heap.size w w1 by exact tB)
 have HW1 := hid (below_only hw1 hon (by omega) (Nat.le_refl _))
 have HLX := hid (hft.led HW1.out (late_only hon (by omega)))
 have y0 := (hbk).cell 0; have y1 := (hbk).cell 1; have y2 := (hbk).cell 2; have y3 := (hbk).cell 3; have y4 := (hbk).cell 4; have y5 := (hbk).cell 5; have y6 := (hbk).cell 6; have y7 := (hbk).cell 7; have y8 := (hbk).cell 8; have y9 := (hbk).cell 9; have y10 := (hbk).cell 10; have y11 := (hbk).cell 11; (simp only [List.getElem?_toArray, List.getElem?_cons_zero, List.getElem?_cons_succ] at y0 y1 y2 y3 y4 y5 y6 y7 y8 y9 y10 y11)
 have hgs := hbk.lt
 clear hst hon hbk hw1 hc1 hf1 hb1 hz1 HFT hft CF
 generalize ((((((((((((w1.setCell ⟨w.heap.size, 0, none⟩ (.int .i64 t.day)).setCell ⟨w.heap.size, 1, none⟩ (.slice t.mem.A t.mem.val.length t.mem.c)).setCell ⟨w.heap.size, 2, none⟩ (.slice t.ins.A t.ins.val.length t.ins.c)).setCell ⟨w.heap.size, 3, none⟩ (.slice t.ats.A t.ats.val.length t.ats.c)).setCell ⟨w.heap.size, 4, none⟩ (.slice t.acs.A t.acs.val.length t.acs.c)).setCell ⟨w.heap.size, 5, none⟩ (.slice t.cho.A t.cho.val.length t.cho.c)).setCell ⟨w.heap.size, 6, none⟩ (.slice t.grp.A t.grp.val.length t.grp.c)).setCell ⟨w.heap.size, 7, none⟩ (.slice t.giv.A t.giv.val.length t.giv.c)).setCell ⟨w.heap.size, 8, none⟩ (.slice t.bk.A t.bk.val.length t.bk.c)).setCell ⟨w.heap.size, 9, none⟩ (.slice t.sale.A t.sale.val.length t.sale.c)).setCell ⟨w.heap.size, 10, none⟩ (.slice t.pu.A t.pu.val.length t.pu.c)).setCell ⟨w.heap.size, 11, none⟩ (.slice t.ho.A t.ho.val.length t.ho.c)) = wx at *
 have HSB := hid (show ((wx).cell? ⟨w.heap.size, 0, none⟩ = some (.int .i64 (t).day) ∧ (wx).cell? ⟨w.heap.size, 1, none⟩ = some (.slice (t).mem.A (t).mem.val.length (t).mem.c) ∧ (wx).cell? ⟨w.heap.size, 2, none⟩ = some (.slice (t).ins.A (t).ins.val.length (t).ins.c) ∧ (wx).cell? ⟨w.heap.size, 3, none⟩ = some (.slice (t).ats.A (t).ats.val.length (t).ats.c) ∧ (wx).cell? ⟨w.heap.size, 4, none⟩ = some (.slice (t).acs.A (t).acs.val.length (t).acs.c) ∧ (wx).cell? ⟨w.heap.size, 5, none⟩ = some (.slice (t).cho.A (t).cho.val.length (t).cho.c) ∧ (wx).cell? ⟨w.heap.size, 6, none⟩ = some (.slice (t).grp.A (t).grp.val.length (t).grp.c) ∧ (wx).cell? ⟨w.heap.size, 7, none⟩ = some (.slice (t).giv.A (t).giv.val.length (t).giv.c) ∧ (wx).cell? ⟨w.heap.size, 8, none⟩ = some (.slice (t).bk.A (t).bk.val.length (t).bk.c) ∧ (wx).cell? ⟨w.heap.size, 9, none⟩ = some (.slice (t).sale.A (t).sale.val.length (t).sale.c) ∧ (wx).cell? ⟨w.heap.size, 10, none⟩ = some (.slice (t).pu.A (t).pu.val.length (t).pu.c) ∧ (wx).cell? ⟨w.heap.size, 11, none⟩ = some (.slice (t).ho.A (t).ho.val.length (t).ho.c)) from ⟨y0, y1, y2, y3, y4, y5, y6, y7, y8, y9, y10, y11⟩)
 have CI := hid (fun W (h : Below wx.heap.size wx W) => ref33Is t W (HLX.out.keep h))
 have CU := hid (fun W (h : Below wx.heap.size wx W) => ref33Units t W (HLX.out.keep h))
 have hzx := HW1.out.size
 go_upto_region 4 with (first | (go_at_call 6; (with_reducible refine (CI.out _ tB).mono ?_); rintro e w2 ⟨b, rfl, hlo, hb2⟩; have HLO := hid hlo; clear hlo; obtain ⟨fc2, fg2, hc2, hf2, hz2⟩ := bget hb2; (try simp at hz2)) | (go_at_call 7; (with_reducible refine cM (CLV.out _ (by have h := HW1.out; exact tB)) fun w9 hb9 fc9 fg9 hc9 hf9 hz9 => ?_); (try simp at hz9)) | fail)
 ·go_wp2_with (first | (go_at_call 7; (with_reducible refine cM (CLV.out _ (by have h := HW1.out; exact tB)) fun w9 hb9 fc9 fg9 hc9 hf9 hz9 => ?_); (try simp at hz9)) | fail)
  go_ret
  exact ⟨rfl, by have h := HW1.out; exact tB⟩
 obtain rfl : b = true := by
  have h : (!b) = false := by assumption
  simpa using h
 have HLT := hid (HLO.out rfl)
 have HLF := hid (HLO.out rfl).led
 have hzw2 : wx.heap.size ≤ w2.heap.size := by omega
 have HB2 := hid (show Below wx.heap.size wx w2 by exact tB)
 have CA := hid (fun W (h : Below wx.heap.size wx W) => repAll t W (HT.out.keep (HW1.out.trans (h.mono hzx))) ((HLX.out.keep h).good HLT.out.oka))
 have HND := hid (lines_nodup HLF.out)
 have HCN := hid (lines_count HLF.out)
 have HAL := hid (allL_le (HLX.out.good HLT.out.oka))
 have hal := HAL.out
 have HUN := hid (show (unitsOfL (repL t).acs).length = (unitsOfL (t.acs.val.map lgA)).length from rfl)
 generalize allL (repL t) = AL at *
 clear hc2 hf2 hb2 HLO CI y0 y1 y2 y3 y4 y5 y6 y7 y8 y9 y10 y11
 obtain ⟨y0, y1, y2, y3, y4, y5, y6, y7, y8, y9, y10, y11⟩ := st_keep HSB.out HB2.out hgs
 have hgw2 : w.heap.size < w2.heap.size := by omega
 go_wp2_with (first | (go_at_call 8; (with_reducible refine (CA.out _ (by have h := HB2.out; exact tB)).mono ?_); rintro e w7 ⟨v7, rfl, hown7, hb7⟩; obtain ⟨A7, c7, hv7, hrs7, _⟩ := hown7.rs; (rw [List.length_map] at hv7); subst hv7; have HS7 := hid hrs7.rd; clear hown7 hrs7; obtain ⟨fc7, fg7, hc7, hf7, hz7⟩ := bget hb7; (try simp at hz7)) | fail)
 have H7 := hid (show Below wx.heap.size wx w7 by have h := HB2.out; exact tB)
 have hz7' := H7.out.size
 clear hc7 hf7 hb7 y0 y1 y2 y3 y4 y5 y6 y7 y8 y9 y10 y11
 go_loopw [3, 5] (fun n i wr => ∃ k : Nat, k ≤ AL.length ∧ i = .int .i64 k ∧ n = .int .i64 (((AL.take k).filter pfxU).length : Nat) ∧ Below w7.heap.size w7 wr) (fun _ i _ => AL.length - (intOf i).toNat)
 case atStart => exact ⟨0, Nat.zero_le _, rfl, rfl, Below.refl _ _⟩
 case round =>
  obtain ⟨k, hk, rfl, rfl, hbl⟩ := hrel
  have Hbl := hid hbl
  have hz := hbl.size
  clear hbl
  by_cases hlt : k < AL.length
  ·have kl : (k : Int) < (AL.length : Int) := by omega
   have dl := @dT k AL.length hlt
   obtain ⟨b, o, rfl, hb, hc⟩ := HS7.out k (encStr AL[k]) (by simp [hlt])
   have e0 := tC Hbl hb (hc 0 _ rfl)
   simp only [Nat.add_zero, Nat.mul_one] at e0
   clear hc
   have hst := pfx_step hlt
   have hpt := pfx_test AL[k]
   generalize AL[k] = L at *
   have wk : (((AL.take k).filter pfxU).length : Int) ≤ 1000000000 := by
    have h1 := List.length_filter_le pfxU (AL.take k)
    rw [List.length_take] at h1
    have h2 := HAL.out
    omega
   generalize ((AL.take k).filter pfxU).length = n at *
   generalize pfxU L = pb at *
   have HST := hid hst
   clear hst
   have hD : (decide ((5 : Int) < (L.length : Int)) = false ∧ pb = false) ∨ ((decide ((5 : Int) < (L.length : Int)) = true ∧ (5 : Int) < (L.length : Int) ∧ 5 < L.length) ∧ ((({ data := L.toArray } : ByteArray).extract 0 5).toList == [117, 110, 105, 116, 32]) = pb) := by
    by_cases h5 : 5 < L.length
    ·exact .inr ⟨⟨by simp; omega, by omega, h5⟩, by rw [hpt, decide_eq_true h5]; simp⟩
    ·exact .inl ⟨by simp; omega, by rw [hpt, decide_eq_false h5]; rfl⟩
   clear hpt
   rcases hD with ⟨d5, rfl⟩ | ⟨⟨d5, d5i, d5n⟩, dq⟩
   ·go_wp2_with fail
    go_roundw
    case rel => exact ⟨k + 1, by omega, by go_num, by rw [HST.out]; rfl, by have h := Hbl.out; exact tB⟩
    case measure => simp [intOf]; omega
   ·cases pb
    ·go_wp2_with fail
     go_roundw
     case rel => exact ⟨k + 1, by omega, by go_num, by rw [HST.out]; rfl, by have h := Hbl.out; exact tB⟩
     case measure => simp [intOf]; omega
    ·go_wp2_with fail
     go_roundw
     case rel => exact ⟨k + 1, by omega, by go_num, by rw [HST.out]; go_num, by have h := Hbl.out; exact tB⟩
     case measure => simp [intOf]; omega
  ·have dl := @dF k AL.length hlt
   have HKN := hid (show ((AL.take k).filter pfxU).length = (unitsOfL (t.acs.val.map lgA)).length + 2 from by rw [List.take_of_length_le (by omega)]; exact HCN.out)
   have hkb : ((AL.take k).filter pfxU).length ≤ 1000000000 := by
    have h1 := List.length_filter_le pfxU (AL.take k)
    rw [List.length_take] at h1
    omega
   generalize (unitsOfL (t.acs.val.map lgA)).length = n0 at *
   rw [HKN.out] at hkb
   rw [HKN.out]
   have HWR := hid (show Below wx.heap.size wx wr by have h1 := H7.out; have h2 := Hbl.out; exact tB)
   have hzr := HWR.out.size
   obtain ⟨y0, y1, y2, y3, y4, y5, y6, y7, y8, y9, y10, y11⟩ := st_keep HSB.out HWR.out hgs
   clear HKN
   go_wp2_with (first | (go_at_call 9; (with_reducible refine (CU.out _ (by have h := HWR.out; exact tB)).mono ?_); rintro e w8 ⟨A8, c8, rfl, hb8⟩; obtain ⟨fc8, fg8, hc8, hf8, hz8⟩ := bget hb8; (try simp at hz8)) | fail)
   have H8 := hid (show Below w7.heap.size w7 w8 by have h2 := Hbl.out; exact tB)
   clear hc8 hf8 hb8 y0 y1 y2 y3 y4 y5 y6 y7 y8 y9 y10 y11 Hbl hz hlt dl hk hkb
   go_loopw [6] (fun i wr => ∃ p : Nat, p ≤ AL.length ∧ i = .int .i64 p ∧ Below w7.heap.size w7 wr) (fun i _ => AL.length - (intOf i).toNat)
   case atStart => exact ⟨0, Nat.zero_le _, rfl, H8.out⟩
   case round =>
    obtain ⟨p, hp, rfl, hbl⟩ := hrel
    have Hbl := hid hbl
    have hz := hbl.size
    clear hbl
    by_cases hlt : p < AL.length
    ·have pl : (p : Int) < (AL.length : Int) := by omega
     have dl := @dT p AL.length hlt
     go_wp2_with fail
     go_loopw [7] (fun i wr => ∃ q : Nat, q ≤ p ∧ i = .int .i64 q ∧ Below w7.heap.size w7 wr) (fun i _ => p - (intOf i).toNat)
     case atStart => exact ⟨0, Nat.zero_le _, rfl, Hbl.out⟩
     case round =>
      obtain ⟨q, hq, rfl, hbl2⟩ := hrel
      have Hbl2 := hid hbl2
      have hz2 := hbl2.size
      clear hbl2
      by_cases hqp : q < p
      ·have qp : (q : Int) < (p : Int) := by omega
       have dq : decide ((q : Int) < (p : Int)) = true := by simpa using hqp
       have ql : (q : Int) < (AL.length : Int) := by omega
       obtain ⟨b, o, rfl, hb, hc⟩ := HS7.out p (encStr AL[p]) (by simp [hlt])
       obtain ⟨b2, o2, q1, hb2, hc2⟩ := HS7.out q (encStr (AL[q]'(by omega))) (by rw [List.getElem?_map, List.getElem?_eq_getElem (by omega)]; rfl)
       injection q1 with q1
       injection q1 with q1 q2 _
       subst q1 q2
       have e0 := tC Hbl2 hb (hc 0 _ rfl)
       have f0 := tC Hbl2 hb (hc2 0 _ rfl)
       simp only [Nat.add_zero, Nat.mul_one] at e0 f0
       have hne : AL[p] ≠ AL[q]'(by omega) := fun e => (List.pairwise_iff_getElem.1 HND.out q p (by omega) hlt hqp) e.symm
       have hne2 : (AL[p] == AL[q]'(by omega)) = false := by simpa using hne
       clear hc hc2 hne hb2
       generalize AL[p] = L1 at *
       generalize AL[q] = L2 at *
       go_wp2_with fail
       go_quiet (fail)
       go_wp2_with fail
       go_roundw
       case rel => exact ⟨q + 1, by omega, by go_num, by have h := Hbl2.out; exact tB⟩
       case measure => simp [intOf]; omega
      ·have dq : decide ((q : Int) < (p : Int)) = false := by simpa using hqp
       go_wp2_with fail
       go_roundw
       case rel => exact ⟨p + 1, by omega, by go_num, Hbl2.out⟩
       case measure => simp [intOf]; omega
    ·have dl := @dF p AL.length hlt
     have HWZ := hid (show Below w.heap.size w wr by have h1 := HW1.out; have h2 := H7.out; have h3 := Hbl.out; exact tB)
     go_wp2_with (first | (go_at_call 7; (with_reducible refine cM (CLV.out _ (by have h := HWZ.out; exact tB)) fun w9 hb9 fc9 fg9 hc9 hf9 hz9 => ?_); (try simp at hz9)) | fail)
     go_ret
     exact ⟨rfl, by have h := HWZ.out; exact tB⟩
end Go.Proofs.YtalgfpegaobacaaGreatDoor
