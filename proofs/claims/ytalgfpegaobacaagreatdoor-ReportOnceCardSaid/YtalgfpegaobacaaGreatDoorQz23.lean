/- Joined. -/
import Derived.Test.YtalgfpegaobacaaGreatDoorQz22
namespace Go.Proofs.YtalgfpegaobacaaGreatDoor
set_option linter.all false
set_option maxHeartbeats 64000000
set_option maxRecDepth 100000
open Go.RowKit
open Lib (hid)
/- The law's Few of a state (33): contract. -/
theorem law16FewC (l : List Choice) (A : Option Addr) (c : Nat) (w : World) (hr : Rs w 5 (l.map encChoice) A c) :
  Calls Tryz.prog 15 #[.slice A l.length c] w fun e w' => e = .returned (.slice A (l.take 20).length c) ∧ Below w.heap.size w w' := by
 have hlc : l.length ≤ c := by have := hr.cap; rw [List.length_map] at this; exact this
 have hcm := hr.room
 unfold maxLen at hcm
 by_cases h : 20 < l.length
 ·have HN := hid (show (l.take 20).length = 20 from by rw [List.length_take]; omega)
  have d1 : decide (20 < (l.length : Int)) = true := by simp; omega
  obtain ⟨b, o, rfl, hq⟩ := hr.rd 0 (encChoice (l[0]'(by omega))) (by rw [List.getElem?_map, List.getElem?_eq_getElem (by omega)]; rfl)
  rw [HN.out]
  clear hq hr
  go_enter Tryz.func15, Tryz.ntmps15
  go_wp2_with fail
  all_goals
   go_ret
   exact ⟨rfl, tB⟩
 ·rw [List.take_of_length_le (by omega)]
  have d1 : decide (20 < (l.length : Int)) = false := by simp; omega
  clear hr
  go_enter Tryz.func15, Tryz.ntmps15
  go_wp2_with fail
  go_ret
  exact ⟨rfl, tB⟩
theorem elGroup : Elem Tryz.prog 27 62 6 48 := elem_of Tryz.underlying27 (z := .agg #[.int .i64 0, .int .i64 0, .int .i64 0, .int .i64 0, .int .i64 0, .int .i64 0]) (by kernel_rfl) rfl (by omega)
theorem elGive : Elem Tryz.prog 28 66 11 88 := elem_of Tryz.underlying28 (z := .agg #[.int .i64 0, .int .i64 0, .int .i64 0, .int .i64 0, .int .i64 0, .int .i64 0, .int .i64 0, .int .i64 0, .int .i64 0, .int .i64 0, .int .i64 0]) (by kernel_rfl) rfl (by omega)
theorem law33Few (s : StV) (w0 w : World) (hs : RawSt w0 s) (h0 : Below w0.heap.size w0 w) :
  Calls Tryz.prog 5 #[.agg #[.int .i64 (s).day, .slice (s).mem.A (s).mem.val.length (s).mem.c, .slice (s).ins.A (s).ins.val.length (s).ins.c, .slice (s).ats.A (s).ats.val.length (s).ats.c, .slice (s).acs.A (s).acs.val.length (s).acs.c, .slice (s).cho.A (s).cho.val.length (s).cho.c, .slice (s).grp.A (s).grp.val.length (s).grp.c, .slice (s).giv.A (s).giv.val.length (s).giv.c, .slice (s).bk.A (s).bk.val.length (s).bk.c, .slice (s).sale.A (s).sale.val.length (s).sale.c, .slice (s).pu.A (s).pu.val.length (s).pu.c, .slice (s).ho.A (s).ho.val.length (s).ho.c]] w fun e w' => ∃ t, e = .returned (.agg #[.int .i64 (t).day, .slice (t).mem.A (t).mem.val.length (t).mem.c, .slice (t).ins.A (t).ins.val.length (t).ins.c, .slice (t).ats.A (t).ats.val.length (t).ats.c, .slice (t).acs.A (t).acs.val.length (t).acs.c, .slice (t).cho.A (t).cho.val.length (t).cho.c, .slice (t).grp.A (t).grp.val.length (t).grp.c, .slice (t).giv.A (t).giv.val.length (t).giv.c, .slice (t).bk.A (t).bk.val.length (t).bk.c, .slice (t).sale.A (t).sale.val.length (t).sale.c, .slice (t).pu.A (t).pu.val.length (t).pu.c, .slice (t).ho.A (t).ho.val.length (t).ho.c]) ∧ FewSt w0 w.heap.size w' t ∧ Below w.heap.size w w' := by
 have H00 := hid h0
 have C16 := hid (fun W (h : Below w0.heap.size w0 W) => law16FewC s.cho.val s.cho.A s.cho.c W (hs.rch.keep h))
 have C19 := hid (fun W (h : Below w0.heap.size w0 W) => law19Few s.bk.val s.bk.A s.bk.c W hs.side.lb (hs.side.rb.keep h) (fun x hx => (hs.side.gb x hx).keep h))
 have C29 := hid (fun W (h : Below w0.heap.size w0 W) => law19Few s.sale.val s.sale.A s.sale.c W hs.ls (hs.rs.keep h) (fun x hx => (hs.gs x hx).keep h))
 have C17 := hid (fun W (h : Below w0.heap.size w0 W) => law17Few s.pu.val s.pu.A s.pu.c W (hs.side.rp.keep h))
 have C26 := hid (fun W (h : Below w0.heap.size w0 W) => law26Few s.ho.val s.ho.A s.ho.c W hs.side.lh (hs.side.rh.keep h) (fun x hx => (hs.side.gh x hx).keep h))
 have HS := hid hs
 have hz0 := h0.size
 clear hs h0
 obtain ⟨LB, hLB⟩ : ∃ L, L = (s.bk.val.take 12).map fewPosV := ⟨_, rfl⟩
 obtain ⟨LS, hLS⟩ : ∃ L, L = (s.sale.val.take 12).map fewPosV := ⟨_, rfl⟩
 obtain ⟨LH, hLH⟩ : ∃ L, L = (s.ho.val.take 10).map fewHoldV := ⟨_, rfl⟩
 obtain ⟨LC, hLC⟩ : ∃ L, L = s.cho.val.take 20 := ⟨_, rfl⟩
 obtain ⟨LP, hLP⟩ : ∃ L, L = s.pu.val.take 20 := ⟨_, rfl⟩
 rw [← hLB] at C19
 rw [← hLS] at C29
 rw [← hLH] at C26
 rw [← hLC] at C16
 rw [← hLP] at C17
 have HLB := hid hLB
 have HLS := hid hLS
 have HLH := hid hLH
 have HLC := hid hLC
 have HLP := hid hLP
 clear hLB hLS hLH hLC hLP
 have hz1 : w0.heap.size ≤ w.heap.size := hz0
 go_enter Tryz.func5, Tryz.ntmps5
 go_upto_region 1 with fail
 have H0R := hid (show Below w0.heap.size w0 ((w.alloc (.cells #[.int .i64 (s).day, .slice (s).mem.A (s).mem.val.length (s).mem.c, .slice (s).ins.A (s).ins.val.length (s).ins.c, .slice (s).ats.A (s).ats.val.length (s).ats.c, .slice (s).acs.A (s).acs.val.length (s).acs.c, .slice (s).cho.A (s).cho.val.length (s).cho.c, .slice (s).grp.A (s).grp.val.length (s).grp.c, .slice (s).giv.A (s).giv.val.length (s).giv.c, .slice (s).bk.A (s).bk.val.length (s).bk.c, .slice (s).sale.A (s).sale.val.length (s).sale.c, .slice (s).pu.A (s).pu.val.length (s).pu.c, .slice (s).ho.A (s).ho.val.length (s).ho.c] 33)).alloc (.cells #[.int .i64 0, .slice none 0 0, .slice none 0 0, .slice none 0 0, .slice none 0 0, .slice none 0 0, .slice none 0 0, .slice none 0 0, .slice none 0 0, .slice none 0 0, .slice none 0 0, .slice none 0 0] 33)) by have h := H00.out; have hz := h.size; exact tB)
 go_cut [3] from 7 to 24 (fun p wx => ∃ (g : Nat) (A2 A3 A5 : Option Addr) (c2 c3 c5 : Nat), p = .pointer (some ⟨g, 0, none⟩) ∧ w.heap.size + 1 < g ∧ g < wx.heap.size ∧ Blk wx g 33 #[.int .i64 s.day, .slice none 0 0, .slice none 0 0, .slice none 0 0, .slice none 0 0, .slice s.cho.A LC.length s.cho.c, .slice none 0 0, .slice none 0 0, .slice A2 LB.length c2, .slice A3 LS.length c3, .slice s.pu.A LP.length s.pu.c, .slice A5 LH.length c5] ∧ Own wx (w.heap.size + 2) 82 3 (.slice A2 LB.length c2) (LB.map encPosV) ∧ Own wx (w.heap.size + 2) 82 3 (.slice A3 LS.length c3) (LS.map encPosV) ∧ Own wx (w.heap.size + 2) 75 3 (.slice A5 LH.length c5) (LH.map encHoldV) ∧ Below (w.heap.size + 2) ((w.alloc (.cells #[.int .i64 (s).day, .slice (s).mem.A (s).mem.val.length (s).mem.c, .slice (s).ins.A (s).ins.val.length (s).ins.c, .slice (s).ats.A (s).ats.val.length (s).ats.c, .slice (s).acs.A (s).acs.val.length (s).acs.c, .slice (s).cho.A (s).cho.val.length (s).cho.c, .slice (s).grp.A (s).grp.val.length (s).grp.c, .slice (s).giv.A (s).giv.val.length (s).giv.c, .slice (s).bk.A (s).bk.val.length (s).bk.c, .slice (s).sale.A (s).sale.val.length (s).sale.c, .slice (s).pu.A (s).pu.val.length (s).pu.c, .slice (s).ho.A (s).ho.val.length (s).ho.c] 33)).alloc (.cells #[.int .i64 0, .slice none 0 0, .slice none 0 0, .slice none 0 0, .slice none 0 0, .slice none 0 0, .slice none 0 0, .slice none 0 0, .slice none 0 0, .slice none 0 0, .slice none 0 0, .slice none 0 0] 33)) wx)
 case first =>
  go_region_held3 (fun w' => (w'.cell? ⟨w.heap.size, 0, none⟩ = some (.int .i64 s.day) ∧ w'.cell? ⟨w.heap.size, 5, none⟩ = some (.slice s.cho.A s.cho.val.length s.cho.c) ∧ w'.cell? ⟨w.heap.size, 8, none⟩ = some (.slice s.bk.A s.bk.val.length s.bk.c) ∧ w'.cell? ⟨w.heap.size, 9, none⟩ = some (.slice s.sale.A s.sale.val.length s.sale.c) ∧ w'.cell? ⟨w.heap.size, 10, none⟩ = some (.slice s.pu.A s.pu.val.length s.pu.c) ∧ w'.cell? ⟨w.heap.size, 11, none⟩ = some (.slice s.ho.A s.ho.val.length s.ho.c))) (exact tK) (first | (go_at_call 15; (with_reducible refine cM (C16.out _ (by have h := H0R.out; exact tB)) fun w1 hb1 fc1 fg1 hc1 hf1 hz1 => ?_); (try simp at hz1)) | (go_at_call 16; (with_reducible refine (C19.out _ (by have h := H0R.out; exact tB)).mono ?_); rintro e w2 ⟨v2, rfl, hown2, hb2⟩; obtain ⟨A2, c2, hv2, _, _⟩ := hown2.rs; (rw [List.length_map] at hv2); subst hv2; have HO2 := hid (hown2.mono (b := w.heap.size + 2) tZ); clear hown2; obtain ⟨fc2, fg2, hc2, hf2, hz2⟩ := bget hb2; (try simp at hz2)) | (go_at_call 16; (with_reducible refine (C29.out _ (by have h := H0R.out; exact tB)).mono ?_); rintro e w3 ⟨v3, rfl, hown3, hb3⟩; obtain ⟨A3, c3, hv3, _, _⟩ := hown3.rs; (rw [List.length_map] at hv3); subst hv3; have HO3 := hid (hown3.mono (b := w.heap.size + 2) tZ); clear hown3; obtain ⟨fc3, fg3, hc3, hf3, hz3⟩ := bget hb3; (try simp at hz3)) | (go_at_call 17; (with_reducible refine cM (C17.out _ (by have h := H0R.out; exact tB)) fun w4 hb4 fc4 fg4 hc4 hf4 hz4 => ?_); (try simp at hz4)) | (go_at_call 18; (with_reducible refine (C26.out _ (by have h := H0R.out; exact tB)).mono ?_); rintro e w5 ⟨v5, rfl, hown5, hb5⟩; obtain ⟨A5, c5, hv5, _, _⟩ := hown5.rs; (rw [List.length_map] at hv5); subst hv5; have HO5 := hid (hown5.mono (b := w.heap.size + 2) tZ); clear hown5; obtain ⟨fc5, fg5, hc5, hf5, hz5⟩ := bget hb5; (try simp at hz5)) | fail)
  all_goals
   go_wp2_with fail
   go_meet
   refine ⟨_, A2, A3, A5, c2, c3, c5, rfl, tZ, tZ, ?_, ?_, ?_, ?_, tB⟩
   ·first
     | (with_reducible exact Blk.here rfl)
     | (with_reducible refine set12_blk (cs := #[.int .i64 0, .slice none 0 0, .slice none 0 0, .slice none 0 0, .slice none 0 0, .slice none 0 0, .slice none 0 0, .slice none 0 0, .slice none 0 0, .slice none 0 0, .slice none 0 0, .slice none 0 0]) ?_ rfl; exact tL; done)
     | fail
   all_goals first
    | (with_reducible refine HO2.out.keep ?_; (repeat' (first | (with_reducible exact Below.refl _ _) | (with_reducible assumption) | (with_reducible refine Below.alloc ?_ ?_ _) | (with_reducible refine Below.setCell ?_ ?_ _) | (with_reducible refine Below.drew ?_) | (with_reducible refine below_drewN ?_ _) | (with_reducible refine below_via ?_ (by with_reducible assumption) ?_) | omega | (simp; done) | (simp; omega))); done)
    | (with_reducible refine HO3.out.keep ?_; (repeat' (first | (with_reducible exact Below.refl _ _) | (with_reducible assumption) | (with_reducible refine Below.alloc ?_ ?_ _) | (with_reducible refine Below.setCell ?_ ?_ _) | (with_reducible refine Below.drew ?_) | (with_reducible refine below_drewN ?_ _) | (with_reducible refine below_via ?_ (by with_reducible assumption) ?_) | omega | (simp; done) | (simp; omega))); done)
    | (with_reducible refine HO5.out.keep ?_; (repeat' (first | (with_reducible exact Below.refl _ _) | (with_reducible assumption) | (with_reducible refine Below.alloc ?_ ?_ _) | (with_reducible refine Below.setCell ?_ ?_ _) | (with_reducible refine Below.drew ?_) | (with_reducible refine below_drewN ?_ _) | (with_reducible refine below_via ?_ (by with_reducible assumption) ?_) | omega | (simp; done) | (simp; omega))); done)
    | (with_reducible exact set12_own (cs := #[.int .i64 0, .slice none 0 0, .slice none 0 0, .slice none 0 0, .slice none 0 0, .slice none 0 0, .slice none 0 0, .slice none 0 0, .slice none 0 0, .slice none 0 0, .slice none 0 0, .slice none 0 0]) (t := 33) HO5.out tL (by decide))
    | (with_reducible exact set12_own (cs := #[.int .i64 0, .slice none 0 0, .slice none 0 0, .slice none 0 0, .slice none 0 0, .slice none 0 0, .slice none 0 0, .slice none 0 0, .slice none 0 0, .slice none 0 0, .slice none 0 0, .slice none 0 0]) (t := 33) HO3.out tL (by decide))
    | (with_reducible exact set12_own (cs := #[.int .i64 0, .slice none 0 0, .slice none 0 0, .slice none 0 0, .slice none 0 0, .slice none 0 0, .slice none 0 0, .slice none 0 0, .slice none 0 0, .slice none 0 0, .slice none 0 0, .slice none 0 0]) (t := 33) HO2.out tL (by decide))
    | (with_reducible exact set12_own (cs := #[.int .i64 0, .slice none 0 0, .slice none 0 0, .slice none 0 0, .slice none 0 0, .slice none 0 0, .slice none 0 0, .slice none 0 0, .slice none 0 0, .slice none 0 0, .slice none 0 0, .slice none 0 0]) (t := 33) (HO3.out.keep tB) tL (by decide))
    | (with_reducible exact set12_own (cs := #[.int .i64 0, .slice none 0 0, .slice none 0 0, .slice none 0 0, .slice none 0 0, .slice none 0 0, .slice none 0 0, .slice none 0 0, .slice none 0 0, .slice none 0 0, .slice none 0 0, .slice none 0 0]) (t := 33) (HO2.out.keep tB) tL (by decide))
    | fail
 case rest =>
  obtain ⟨g, A2, A3, A5, c2, c3, c5, rfl, hg1, hg2, hbk, ho2, ho3, ho5, hbx⟩ := hcut
  generalize wc = wx at *
  have HO2 := hid ho2
  have HO3 := hid ho3
  have HO5 := hid ho5
  have HBX := hid hbx
  have HSB := hid (show ((wx).cell? ⟨w.heap.size, 0, none⟩ = some (.int .i64 (s).day) ∧ (wx).cell? ⟨w.heap.size, 1, none⟩ = some (.slice (s).mem.A (s).mem.val.length (s).mem.c) ∧ (wx).cell? ⟨w.heap.size, 2, none⟩ = some (.slice (s).ins.A (s).ins.val.length (s).ins.c) ∧ (wx).cell? ⟨w.heap.size, 3, none⟩ = some (.slice (s).ats.A (s).ats.val.length (s).ats.c) ∧ (wx).cell? ⟨w.heap.size, 4, none⟩ = some (.slice (s).acs.A (s).acs.val.length (s).acs.c) ∧ (wx).cell? ⟨w.heap.size, 5, none⟩ = some (.slice (s).cho.A (s).cho.val.length (s).cho.c) ∧ (wx).cell? ⟨w.heap.size, 6, none⟩ = some (.slice (s).grp.A (s).grp.val.length (s).grp.c) ∧ (wx).cell? ⟨w.heap.size, 7, none⟩ = some (.slice (s).giv.A (s).giv.val.length (s).giv.c) ∧ (wx).cell? ⟨w.heap.size, 8, none⟩ = some (.slice (s).bk.A (s).bk.val.length (s).bk.c) ∧ (wx).cell? ⟨w.heap.size, 9, none⟩ = some (.slice (s).sale.A (s).sale.val.length (s).sale.c) ∧ (wx).cell? ⟨w.heap.size, 10, none⟩ = some (.slice (s).pu.A (s).pu.val.length (s).pu.c) ∧ (wx).cell? ⟨w.heap.size, 11, none⟩ = some (.slice (s).ho.A (s).ho.val.length (s).ho.c)) from ⟨(hbx.cell (by simp)).trans (by simp [go_sem]), (hbx.cell (by simp)).trans (by simp [go_sem]), (hbx.cell (by simp)).trans (by simp [go_sem]), (hbx.cell (by simp)).trans (by simp [go_sem]), (hbx.cell (by simp)).trans (by simp [go_sem]), (hbx.cell (by simp)).trans (by simp [go_sem]), (hbx.cell (by simp)).trans (by simp [go_sem]), (hbx.cell (by simp)).trans (by simp [go_sem]), (hbx.cell (by simp)).trans (by simp [go_sem]), (hbx.cell (by simp)).trans (by simp [go_sem]), (hbx.cell (by simp)).trans (by simp [go_sem]), (hbx.cell (by simp)).trans (by simp [go_sem])⟩)
  have HRB := hid (show Blk wx (w.heap.size + 1) 33 #[.int .i64 0, .slice none 0 0, .slice none 0 0, .slice none 0 0, .slice none 0 0, .slice none 0 0, .slice none 0 0, .slice none 0 0, .slice none 0 0, .slice none 0 0, .slice none 0 0, .slice none 0 0] from Blk.below (Blk.here (by simp)) hbx (by omega))
  have HW0 := hid (H0R.out.trans (hbx.mono (by omega)))
  have HWW := hid (show Below w.heap.size w wx from Below.trans (show Below w.heap.size w ((w.alloc (.cells #[.int .i64 (s).day, .slice (s).mem.A (s).mem.val.length (s).mem.c, .slice (s).ins.A (s).ins.val.length (s).ins.c, .slice (s).ats.A (s).ats.val.length (s).ats.c, .slice (s).acs.A (s).acs.val.length (s).acs.c, .slice (s).cho.A (s).cho.val.length (s).cho.c, .slice (s).grp.A (s).grp.val.length (s).grp.c, .slice (s).giv.A (s).giv.val.length (s).giv.c, .slice (s).bk.A (s).bk.val.length (s).bk.c, .slice (s).sale.A (s).sale.val.length (s).sale.c, .slice (s).pu.A (s).pu.val.length (s).pu.c, .slice (s).ho.A (s).ho.val.length (s).ho.c] 33)).alloc (.cells #[.int .i64 0, .slice none 0 0, .slice none 0 0, .slice none 0 0, .slice none 0 0, .slice none 0 0, .slice none 0 0, .slice none 0 0, .slice none 0 0, .slice none 0 0, .slice none 0 0, .slice none 0 0] 33)) by exact tB) (hbx.mono (by omega)))
  have HFL := hid (FewL.start hbk)
  have HBK := hid hbk
  have HRM := hid HS.out.rm
  have HRT := hid (show Rd w0 s.ats.A 3 (s.ats.val.map encAsset) from HS.out.side.ra)
  have HRA := hid HS.out.rc
  have HRI := hid (show Rd w0 s.ins.A 5 (s.ins.val.map encInstV) from HS.out.side.ri)
  have HRG := hid HS.out.rg
  have HRV := hid HS.out.rv
  have hml : (s.mem.val.length : Int) ≤ 9223372036854775807 ∧ (s.ats.val.length : Int) ≤ 9223372036854775807 ∧ (s.acs.val.length : Int) ≤ 9223372036854775807 ∧ (s.ins.val.length : Int) ≤ 9223372036854775807 ∧ (s.grp.val.length : Int) ≤ 9223372036854775807 ∧ (s.giv.val.length : Int) ≤ 9223372036854775807 := by
   have h1 := HS.out.lm
   have h2 : s.ats.val.length ≤ maxLen := HS.out.side.la
   have h3 := HS.out.lc
   have h4 : s.ins.val.length ≤ maxLen := HS.out.side.li
   have h5 := HS.out.lg
   have h6 := HS.out.lv
   unfold maxLen at h1 h2 h3 h4 h5 h6
   omega
  obtain ⟨hm1, hm2, hm3, hm4, hm5, hm6⟩ := hml
  clear ho2 ho3 ho5 hbx hbk H0R C16 C17 C19 C29 C26
  go_wp2_with fail
  go_loopw [4] (fun i wr => ∃ k : Nat, k ≤ 20 ∧ i = .int .i64 k ∧ FewL wx wr g (.int .i64 s.day) (.slice s.cho.A LC.length s.cho.c) (.slice A2 LB.length c2) (.slice A3 LS.length c3) (.slice s.pu.A LP.length s.pu.c) (.slice A5 LH.length c5) (s.mem.val.take k) ((s.ins.val.take k).map cut12) (s.ats.val.take k) ((s.acs.val.take k).map shortN) [] []) (fun i _ => 20 - (intOf i).toNat)
  case atStart => exact ⟨0, Nat.zero_le _, rfl, HFL.out⟩
  case round =>
   obtain ⟨k, hk, rfl, hfl⟩ := hrel
   clear HFL
   by_cases h20 : k < 20
   ·have k20 : (k : Int) < 20 := by omega
    have d20 : decide ((k : Int) < 20) = true := by simp; omega
    obtain ⟨hon, v1, v2, v3, v4, v6, v7, hf⟩ := hfl
    have HF := hid hf
    have HON := hid hon
    have hwz := hon.size
    have bg := hf.hbk.cell 1
    have fg := hf.hbk.frozen 1
    (simp only [List.getElem?_toArray, List.getElem?_cons_zero, List.getElem?_cons_succ] at bg)
    have hgr := hf.hbk.lt
    have y := (only_cell hon (p := ⟨w.heap.size, 1, none⟩) (by simp; omega) (by simp; omega)).trans HSB.out.2.1
    clear hf
    go_upto_if 33 with fail
    go_cut [] (fun wz => FewL wx wz g (.int .i64 s.day) (.slice s.cho.A LC.length s.cho.c) (.slice A2 LB.length c2) (.slice A3 LS.length c3) (.slice s.pu.A LP.length s.pu.c) (.slice A5 LH.length c5) (s.mem.val.take (k + 1)) ((s.ins.val.take k).map cut12) (s.ats.val.take k) ((s.acs.val.take k).map shortN) [] [])
    case first =>
     by_cases hlt : k < s.mem.val.length
     ·obtain ⟨b, o, hA, hb, hc⟩ := HRM.out k (encMb s.mem.val[k]) (by simp [hlt])
      replace hc := fun j v hv => (only_cell hon (p := ⟨b, o + k * 4 + j, none⟩) (by simp; omega) (by simp; omega)).trans ((HW0.out.cell (p := ⟨b, o + k * 4 + j, none⟩) hb).trans (hc j v hv))
      have e0 := hc 0 _ rfl
      have e1 := hc 1 _ rfl
      have e2 := hc 2 _ rfl
      have e3 := hc 3 _ rfl
      simp only [Nat.add_zero] at e0
      rw [hA] at y
      have hbw : b < wr.heap.size := by omega
      have hbwx : b < wx.heap.size := by omega
      have hswx : w.heap.size < wx.heap.size := by omega
      have hswr : w.heap.size < wr.heap.size := by omega
      clear hc hA
      have HSN := hid (show (s.mem.val.take (k + 1)).map encMb = (s.mem.val.take k).map encMb ++ [encMb s.mem.val[k]] from map_snoc hlt encMb)
      have hzl : (s.mem.val.take k).length ≤ 70 := by rw [List.length_take]; omega
      have kl : (k : Int) < (s.mem.val.length : Int) := by omega
      have dl : decide ((k : Int) < (s.mem.val.length : Int)) = true := by simpa using hlt
      generalize s.mem.val[k] = x at *
      go_wp2_with fail
      refine wp_region_held_drew (S := (fun w' => w'.cell? ⟨w.heap.size, 1, none⟩ = some (.slice (some ⟨b, o, none⟩) s.mem.val.length s.mem.c) ∧ w'.cell? ⟨b, o + k * 4, none⟩ = some (.int .i64 x.id) ∧ w'.cell? ⟨b, o + k * 4 + 1, none⟩ = some (.int .i64 x.cap) ∧ w'.cell? ⟨b, o + k * 4 + 2, none⟩ = some (.int .i64 x.phase) ∧ w'.cell? ⟨b, o + k * 4 + 3, none⟩ = some (.int .i64 x.til))) (by kernel_rfl) ?_ (fun hHeld => ?_)
      ·(exact tK)
      refine tQ 0 ?_
      refine tS ?_
      refine tQ 2 ?_
      refine tS ?_
      refine tQ 3 ?_
      refine tS ?_
      refine tQ 4 ?_
      refine tS ?_
      refine tQ 5 ?_
      refine tS ?_
      refine tQ 6 ?_
      refine tS ?_
      refine wpAnyH_ready (rs := [1, 7]) (by kernel_rfl) (by simp) ?_
      refine AllReadyH.cons rfl (fun K hK => ?_) (AllReadyH.cons rfl (fun K hK => ?_) AllReadyH.nil)
      ·(try simp only [List.getElem_toArray, List.getElem_cons_zero])
       go_simp
       (try go_wp2_with fail)
       refine hK.out _ _ ?_ (fun hHeld => ?_)
       focus ((exact tK); done)
       refine tS ?_
       refine tR (.cons (i := 7) rfl (fun K hK => ?_) .nil)
       refine tG ?_
       go_simp
       skip
       refine hK.out _ _ ?_ (fun hHeld => ?_)
       focus ((exact tK); done)
       refine tS ?_
       refine tR (.cons (i := 8) rfl (fun K hK => ?_) .nil)
       refine step_appG rfl (.tmp 35) (.tmp 41) 22 rfl elMb wx.heap.size v1 _ (by simp [Act.eval]) (HF.out.o1.keep tB) ⟨_, 0, none⟩ 1 1 (by simp [Act.eval]; rfl) [encMb (x)] rfl (rd_oneN (by simp)) (rowsMb [x]) (by rw [List.length_map]; unfold maxLen; omega) (by rw [List.length_map]; omega) (by simp; omega) ?_
       intro vn w4 hown4 hb4 hg4
       have hbk4 := blk_away HF.out.hbk (away_step tB (HF.out.o1.keep tB) hg4) (by decide)
       have q0 := hbk4.cell 1
       have z0 := hbk4.frozen 1
       (simp only [List.getElem?_toArray, List.getElem?_cons_zero, List.getElem?_cons_succ] at q0)
       obtain ⟨An, nn, cn, rfl⟩ := own_slice hown4
       have HO4 := hid hown4
       have HG4 := hid hg4
       obtain ⟨fc4, fg4, hc4, hf4, hz4⟩ := bget hb4
       (try simp at hz4)
       clear hown4 hg4 hbk4
       refine hK.out _ _ ?_ (fun hHeld => ?_)
       focus ((exact tK); done)
       refine tS ?_
       refine tQ 9 ?_
       refine tS ?_
       refine tR (.cons (i := 10) rfl (fun K hK => ?_) .nil)
       refine tG ?_
       go_simp
       skip
       refine hK.out _ _ ?_ (fun hHeld => ?_)
       focus ((exact tK); done)
       refine tS ?_
       refine wpAnyH_done (by kernel_rfl) ?_ _
       go_wp2_with fail
       go_meet
       exact ⟨only_step HON.out tB (HF.out.o1.keep tB) HG4.out 1 _, _, v2, v3, v4, v6, v7, HF.out.mem tB HG4.out (by rw [HSN.out]; exact HO4.out)⟩
      ·refine tG ?_
       go_simp
       skip
       refine hK.out _ _ ?_ (fun hHeld => ?_)
       focus ((exact tK); done)
       refine tS ?_
       refine tR (.cons (i := 1) rfl (fun K hK => ?_) .nil)
       (try simp only [List.getElem_toArray, List.getElem_cons_zero])
       go_simp
       (try go_wp2_with fail)
       refine hK.out _ _ ?_ (fun hHeld => ?_)
       focus ((exact tK); done)
       refine tS ?_
       refine tR (.cons (i := 8) rfl (fun K hK => ?_) .nil)
       refine step_appG rfl (.tmp 35) (.tmp 41) 22 rfl elMb wx.heap.size v1 _ (by simp [Act.eval]) (HF.out.o1.keep tB) ⟨_, 0, none⟩ 1 1 (by simp [Act.eval]; rfl) [encMb (x)] rfl (rd_oneN (by simp)) (rowsMb [x]) (by rw [List.length_map]; unfold maxLen; omega) (by rw [List.length_map]; omega) (by simp; omega) ?_
       intro vn w4 hown4 hb4 hg4
       have hbk4 := blk_away HF.out.hbk (away_step tB (HF.out.o1.keep tB) hg4) (by decide)
       have q0 := hbk4.cell 1
       have z0 := hbk4.frozen 1
       (simp only [List.getElem?_toArray, List.getElem?_cons_zero, List.getElem?_cons_succ] at q0)
       obtain ⟨An, nn, cn, rfl⟩ := own_slice hown4
       have HO4 := hid hown4
       have HG4 := hid hg4
       obtain ⟨fc4, fg4, hc4, hf4, hz4⟩ := bget hb4
       (try simp at hz4)
       clear hown4 hg4 hbk4
       refine hK.out _ _ ?_ (fun hHeld => ?_)
       focus ((exact tK); done)
       refine tS ?_
       refine tQ 9 ?_
       refine tS ?_
       refine tR (.cons (i := 10) rfl (fun K hK => ?_) .nil)
       refine tG ?_
       go_simp
       skip
       refine hK.out _ _ ?_ (fun hHeld => ?_)
       focus ((exact tK); done)
       refine tS ?_
       refine wpAnyH_done (by kernel_rfl) ?_ _
       go_wp2_with fail
       go_meet
       exact ⟨only_step HON.out tB (HF.out.o1.keep tB) HG4.out 1 _, _, v2, v3, v4, v6, v7, HF.out.mem tB HG4.out (by rw [HSN.out]; exact HO4.out)⟩
     ·have HT := hid (show (s.mem.val).take (k + 1) = (s.mem.val).take k from by rw [List.take_of_length_le (show (s.mem.val).length ≤ k + 1 by omega), List.take_of_length_le (show (s.mem.val).length ≤ k by omega)])
      have dl : decide ((k : Int) < ((s.mem.val).length : Int)) = false := by simpa using hlt
      go_wp2_with fail
      go_meet
      exact ⟨HON.out, v1, v2, v3, v4, v6, v7, (by rw [HT.out]; exact HF.out)⟩
    case rest =>
     clear HF HON hwz bg fg hgr y hon
     generalize wc = wr at *
     obtain ⟨hon, v1, v2, v3, v4, v6, v7, hf⟩ := hcut
     have HF := hid hf
     have HON := hid hon
     have hwz := hon.size
     have bg := hf.hbk.cell 3
     have fg := hf.hbk.frozen 3
     (simp only [List.getElem?_toArray, List.getElem?_cons_zero, List.getElem?_cons_succ] at bg)
     have hgr := hf.hbk.lt
     have y := (only_cell hon (p := ⟨w.heap.size, 3, none⟩) (by simp; omega) (by simp; omega)).trans HSB.out.2.2.2.1
     clear hf
     go_upto_if 48 with fail
     go_cut [] (fun wz => FewL wx wz g (.int .i64 s.day) (.slice s.cho.A LC.length s.cho.c) (.slice A2 LB.length c2) (.slice A3 LS.length c3) (.slice s.pu.A LP.length s.pu.c) (.slice A5 LH.length c5) (s.mem.val.take (k + 1)) ((s.ins.val.take k).map cut12) (s.ats.val.take (k + 1)) ((s.acs.val.take k).map shortN) [] [])
     case first =>
      by_cases hlt : k < s.ats.val.length
      ·obtain ⟨b, o, hA, hb, hc⟩ := HRT.out k (encAsset s.ats.val[k]) (by simp [hlt])
       replace hc := fun j v hv => (only_cell hon (p := ⟨b, o + k * 3 + j, none⟩) (by simp; omega) (by simp; omega)).trans ((HW0.out.cell (p := ⟨b, o + k * 3 + j, none⟩) hb).trans (hc j v hv))
       have e0 := hc 0 _ rfl
       have e1 := hc 1 _ rfl
       have e2 := hc 2 _ rfl
       simp only [Nat.add_zero] at e0
       rw [hA] at y
       have hbw : b < wr.heap.size := by omega
       have hbwx : b < wx.heap.size := by omega
       have hswx : w.heap.size < wx.heap.size := by omega
       have hswr : w.heap.size < wr.heap.size := by omega
       clear hc hA
       have HSN := hid (show (s.ats.val.take (k + 1)).map encAsset = (s.ats.val.take k).map encAsset ++ [encAsset s.ats.val[k]] from map_snoc hlt encAsset)
       have hzl : (s.ats.val.take k).length ≤ 70 := by rw [List.length_take]; omega
       have kl : (k : Int) < (s.ats.val.length : Int) := by omega
       have dl : decide ((k : Int) < (s.ats.val.length : Int)) = true := by simpa using hlt
       generalize s.ats.val[k] = x at *
       go_wp2_with fail
       refine wp_region_held_drew (S := (fun w' => w'.cell? ⟨w.heap.size, 3, none⟩ = some (.slice (some ⟨b, o, none⟩) s.ats.val.length s.ats.c) ∧ w'.cell? ⟨b, o + k * 3, none⟩ = some (.int .i64 x.id) ∧ w'.cell? ⟨b, o + k * 3 + 1, none⟩ = some (.int .i64 x.price) ∧ w'.cell? ⟨b, o + k * 3 + 2, none⟩ = some (.int .i64 x.hair))) (by kernel_rfl) ?_ (fun hHeld => ?_)
       ·(exact tK)
       refine tQ 0 ?_
       refine tS ?_
       refine tQ 2 ?_
       refine tS ?_
       refine tQ 3 ?_
       refine tS ?_
       refine tQ 4 ?_
       refine tS ?_
       refine tQ 5 ?_
       refine tS ?_
       refine tQ 6 ?_
       refine tS ?_
       refine wpAnyH_ready (rs := [1, 7]) (by kernel_rfl) (by simp) ?_
       refine AllReadyH.cons rfl (fun K hK => ?_) (AllReadyH.cons rfl (fun K hK => ?_) AllReadyH.nil)
       ·(try simp only [List.getElem_toArray, List.getElem_cons_zero])
        go_simp
        (try go_wp2_with fail)
        refine hK.out _ _ ?_ (fun hHeld => ?_)
        focus ((exact tK); done)
        refine tS ?_
        refine tR (.cons (i := 7) rfl (fun K hK => ?_) .nil)
        refine tG ?_
        go_simp
        skip
        refine hK.out _ _ ?_ (fun hHeld => ?_)
        focus ((exact tK); done)
        refine tS ?_
        refine tR (.cons (i := 8) rfl (fun K hK => ?_) .nil)
        refine step_appG rfl (.tmp 50) (.tmp 56) 24 rfl elAsset wx.heap.size v3 _ (by simp [Act.eval]) (HF.out.o3.keep tB) ⟨_, 0, none⟩ 1 1 (by simp [Act.eval]; rfl) [encAsset (x)] rfl (rd_oneN (by simp)) (rowsAsset [x]) (by rw [List.length_map]; unfold maxLen; omega) (by rw [List.length_map]; omega) (by simp; omega) ?_
        intro vn w4 hown4 hb4 hg4
        have hbk4 := blk_away HF.out.hbk (away_step tB (HF.out.o3.keep tB) hg4) (by decide)
        have q0 := hbk4.cell 3
        have z0 := hbk4.frozen 3
        (simp only [List.getElem?_toArray, List.getElem?_cons_zero, List.getElem?_cons_succ] at q0)
        obtain ⟨An, nn, cn, rfl⟩ := own_slice hown4
        have HO4 := hid hown4
        have HG4 := hid hg4
        obtain ⟨fc4, fg4, hc4, hf4, hz4⟩ := bget hb4
        (try simp at hz4)
        clear hown4 hg4 hbk4
        refine hK.out _ _ ?_ (fun hHeld => ?_)
        focus ((exact tK); done)
        refine tS ?_
        refine tQ 9 ?_
        refine tS ?_
        refine tR (.cons (i := 10) rfl (fun K hK => ?_) .nil)
        refine tG ?_
        go_simp
        skip
        refine hK.out _ _ ?_ (fun hHeld => ?_)
        focus ((exact tK); done)
        refine tS ?_
        refine wpAnyH_done (by kernel_rfl) ?_ _
        go_wp2_with fail
        go_meet
        exact ⟨only_step HON.out tB (HF.out.o3.keep tB) HG4.out 3 _, v1, v2, _, v4, v6, v7, HF.out.ats tB HG4.out (by rw [HSN.out]; exact HO4.out)⟩
       ·refine tG ?_
        go_simp
        skip
        refine hK.out _ _ ?_ (fun hHeld => ?_)
        focus ((exact tK); done)
        refine tS ?_
        refine tR (.cons (i := 1) rfl (fun K hK => ?_) .nil)
        (try simp only [List.getElem_toArray, List.getElem_cons_zero])
        go_simp
        (try go_wp2_with fail)
        refine hK.out _ _ ?_ (fun hHeld => ?_)
        focus ((exact tK); done)
        refine tS ?_
        refine tR (.cons (i := 8) rfl (fun K hK => ?_) .nil)
        refine step_appG rfl (.tmp 50) (.tmp 56) 24 rfl elAsset wx.heap.size v3 _ (by simp [Act.eval]) (HF.out.o3.keep tB) ⟨_, 0, none⟩ 1 1 (by simp [Act.eval]; rfl) [encAsset (x)] rfl (rd_oneN (by simp)) (rowsAsset [x]) (by rw [List.length_map]; unfold maxLen; omega) (by rw [List.length_map]; omega) (by simp; omega) ?_
        intro vn w4 hown4 hb4 hg4
        have hbk4 := blk_away HF.out.hbk (away_step tB (HF.out.o3.keep tB) hg4) (by decide)
        have q0 := hbk4.cell 3
        have z0 := hbk4.frozen 3
        (simp only [List.getElem?_toArray, List.getElem?_cons_zero, List.getElem?_cons_succ] at q0)
        obtain ⟨An, nn, cn, rfl⟩ := own_slice hown4
        have HO4 := hid hown4
        have HG4 := hid hg4
        obtain ⟨fc4, fg4, hc4, hf4, hz4⟩ := bget hb4
        (try simp at hz4)
        clear hown4 hg4 hbk4
        refine hK.out _ _ ?_ (fun hHeld => ?_)
        focus ((exact tK); done)
        refine tS ?_
        refine tQ 9 ?_
        refine tS ?_
        refine tR (.cons (i := 10) rfl (fun K hK => ?_) .nil)
        refine tG ?_
        go_simp
        skip
        refine hK.out _ _ ?_ (fun hHeld => ?_)
        focus ((exact tK); done)
        refine tS ?_
        refine wpAnyH_done (by kernel_rfl) ?_ _
        go_wp2_with fail
        go_meet
        exact ⟨only_step HON.out tB (HF.out.o3.keep tB) HG4.out 3 _, v1, v2, _, v4, v6, v7, HF.out.ats tB HG4.out (by rw [HSN.out]; exact HO4.out)⟩
      ·have HT := hid (show (s.ats.val).take (k + 1) = (s.ats.val).take k from by rw [List.take_of_length_le (show (s.ats.val).length ≤ k + 1 by omega), List.take_of_length_le (show (s.ats.val).length ≤ k by omega)])
       have dl : decide ((k : Int) < ((s.ats.val).length : Int)) = false := by simpa using hlt
       go_wp2_with fail
       go_meet
       exact ⟨HON.out, v1, v2, v3, v4, v6, v7, (by rw [HT.out]; exact HF.out)⟩
     case rest =>
      clear HF HON hwz bg fg hgr y hon
      generalize wc = wr at *
      obtain ⟨hon, v1, v2, v3, v4, v6, v7, hf⟩ := hcut
      have HF := hid hf
      have HON := hid hon
      have hwz := hon.size
      have bg := hf.hbk.cell 4
      have fg := hf.hbk.frozen 4
      (simp only [List.getElem?_toArray, List.getElem?_cons_zero, List.getElem?_cons_succ] at bg)
      have hgr := hf.hbk.lt
      have y := (only_cell hon (p := ⟨w.heap.size, 4, none⟩) (by simp; omega) (by simp; omega)).trans HSB.out.2.2.2.2.1
      clear hf
      go_upto_if 63 with fail
      go_cut [] (fun wz => FewL wx wz g (.int .i64 s.day) (.slice s.cho.A LC.length s.cho.c) (.slice A2 LB.length c2) (.slice A3 LS.length c3) (.slice s.pu.A LP.length s.pu.c) (.slice A5 LH.length c5) (s.mem.val.take (k + 1)) ((s.ins.val.take k).map cut12) (s.ats.val.take (k + 1)) ((s.acs.val.take (k + 1)).map shortN) [] [])
      case first =>
       by_cases hlt : k < s.acs.val.length
       ·have hgx := HS.out.gc s.acs.val[k] (List.getElem_mem hlt)
        have HSN2 := hid (show ((s.acs.val.take (k + 1)).map shortN).map encAcctV = ((s.acs.val.take k).map shortN).map encAcctV ++ [encAcctV (shortN s.acs.val[k])] from by rw [map_snoc hlt shortN, List.map_append]; rfl)
        have hzl2 : ((s.acs.val.take k).map shortN).length ≤ 70 := by rw [List.length_map, List.length_take]; omega
        have HWR := hid (below_only HW0.out HON.out (by omega) (by omega))
        obtain ⟨b, o, hA, hb, hc⟩ := HRA.out k (encAcctV s.acs.val[k]) (by simp [hlt])
        replace hc := fun j v hv => (only_cell hon (p := ⟨b, o + k * 4 + j, none⟩) (by simp; omega) (by simp; omega)).trans ((HW0.out.cell (p := ⟨b, o + k * 4 + j, none⟩) hb).trans (hc j v hv))
        have e0 := hc 0 _ rfl
        have e1 := hc 1 _ rfl
        have e2 := hc 2 _ rfl
        have e3 := hc 3 _ rfl
        simp only [Nat.add_zero] at e0
        rw [hA] at y
        have hbw : b < wr.heap.size := by omega
        have hbwx : b < wx.heap.size := by omega
        have hswx : w.heap.size < wx.heap.size := by omega
        have hswr : w.heap.size < wr.heap.size := by omega
        clear hc hA
        have HSN := hid (show (s.acs.val.take (k + 1)).map encAcctV = (s.acs.val.take k).map encAcctV ++ [encAcctV s.acs.val[k]] from map_snoc hlt encAcctV)
        have hzl : (s.acs.val.take k).length ≤ 70 := by rw [List.length_take]; omega
        have kl : (k : Int) < (s.acs.val.length : Int) := by omega
        have dl : decide ((k : Int) < (s.acs.val.length : Int)) = true := by simpa using hlt
        generalize s.acs.val[k] = x at *
        have CSN := hid (fun W (h : Below wr.heap.size wr W) => law25Short x W (hgx.keep (HWR.out.trans (h.mono (by omega)))))
        go_wp2_with fail
        refine wp_region_held_drew (S := (fun w' => w'.cell? ⟨w.heap.size, 4, none⟩ = some (.slice (some ⟨b, o, none⟩) s.acs.val.length s.acs.c) ∧ w'.cell? ⟨b, o + k * 4, none⟩ = some (.int .i64 x.id) ∧ w'.cell? ⟨b, o + k * 4 + 1, none⟩ = some (.int .i64 x.member) ∧ w'.cell? ⟨b, o + k * 4 + 2, none⟩ = some (.int .i64 x.kind) ∧ w'.cell? ⟨b, o + k * 4 + 3, none⟩ = some (.slice x.clients.A x.clients.val.length x.clients.c))) (by kernel_rfl) ?_ (fun hHeld => ?_)
        ·(exact tK)
        refine tQ 0 ?_
        refine tS ?_
        refine tQ 2 ?_
        refine tS ?_
        refine tQ 3 ?_
        refine tS ?_
        refine tQ 4 ?_
        refine tS ?_
        refine tQ 5 ?_
        refine tS ?_
        refine tQ 6 ?_
        refine tS ?_
        refine wpAnyH_ready (rs := [1, 7]) (by kernel_rfl) (by simp) ?_
        refine AllReadyH.cons rfl (fun K hK => ?_) (AllReadyH.cons rfl (fun K hK => ?_) AllReadyH.nil)
        ·(try simp only [List.getElem_toArray, List.getElem_cons_zero])
         go_simp
         (try go_wp2_with fail)
         refine hK.out _ _ ?_ (fun hHeld => ?_)
         focus ((exact tK); done)
         refine tS ?_
         refine tR (.cons (i := 7) rfl (fun K hK => ?_) .nil)
         refine tG ?_
         go_simp
         ((go_at_call 19; (with_reducible refine cM (CSN.out _ tB) fun w8 hb8 fc8 fg8 hc8 hf8 hz8 => ?_); (try simp at hz8)); have hg8 : ¬ g = w8.heap.size := (by omega))
         refine hK.out _ _ ?_ (fun hHeld => ?_)
         focus ((exact tK); done)
         refine tS ?_
         refine tR (.cons (i := 8) rfl (fun K hK => ?_) .nil)
         refine tG ?_
         go_simp
         skip
         refine hK.out _ _ ?_ (fun hHeld => ?_)
         focus ((exact tK); done)
         refine tS ?_
         refine tR (.cons (i := 9) rfl (fun K hK => ?_) .nil)
         refine step_appG rfl (.tmp 65) (.tmp 72) 25 rfl elAcctV wx.heap.size v4 _ (by simp [Act.eval]) (HF.out.o4.keep tB) ⟨_, 0, none⟩ 1 1 (by simp [Act.eval]; rfl) [encAcctV (shortN x)] rfl (rd_oneN (by simp)) (rowsAcctV [shortN x]) (by rw [List.length_map]; unfold maxLen; omega) (by rw [List.length_map]; omega) (by simp; omega) ?_
         intro vn w4 hown4 hb4 hg4
         have hbk4 := blk_away HF.out.hbk (away_step tB (HF.out.o4.keep tB) hg4) (by decide)
         have q0 := hbk4.cell 4
         have z0 := hbk4.frozen 4
         (simp only [List.getElem?_toArray, List.getElem?_cons_zero, List.getElem?_cons_succ] at q0)
         obtain ⟨An, nn, cn, rfl⟩ := own_slice hown4
         have HO4 := hid hown4
         have HG4 := hid hg4
         obtain ⟨fc4, fg4, hc4, hf4, hz4⟩ := bget hb4
         (try simp at hz4)
         clear hown4 hg4 hbk4
         refine hK.out _ _ ?_ (fun hHeld => ?_)
         focus ((exact tK); done)
         refine tS ?_
         refine tQ 10 ?_
         refine tS ?_
         refine tR (.cons (i := 11) rfl (fun K hK => ?_) .nil)
         refine tG ?_
         go_simp
         skip
         refine hK.out _ _ ?_ (fun hHeld => ?_)
         focus ((exact tK); done)
         refine tS ?_
         refine wpAnyH_done (by kernel_rfl) ?_ _
         go_wp2_with fail
         go_meet
         exact ⟨only_step HON.out tB (HF.out.o4.keep tB) HG4.out 4 _, v1, v2, v3, _, v6, v7, HF.out.acs tB HG4.out (by rw [HSN2.out]; exact HO4.out)⟩
        ·refine tG ?_
         go_simp
         ((go_at_call 19; (with_reducible refine cM (CSN.out _ tB) fun w8 hb8 fc8 fg8 hc8 hf8 hz8 => ?_); (try simp at hz8)); have hg8 : ¬ g = w8.heap.size := (by omega))
         refine hK.out _ _ ?_ (fun hHeld => ?_)
         focus ((exact tK); done)
         refine tS ?_
         refine wpAnyH_ready (rs := [1, 8]) (by kernel_rfl) (by simp) ?_
         refine AllReadyH.cons rfl (fun K hK => ?_) (AllReadyH.cons rfl (fun K hK => ?_) AllReadyH.nil)
         ·(try simp only [List.getElem_toArray, List.getElem_cons_zero])
          go_simp
          (try go_wp2_with fail)
          refine hK.out _ _ ?_ (fun hHeld => ?_)
          focus ((exact tK); done)
          refine tS ?_
          refine tR (.cons (i := 8) rfl (fun K hK => ?_) .nil)
          refine tG ?_
          go_simp
          skip
          refine hK.out _ _ ?_ (fun hHeld => ?_)
          focus ((exact tK); done)
          refine tS ?_
          refine tR (.cons (i := 9) rfl (fun K hK => ?_) .nil)
          refine step_appG rfl (.tmp 65) (.tmp 72) 25 rfl elAcctV wx.heap.size v4 _ (by simp [Act.eval]) (HF.out.o4.keep tB) ⟨_, 0, none⟩ 1 1 (by simp [Act.eval]; rfl) [encAcctV (shortN x)] rfl (rd_oneN (by simp)) (rowsAcctV [shortN x]) (by rw [List.length_map]; unfold maxLen; omega) (by rw [List.length_map]; omega) (by simp; omega) ?_
          intro vn w4 hown4 hb4 hg4
          have hbk4 := blk_away HF.out.hbk (away_step tB (HF.out.o4.keep tB) hg4) (by decide)
          have q0 := hbk4.cell 4
          have z0 := hbk4.frozen 4
          (simp only [List.getElem?_toArray, List.getElem?_cons_zero, List.getElem?_cons_succ] at q0)
          obtain ⟨An, nn, cn, rfl⟩ := own_slice hown4
          have HO4 := hid hown4
          have HG4 := hid hg4
          obtain ⟨fc4, fg4, hc4, hf4, hz4⟩ := bget hb4
          (try simp at hz4)
          clear hown4 hg4 hbk4
          refine hK.out _ _ ?_ (fun hHeld => ?_)
          focus ((exact tK); done)
          refine tS ?_
          refine tQ 10 ?_
          refine tS ?_
          refine tR (.cons (i := 11) rfl (fun K hK => ?_) .nil)
          refine tG ?_
          go_simp
          skip
          refine hK.out _ _ ?_ (fun hHeld => ?_)
          focus ((exact tK); done)
          refine tS ?_
          refine wpAnyH_done (by kernel_rfl) ?_ _
          go_wp2_with fail
          go_meet
          exact ⟨only_step HON.out tB (HF.out.o4.keep tB) HG4.out 4 _, v1, v2, v3, _, v6, v7, HF.out.acs tB HG4.out (by rw [HSN2.out]; exact HO4.out)⟩
         ·refine tG ?_
          go_simp
          skip
          refine hK.out _ _ ?_ (fun hHeld => ?_)
          focus ((exact tK); done)
          refine tS ?_
          refine tR (.cons (i := 1) rfl (fun K hK => ?_) .nil)
          (try simp only [List.getElem_toArray, List.getElem_cons_zero])
          go_simp
          (try go_wp2_with fail)
          refine hK.out _ _ ?_ (fun hHeld => ?_)
          focus ((exact tK); done)
          refine tS ?_
          refine tR (.cons (i := 9) rfl (fun K hK => ?_) .nil)
          refine step_appG rfl (.tmp 65) (.tmp 72) 25 rfl elAcctV wx.heap.size v4 _ (by simp [Act.eval]) (HF.out.o4.keep tB) ⟨_, 0, none⟩ 1 1 (by simp [Act.eval]; rfl) [encAcctV (shortN x)] rfl (rd_oneN (by simp)) (rowsAcctV [shortN x]) (by rw [List.length_map]; unfold maxLen; omega) (by rw [List.length_map]; omega) (by simp; omega) ?_
          intro vn w4 hown4 hb4 hg4
          have hbk4 := blk_away HF.out.hbk (away_step tB (HF.out.o4.keep tB) hg4) (by decide)
          have q0 := hbk4.cell 4
          have z0 := hbk4.frozen 4
          (simp only [List.getElem?_toArray, List.getElem?_cons_zero, List.getElem?_cons_succ] at q0)
          obtain ⟨An, nn, cn, rfl⟩ := own_slice hown4
          have HO4 := hid hown4
          have HG4 := hid hg4
          obtain ⟨fc4, fg4, hc4, hf4, hz4⟩ := bget hb4
          (try simp at hz4)
          clear hown4 hg4 hbk4
          refine hK.out _ _ ?_ (fun hHeld => ?_)
          focus ((exact tK); done)
          refine tS ?_
          refine tQ 10 ?_
          refine tS ?_
          refine tR (.cons (i := 11) rfl (fun K hK => ?_) .nil)
          refine tG ?_
          go_simp
          skip
          refine hK.out _ _ ?_ (fun hHeld => ?_)
          focus ((exact tK); done)
          refine tS ?_
          refine wpAnyH_done (by kernel_rfl) ?_ _
          go_wp2_with fail
          go_meet
          exact ⟨only_step HON.out tB (HF.out.o4.keep tB) HG4.out 4 _, v1, v2, v3, _, v6, v7, HF.out.acs tB HG4.out (by rw [HSN2.out]; exact HO4.out)⟩
       ·have HT := hid (show (s.acs.val).take (k + 1) = (s.acs.val).take k from by rw [List.take_of_length_le (show (s.acs.val).length ≤ k + 1 by omega), List.take_of_length_le (show (s.acs.val).length ≤ k by omega)])
        have dl : decide ((k : Int) < ((s.acs.val).length : Int)) = false := by simpa using hlt
        go_wp2_with fail
        go_meet
        exact ⟨HON.out, v1, v2, v3, v4, v6, v7, (by rw [HT.out]; exact HF.out)⟩
      case rest =>
       clear HF HON hwz bg fg hgr y hon
       generalize wc = wr at *
       obtain ⟨hon, v1, v2, v3, v4, v6, v7, hf⟩ := hcut
       have HF := hid hf
       have HON := hid hon
       have hwz := hon.size
       have bg := hf.hbk.cell 2
       have fg := hf.hbk.frozen 2
       (simp only [List.getElem?_toArray, List.getElem?_cons_zero, List.getElem?_cons_succ] at bg)
       have hgr := hf.hbk.lt
       have y := (only_cell hon (p := ⟨w.heap.size, 2, none⟩) (by simp; omega) (by simp; omega)).trans HSB.out.2.2.1
       clear hf
       by_cases hlt : k < s.ins.val.length
       ·have hgx := HS.out.side.gi s.ins.val[k] (List.getElem_mem hlt)
        have hHS := hid (show ((s.ins.val.take (k + 1)).map cut12).map encInstV = ((s.ins.val.take k).map cut12).map encInstV ++ [encInstV (cut12 s.ins.val[k])] from by rw [map_snoc hlt cut12, List.map_append]; rfl)
        have hzl2 : ((s.ins.val.take k).map cut12).length ≤ 70 := by rw [List.length_map, List.length_take]; omega
        obtain ⟨b, o, hA, hb, hc⟩ := HRI.out k (encInstV s.ins.val[k]) (by simp [hlt])
        replace hc := fun j v hv => (only_cell hon (p := ⟨b, o + k * 5 + j, none⟩) (by simp; omega) (by simp; omega)).trans ((HW0.out.cell (p := ⟨b, o + k * 5 + j, none⟩) hb).trans (hc j v hv))
        have e0 := hc 0 _ rfl
        have e1 := hc 1 _ rfl
        have e2 := hc 2 _ rfl
        have e3 := hc 3 _ rfl
        have e4 := hc 4 _ rfl
        simp only [Nat.add_zero] at e0
        rw [hA] at y
        have hbw : b < wr.heap.size := by omega
        have hbwx : b < wx.heap.size := by omega
        have hswx : w.heap.size < wx.heap.size := by omega
        have hswr : w.heap.size < wr.heap.size := by omega
        clear hc hA
        have HSN := hid (show (s.ins.val.take (k + 1)).map encInstV = (s.ins.val.take k).map encInstV ++ [encInstV s.ins.val[k]] from map_snoc hlt encInstV)
        have hzl : (s.ins.val.take k).length ≤ 70 := by rw [List.length_take]; omega
        have kl : (k : Int) < (s.ins.val.length : Int) := by omega
        have dl : decide ((k : Int) < (s.ins.val.length : Int)) = true := by simpa using hlt
        generalize s.ins.val[k] = x at *
        clear HSN
        have hcap := hgx.cap
        have hroom := hgx.room
        rw [List.length_map] at hcap
        unfold maxLen at hroom
        by_cases h12 : 12 < x.moves.val.length
        ·have d12 : decide (12 < (x.moves.val.length : Int)) = true := by simp; omega
         obtain ⟨bm, om, hA, hbm, _⟩ := hgx.rd 0 (encI (x.moves.val[0]'(by omega))) (by rw [List.getElem?_map, List.getElem?_eq_getElem (by omega)]; rfl)
         rw [hA] at e4
         have HE := hid (show encInstV (cut12 x) = [.int .i64 x.id, .int .i64 x.mult, .int .i64 x.price, .int .i64 x.next, .slice (some ⟨bm, om, none⟩) 12 x.moves.c] from by simp [encInstV, cut12, hA]; omega)
         have n12 : 12 ≤ x.moves.c := by omega
         have n12i : (12 : Int) ≤ (x.moves.c : Int) := by omega
         clear hA hgx hbm
         go_wp2_with (first | (at_builtin; refine wpList_appG rfl _ _ _ rfl elInstV wx.heap.size _ _ rfl (HF.out.o2.keep tB) ⟨_, 0, none⟩ 1 1 rfl [[.int .i64 x.id, .int .i64 x.mult, .int .i64 x.price, .int .i64 x.next, .slice (some ⟨bm, om, none⟩) 12 x.moves.c]] rfl (rd_oneN (by simp)) (by intro r hr; rw [← HE.out] at hr; exact rowsInstV [cut12 x] r hr) (by rw [List.length_map]; unfold maxLen; omega) (by rw [List.length_map]; omega) (by simp; omega) ?_; intro vn w4 hown4 hb4 hg4; have hbk4 := blk_away HF.out.hbk (away_step tB (HF.out.o2.keep tB) hg4) (by decide); have q0 := hbk4.cell 2; have z0 := hbk4.frozen 2; (simp only [List.getElem?_toArray, List.getElem?_cons_zero, List.getElem?_cons_succ] at q0); obtain ⟨An, nn, cn, rfl⟩ := own_slice hown4; have HO4 := hid hown4; have HG4 := hid hg4; clear hown4 hg4 hbk4) | fail)
         go_roundw
         case rel => exact ⟨k + 1, by omega, by go_num, only_step HON.out tB (HF.out.o2.keep tB) HG4.out 2 _, v1, _, v3, v4, v6, v7, HF.out.ins tB HG4.out (by rw [hHS.out, HE.out]; exact HO4.out)⟩
         case measure => simp [intOf]; omega
        ·have d12 : decide (12 < (x.moves.val.length : Int)) = false := by simp; omega
         have HE := hid (show encInstV (cut12 x) = [.int .i64 x.id, .int .i64 x.mult, .int .i64 x.price, .int .i64 x.next, .slice x.moves.A x.moves.val.length x.moves.c] from by simp [encInstV, cut12]; omega)
         clear hgx
         go_wp2_with (first | (at_builtin; refine wpList_appG rfl _ _ _ rfl elInstV wx.heap.size _ _ rfl (HF.out.o2.keep tB) ⟨_, 0, none⟩ 1 1 rfl [[.int .i64 x.id, .int .i64 x.mult, .int .i64 x.price, .int .i64 x.next, .slice x.moves.A x.moves.val.length x.moves.c]] rfl (rd_oneN (by simp)) (by intro r hr; rw [← HE.out] at hr; exact rowsInstV [cut12 x] r hr) (by rw [List.length_map]; unfold maxLen; omega) (by rw [List.length_map]; omega) (by simp; omega) ?_; intro vn w4 hown4 hb4 hg4; have hbk4 := blk_away HF.out.hbk (away_step tB (HF.out.o2.keep tB) hg4) (by decide); have q0 := hbk4.cell 2; have z0 := hbk4.frozen 2; (simp only [List.getElem?_toArray, List.getElem?_cons_zero, List.getElem?_cons_succ] at q0); obtain ⟨An, nn, cn, rfl⟩ := own_slice hown4; have HO4 := hid hown4; have HG4 := hid hg4; clear hown4 hg4 hbk4) | fail)
         go_roundw
         case rel => exact ⟨k + 1, by omega, by go_num, only_step HON.out tB (HF.out.o2.keep tB) HG4.out 2 _, v1, _, v3, v4, v6, v7, HF.out.ins tB HG4.out (by rw [hHS.out, HE.out]; exact HO4.out)⟩
         case measure => simp [intOf]; omega
       ·have HT := hid (show s.ins.val.take (k + 1) = s.ins.val.take k from by rw [List.take_of_length_le (show s.ins.val.length ≤ k + 1 by omega), List.take_of_length_le (show s.ins.val.length ≤ k by omega)])
        have dl : decide ((k : Int) < (s.ins.val.length : Int)) = false := by simpa using hlt
        go_wp2_with fail
        go_roundw
        case rel => exact ⟨k + 1, by omega, by go_num, HON.out, v1, v2, v3, v4, v6, v7, (by rw [HT.out]; exact HF.out)⟩
        case measure => simp [intOf]; omega
   ·have d20 : decide ((k : Int) < 20) = false := by simp; omega
    have hk20 : k = 20 := by omega
    rw [hk20] at hfl
    have HFX := hid hfl
    clear hfl hk20
    go_wp2_with fail
    go_loopw [6] (fun i wr => ∃ k : Nat, k ≤ 70 ∧ i = .int .i64 k ∧ FewL wx wr g (.int .i64 s.day) (.slice s.cho.A LC.length s.cho.c) (.slice A2 LB.length c2) (.slice A3 LS.length c3) (.slice s.pu.A LP.length s.pu.c) (.slice A5 LH.length c5) (s.mem.val.take 20) ((s.ins.val.take 20).map cut12) (s.ats.val.take 20) ((s.acs.val.take 20).map shortN) (s.grp.val.take k) (s.giv.val.take k)) (fun i _ => 70 - (intOf i).toNat)
    case atStart => exact ⟨0, Nat.zero_le _, rfl, HFX.out⟩
    case round =>
     obtain ⟨k, hk, rfl, hfl⟩ := hrel
     clear HFX
     by_cases h70 : k < 70
     ·have k70 : (k : Int) < 70 := by omega
      have d70 : decide ((k : Int) < 70) = true := by simp; omega
      obtain ⟨hon, v1, v2, v3, v4, v6, v7, hf⟩ := hfl
      have HF := hid hf
      have HON := hid hon
      have hwz := hon.size
      have bg := hf.hbk.cell 6
      have fg := hf.hbk.frozen 6
      (simp only [List.getElem?_toArray, List.getElem?_cons_zero, List.getElem?_cons_succ] at bg)
      have hgr := hf.hbk.lt
      have y := (only_cell hon (p := ⟨w.heap.size, 6, none⟩) (by simp; omega) (by simp; omega)).trans HSB.out.2.2.2.2.2.2.1
      clear hf
      go_upto_if 107 with fail
      go_cut [] (fun wz => FewL wx wz g (.int .i64 s.day) (.slice s.cho.A LC.length s.cho.c) (.slice A2 LB.length c2) (.slice A3 LS.length c3) (.slice s.pu.A LP.length s.pu.c) (.slice A5 LH.length c5) (s.mem.val.take 20) ((s.ins.val.take 20).map cut12) (s.ats.val.take 20) ((s.acs.val.take 20).map shortN) (s.grp.val.take (k + 1)) (s.giv.val.take k))
      case first =>
       by_cases hlt : k < s.grp.val.length
       ·obtain ⟨b, o, hA, hb, hc⟩ := HRG.out k (encGroup s.grp.val[k]) (by simp [hlt])
        replace hc := fun j v hv => (only_cell hon (p := ⟨b, o + k * 6 + j, none⟩) (by simp; omega) (by simp; omega)).trans ((HW0.out.cell (p := ⟨b, o + k * 6 + j, none⟩) hb).trans (hc j v hv))
        have e0 := hc 0 _ rfl
        have e1 := hc 1 _ rfl
        have e2 := hc 2 _ rfl
        have e3 := hc 3 _ rfl
        have e4 := hc 4 _ rfl
        have e5 := hc 5 _ rfl
        simp only [Nat.add_zero] at e0
        rw [hA] at y
        have hbw : b < wr.heap.size := by omega
        have hbwx : b < wx.heap.size := by omega
        have hswx : w.heap.size < wx.heap.size := by omega
        have hswr : w.heap.size < wr.heap.size := by omega
        clear hc hA
        have HSN := hid (show (s.grp.val.take (k + 1)).map encGroup = (s.grp.val.take k).map encGroup ++ [encGroup s.grp.val[k]] from map_snoc hlt encGroup)
        have hzl : (s.grp.val.take k).length ≤ 70 := by rw [List.length_take]; omega
        have kl : (k : Int) < (s.grp.val.length : Int) := by omega
        have dl : decide ((k : Int) < (s.grp.val.length : Int)) = true := by simpa using hlt
        generalize s.grp.val[k] = x at *
        go_wp2_with fail
        refine wp_region_held_drew (S := (fun w' => w'.cell? ⟨w.heap.size, 6, none⟩ = some (.slice (some ⟨b, o, none⟩) s.grp.val.length s.grp.c) ∧ w'.cell? ⟨b, o + k * 6, none⟩ = some (.int .i64 x.id) ∧ w'.cell? ⟨b, o + k * 6 + 1, none⟩ = some (.int .i64 x.unit.acc) ∧ w'.cell? ⟨b, o + k * 6 + 2, none⟩ = some (.int .i64 x.unit.cli) ∧ w'.cell? ⟨b, o + k * 6 + 3, none⟩ = some (.int .i64 x.inst) ∧ w'.cell? ⟨b, o + k * 6 + 4, none⟩ = some (.int .i64 x.price) ∧ w'.cell? ⟨b, o + k * 6 + 5, none⟩ = some (.int .i64 x.left))) (by kernel_rfl) ?_ (fun hHeld => ?_)
        ·(exact tK)
        refine tQ 0 ?_
        refine tS ?_
        refine tQ 2 ?_
        refine tS ?_
        refine tQ 3 ?_
        refine tS ?_
        refine tQ 4 ?_
        refine tS ?_
        refine tQ 5 ?_
        refine tS ?_
        refine tQ 6 ?_
        refine tS ?_
        refine wpAnyH_ready (rs := [1, 7]) (by kernel_rfl) (by simp) ?_
        refine AllReadyH.cons rfl (fun K hK => ?_) (AllReadyH.cons rfl (fun K hK => ?_) AllReadyH.nil)
        ·(try simp only [List.getElem_toArray, List.getElem_cons_zero])
         go_simp
         (try go_wp2_with fail)
         refine hK.out _ _ ?_ (fun hHeld => ?_)
         focus ((exact tK); done)
         refine tS ?_
         refine tR (.cons (i := 7) rfl (fun K hK => ?_) .nil)
         refine tG ?_
         go_simp
         skip
         refine hK.out _ _ ?_ (fun hHeld => ?_)
         focus ((exact tK); done)
         refine tS ?_
         refine tR (.cons (i := 8) rfl (fun K hK => ?_) .nil)
         refine step_appG rfl (.tmp 109) (.tmp 115) 27 rfl elGroup wx.heap.size v6 _ (by simp [Act.eval]) (HF.out.o6.keep tB) ⟨_, 0, none⟩ 1 1 (by simp [Act.eval]; rfl) [encGroup (x)] rfl (rd_oneN (by simp)) (rowsGroup [x]) (by rw [List.length_map]; unfold maxLen; omega) (by rw [List.length_map]; omega) (by simp; omega) ?_
         intro vn w4 hown4 hb4 hg4
         have hbk4 := blk_away HF.out.hbk (away_step tB (HF.out.o6.keep tB) hg4) (by decide)
         have q0 := hbk4.cell 6
         have z0 := hbk4.frozen 6
         (simp only [List.getElem?_toArray, List.getElem?_cons_zero, List.getElem?_cons_succ] at q0)
         obtain ⟨An, nn, cn, rfl⟩ := own_slice hown4
         have HO4 := hid hown4
         have HG4 := hid hg4
         obtain ⟨fc4, fg4, hc4, hf4, hz4⟩ := bget hb4
         (try simp at hz4)
         clear hown4 hg4 hbk4
         refine hK.out _ _ ?_ (fun hHeld => ?_)
         focus ((exact tK); done)
         refine tS ?_
         refine tQ 9 ?_
         refine tS ?_
         refine tR (.cons (i := 10) rfl (fun K hK => ?_) .nil)
         refine tG ?_
         go_simp
         skip
         refine hK.out _ _ ?_ (fun hHeld => ?_)
         focus ((exact tK); done)
         refine tS ?_
         refine wpAnyH_done (by kernel_rfl) ?_ _
         go_wp2_with fail
         go_meet
         exact ⟨only_step HON.out tB (HF.out.o6.keep tB) HG4.out 6 _, v1, v2, v3, v4, _, v7, HF.out.grp tB HG4.out (by rw [HSN.out]; exact HO4.out)⟩
        ·refine tG ?_
         go_simp
         skip
         refine hK.out _ _ ?_ (fun hHeld => ?_)
         focus ((exact tK); done)
         refine tS ?_
         refine tR (.cons (i := 1) rfl (fun K hK => ?_) .nil)
         (try simp only [List.getElem_toArray, List.getElem_cons_zero])
         go_simp
         (try go_wp2_with fail)
         refine hK.out _ _ ?_ (fun hHeld => ?_)
         focus ((exact tK); done)
         refine tS ?_
         refine tR (.cons (i := 8) rfl (fun K hK => ?_) .nil)
         refine step_appG rfl (.tmp 109) (.tmp 115) 27 rfl elGroup wx.heap.size v6 _ (by simp [Act.eval]) (HF.out.o6.keep tB) ⟨_, 0, none⟩ 1 1 (by simp [Act.eval]; rfl) [encGroup (x)] rfl (rd_oneN (by simp)) (rowsGroup [x]) (by rw [List.length_map]; unfold maxLen; omega) (by rw [List.length_map]; omega) (by simp; omega) ?_
         intro vn w4 hown4 hb4 hg4
         have hbk4 := blk_away HF.out.hbk (away_step tB (HF.out.o6.keep tB) hg4) (by decide)
         have q0 := hbk4.cell 6
         have z0 := hbk4.frozen 6
         (simp only [List.getElem?_toArray, List.getElem?_cons_zero, List.getElem?_cons_succ] at q0)
         obtain ⟨An, nn, cn, rfl⟩ := own_slice hown4
         have HO4 := hid hown4
         have HG4 := hid hg4
         obtain ⟨fc4, fg4, hc4, hf4, hz4⟩ := bget hb4
         (try simp at hz4)
         clear hown4 hg4 hbk4
         refine hK.out _ _ ?_ (fun hHeld => ?_)
         focus ((exact tK); done)
         refine tS ?_
         refine tQ 9 ?_
         refine tS ?_
         refine tR (.cons (i := 10) rfl (fun K hK => ?_) .nil)
         refine tG ?_
         go_simp
         skip
         refine hK.out _ _ ?_ (fun hHeld => ?_)
         focus ((exact tK); done)
         refine tS ?_
         refine wpAnyH_done (by kernel_rfl) ?_ _
         go_wp2_with fail
         go_meet
         exact ⟨only_step HON.out tB (HF.out.o6.keep tB) HG4.out 6 _, v1, v2, v3, v4, _, v7, HF.out.grp tB HG4.out (by rw [HSN.out]; exact HO4.out)⟩
       ·have HT := hid (show (s.grp.val).take (k + 1) = (s.grp.val).take k from by rw [List.take_of_length_le (show (s.grp.val).length ≤ k + 1 by omega), List.take_of_length_le (show (s.grp.val).length ≤ k by omega)])
        have dl : decide ((k : Int) < ((s.grp.val).length : Int)) = false := by simpa using hlt
        go_wp2_with fail
        go_meet
        exact ⟨HON.out, v1, v2, v3, v4, v6, v7, (by rw [HT.out]; exact HF.out)⟩
      case rest =>
       clear HF HON hwz bg fg hgr y hon
       generalize wc = wr at *
       obtain ⟨hon, v1, v2, v3, v4, v6, v7, hf⟩ := hcut
       have HF := hid hf
       have HON := hid hon
       have hwz := hon.size
       have bg := hf.hbk.cell 7
       have fg := hf.hbk.frozen 7
       (simp only [List.getElem?_toArray, List.getElem?_cons_zero, List.getElem?_cons_succ] at bg)
       have hgr := hf.hbk.lt
       have y := (only_cell hon (p := ⟨w.heap.size, 7, none⟩) (by simp; omega) (by simp; omega)).trans HSB.out.2.2.2.2.2.2.2.1
       clear hf
       by_cases hlt : k < s.giv.val.length
       ·obtain ⟨b, o, hA, hb, hc⟩ := HRV.out k (encGive s.giv.val[k]) (by simp [hlt])
        replace hc := fun j v hv => (only_cell hon (p := ⟨b, o + k * 11 + j, none⟩) (by simp; omega) (by simp; omega)).trans ((HW0.out.cell (p := ⟨b, o + k * 11 + j, none⟩) hb).trans (hc j v hv))
        have e0 := hc 0 _ rfl
        have e1 := hc 1 _ rfl
        have e2 := hc 2 _ rfl
        have e3 := hc 3 _ rfl
        have e4 := hc 4 _ rfl
        have e5 := hc 5 _ rfl
        have e6 := hc 6 _ rfl
        have e7 := hc 7 _ rfl
        have e8 := hc 8 _ rfl
        have e9 := hc 9 _ rfl
        have e10 := hc 10 _ rfl
        simp only [Nat.add_zero] at e0
        rw [hA] at y
        have hbw : b < wr.heap.size := by omega
        have hbwx : b < wx.heap.size := by omega
        have hswx : w.heap.size < wx.heap.size := by omega
        have hswr : w.heap.size < wr.heap.size := by omega
        clear hc hA
        have HSN := hid (show (s.giv.val.take (k + 1)).map encGive = (s.giv.val.take k).map encGive ++ [encGive s.giv.val[k]] from map_snoc hlt encGive)
        have hzl : (s.giv.val.take k).length ≤ 70 := by rw [List.length_take]; omega
        have kl : (k : Int) < (s.giv.val.length : Int) := by omega
        have dl : decide ((k : Int) < (s.giv.val.length : Int)) = true := by simpa using hlt
        generalize s.giv.val[k] = x at *
        go_wp2_with fail
        refine wp_region_held_drew (S := (fun w' => w'.cell? ⟨w.heap.size, 7, none⟩ = some (.slice (some ⟨b, o, none⟩) s.giv.val.length s.giv.c) ∧ w'.cell? ⟨b, o + k * 11, none⟩ = some (.int .i64 x.id) ∧ w'.cell? ⟨b, o + k * 11 + 1, none⟩ = some (.int .i64 x.frm.acc) ∧ w'.cell? ⟨b, o + k * 11 + 2, none⟩ = some (.int .i64 x.frm.cli) ∧ w'.cell? ⟨b, o + k * 11 + 3, none⟩ = some (.int .i64 x.too.acc) ∧ w'.cell? ⟨b, o + k * 11 + 4, none⟩ = some (.int .i64 x.too.cli) ∧ w'.cell? ⟨b, o + k * 11 + 5, none⟩ = some (.int .i64 x.leg.inst) ∧ w'.cell? ⟨b, o + k * 11 + 6, none⟩ = some (.int .i64 x.leg.qty) ∧ w'.cell? ⟨b, o + k * 11 + 7, none⟩ = some (.int .i64 x.price) ∧ w'.cell? ⟨b, o + k * 11 + 8, none⟩ = some (.int .i64 x.group) ∧ w'.cell? ⟨b, o + k * 11 + 9, none⟩ = some (.int .i64 x.day) ∧ w'.cell? ⟨b, o + k * 11 + 10, none⟩ = some (.int .i64 x.state))) (by kernel_rfl) ?_ (fun hHeld => ?_)
        ·(exact tK)
        refine tQ 0 ?_
        refine tS ?_
        refine tQ 2 ?_
        refine tS ?_
        refine tQ 3 ?_
        refine tS ?_
        refine tQ 4 ?_
        refine tS ?_
        refine tQ 5 ?_
        refine tS ?_
        refine tQ 6 ?_
        refine tS ?_
        refine wpAnyH_ready (rs := [1, 7]) (by kernel_rfl) (by simp) ?_
        refine AllReadyH.cons rfl (fun K hK => ?_) (AllReadyH.cons rfl (fun K hK => ?_) AllReadyH.nil)
        ·(try simp only [List.getElem_toArray, List.getElem_cons_zero])
         go_simp
         (try go_wp2_with fail)
         refine hK.out _ _ ?_ (fun hHeld => ?_)
         focus ((exact tK); done)
         refine tS ?_
         refine tR (.cons (i := 7) rfl (fun K hK => ?_) .nil)
         refine tG ?_
         go_simp
         skip
         refine hK.out _ _ ?_ (fun hHeld => ?_)
         focus ((exact tK); done)
         refine tS ?_
         refine tR (.cons (i := 8) rfl (fun K hK => ?_) .nil)
         refine step_appG rfl (.tmp 124) (.tmp 130) 28 rfl elGive wx.heap.size v7 _ (by simp [Act.eval]) (HF.out.o7.keep tB) ⟨_, 0, none⟩ 1 1 (by simp [Act.eval]; rfl) [encGive (x)] rfl (rd_oneN (by simp)) (rowsGive [x]) (by rw [List.length_map]; unfold maxLen; omega) (by rw [List.length_map]; omega) (by simp; omega) ?_
         intro vn w4 hown4 hb4 hg4
         have hbk4 := blk_away HF.out.hbk (away_step tB (HF.out.o7.keep tB) hg4) (by decide)
         have q0 := hbk4.cell 7
         have z0 := hbk4.frozen 7
         (simp only [List.getElem?_toArray, List.getElem?_cons_zero, List.getElem?_cons_succ] at q0)
         obtain ⟨An, nn, cn, rfl⟩ := own_slice hown4
         have HO4 := hid hown4
         have HG4 := hid hg4
         obtain ⟨fc4, fg4, hc4, hf4, hz4⟩ := bget hb4
         (try simp at hz4)
         clear hown4 hg4 hbk4
         refine hK.out _ _ ?_ (fun hHeld => ?_)
         focus ((exact tK); done)
         refine tS ?_
         refine tQ 9 ?_
         refine tS ?_
         refine tR (.cons (i := 10) rfl (fun K hK => ?_) .nil)
         refine tG ?_
         go_simp
         skip
         refine hK.out _ _ ?_ (fun hHeld => ?_)
         focus ((exact tK); done)
         refine tS ?_
         refine wpAnyH_done (by kernel_rfl) ?_ _
         go_wp2_with fail
         go_roundw
         case rel => exact ⟨k + 1, by omega, by go_num, only_step HON.out tB (HF.out.o7.keep tB) HG4.out 7 _, v1, v2, v3, v4, v6, _, HF.out.giv tB HG4.out (by rw [HSN.out]; exact HO4.out)⟩
         case measure => simp [intOf]; omega
        ·refine tG ?_
         go_simp
         skip
         refine hK.out _ _ ?_ (fun hHeld => ?_)
         focus ((exact tK); done)
         refine tS ?_
         refine tR (.cons (i := 1) rfl (fun K hK => ?_) .nil)
         (try simp only [List.getElem_toArray, List.getElem_cons_zero])
         go_simp
         (try go_wp2_with fail)
         refine hK.out _ _ ?_ (fun hHeld => ?_)
         focus ((exact tK); done)
         refine tS ?_
         refine tR (.cons (i := 8) rfl (fun K hK => ?_) .nil)
         refine step_appG rfl (.tmp 124) (.tmp 130) 28 rfl elGive wx.heap.size v7 _ (by simp [Act.eval]) (HF.out.o7.keep tB) ⟨_, 0, none⟩ 1 1 (by simp [Act.eval]; rfl) [encGive (x)] rfl (rd_oneN (by simp)) (rowsGive [x]) (by rw [List.length_map]; unfold maxLen; omega) (by rw [List.length_map]; omega) (by simp; omega) ?_
         intro vn w4 hown4 hb4 hg4
         have hbk4 := blk_away HF.out.hbk (away_step tB (HF.out.o7.keep tB) hg4) (by decide)
         have q0 := hbk4.cell 7
         have z0 := hbk4.frozen 7
         (simp only [List.getElem?_toArray, List.getElem?_cons_zero, List.getElem?_cons_succ] at q0)
         obtain ⟨An, nn, cn, rfl⟩ := own_slice hown4
         have HO4 := hid hown4
         have HG4 := hid hg4
         obtain ⟨fc4, fg4, hc4, hf4, hz4⟩ := bget hb4
         (try simp at hz4)
         clear hown4 hg4 hbk4
         refine hK.out _ _ ?_ (fun hHeld => ?_)
         focus ((exact tK); done)
         refine tS ?_
         refine tQ 9 ?_
         refine tS ?_
         refine tR (.cons (i := 10) rfl (fun K hK => ?_) .nil)
         refine tG ?_
         go_simp
         skip
         refine hK.out _ _ ?_ (fun hHeld => ?_)
         focus ((exact tK); done)
         refine tS ?_
         refine wpAnyH_done (by kernel_rfl) ?_ _
         go_wp2_with fail
         go_roundw
         case rel => exact ⟨k + 1, by omega, by go_num, only_step HON.out tB (HF.out.o7.keep tB) HG4.out 7 _, v1, v2, v3, v4, v6, _, HF.out.giv tB HG4.out (by rw [HSN.out]; exact HO4.out)⟩
         case measure => simp [intOf]; omega
       ·have HT := hid (show (s.giv.val).take (k + 1) = (s.giv.val).take k from by rw [List.take_of_length_le (show (s.giv.val).length ≤ k + 1 by omega), List.take_of_length_le (show (s.giv.val).length ≤ k by omega)])
        have dl : decide ((k : Int) < ((s.giv.val).length : Int)) = false := by simpa using hlt
        go_wp2_with fail
        go_roundw
        case rel => exact ⟨k + 1, by omega, by go_num, HON.out, v1, v2, v3, v4, v6, v7, (by rw [HT.out]; exact HF.out)⟩
        case measure => simp [intOf]; omega
     ·have d70 : decide ((k : Int) < 70) = false := by simp; omega
      have hk70 : k = 70 := by omega
      subst hk70
      obtain ⟨hon, v1, v2, v3, v4, v6, v7, hf⟩ := hfl
      have HON := hid hon
      have hwz := hon.size
      obtain ⟨LMM, hLMM⟩ : ∃ L, L = s.mem.val.take 20 := ⟨_, rfl⟩
      rw [← hLMM] at hf
      have HLMM := hid hLMM
      obtain ⟨LII, hLII⟩ : ∃ L, L = (s.ins.val.take 20).map cut12 := ⟨_, rfl⟩
      rw [← hLII] at hf
      have HLII := hid hLII
      obtain ⟨LTT, hLTT⟩ : ∃ L, L = s.ats.val.take 20 := ⟨_, rfl⟩
      rw [← hLTT] at hf
      have HLTT := hid hLTT
      obtain ⟨LCC, hLCC⟩ : ∃ L, L = (s.acs.val.take 20).map shortN := ⟨_, rfl⟩
      rw [← hLCC] at hf
      have HLCC := hid hLCC
      obtain ⟨LGG, hLGG⟩ : ∃ L, L = s.grp.val.take 70 := ⟨_, rfl⟩
      rw [← hLGG] at hf
      have HLGG := hid hLGG
      obtain ⟨LVV, hLVV⟩ : ∃ L, L = s.giv.val.take 70 := ⟨_, rfl⟩
      rw [← hLVV] at hf
      have HLVV := hid hLVV
      obtain ⟨B1, d1, hv1, _, _⟩ := hf.o1.rs
      rw [List.length_map] at hv1
      subst hv1
      obtain ⟨B2, d2, hv2, _, _⟩ := hf.o2.rs
      rw [List.length_map] at hv2
      subst hv2
      obtain ⟨B3, d3, hv3, _, _⟩ := hf.o3.rs
      rw [List.length_map] at hv3
      subst hv3
      obtain ⟨B4, d4, hv4, _, _⟩ := hf.o4.rs
      rw [List.length_map] at hv4
      subst hv4
      obtain ⟨B6, d6, hv6, _, _⟩ := hf.o6.rs
      rw [List.length_map] at hv6
      subst hv6
      obtain ⟨B7, d7, hv7, _, _⟩ := hf.o7.rs
      rw [List.length_map] at hv7
      subst hv7
      have HF := hid hf
      have hrb : Blk wr (w.heap.size + 1) 33 #[.int .i64 0, .slice none 0 0, .slice none 0 0, .slice none 0 0, .slice none 0 0, .slice none 0 0, .slice none 0 0, .slice none 0 0, .slice none 0 0, .slice none 0 0, .slice none 0 0, .slice none 0 0] := (hon.block _ (by omega) (by omega)).trans HRB.out
      have HRR := hid hrb
      have b0 := (hf.hbk).cell 0; have b1 := (hf.hbk).cell 1; have b2 := (hf.hbk).cell 2; have b3 := (hf.hbk).cell 3; have b4 := (hf.hbk).cell 4; have b5 := (hf.hbk).cell 5; have b6 := (hf.hbk).cell 6; have b7 := (hf.hbk).cell 7; have b8 := (hf.hbk).cell 8; have b9 := (hf.hbk).cell 9; have b10 := (hf.hbk).cell 10; have b11 := (hf.hbk).cell 11; (simp only [List.getElem?_toArray, List.getElem?_cons_zero, List.getElem?_cons_succ] at b0 b1 b2 b3 b4 b5 b6 b7 b8 b9 b10 b11)
      have r0 := (hrb).cell 0; have r1 := (hrb).cell 1; have r2 := (hrb).cell 2; have r3 := (hrb).cell 3; have r4 := (hrb).cell 4; have r5 := (hrb).cell 5; have r6 := (hrb).cell 6; have r7 := (hrb).cell 7; have r8 := (hrb).cell 8; have r9 := (hrb).cell 9; have r10 := (hrb).cell 10; have r11 := (hrb).cell 11; (simp only [List.getElem?_toArray, List.getElem?_cons_zero, List.getElem?_cons_succ] at r0 r1 r2 r3 r4 r5 r6 r7 r8 r9 r10 r11)
      have hfz := hrb.frozen
      clear hf hrb hon hLMM hLII hLTT hLCC hLGG hLVV
      go_wp2_with fail
      refine bodyPost_ret (v := .agg #[.int .i64 s.day, .slice B1 LMM.length d1, .slice B2 LII.length d2, .slice B3 LTT.length d3, .slice B4 LCC.length d4, .slice s.cho.A LC.length s.cho.c, .slice B6 LGG.length d6, .slice B7 LVV.length d7, .slice A2 LB.length c2, .slice A3 LS.length c3, .slice s.pu.A LP.length s.pu.c, .slice A5 LH.length c5]) (by simp [results, Tryz.results5, go_sem, r0, r1, r2, r3, r4, r5, r6, r7, r8, r9, r10, r11]; try rfl) rfl ⟨⟨s.day, ⟨B1, d1, LMM⟩, ⟨B2, d2, LII⟩, ⟨B3, d3, LTT⟩, ⟨B4, d4, LCC⟩, ⟨s.cho.A, s.cho.c, LC⟩, ⟨B6, d6, LGG⟩, ⟨B7, d7, LVV⟩, ⟨A2, c2, LB⟩, ⟨A3, c3, LS⟩, ⟨s.pu.A, s.pu.c, LP⟩, ⟨A5, c5, LH⟩⟩, rfl, ?_, ?_⟩
      ·have o2 := (HO2.out.away (Away.only HON.out ⟨_, _, HBK.out⟩) (by decide)).mono (b := w.heap.size) (by omega)
       have o3 := (HO3.out.away (Away.only HON.out ⟨_, _, HBK.out⟩) (by decide)).mono (b := w.heap.size) (by omega)
       have o5 := (HO5.out.away (Away.only HON.out ⟨_, _, HBK.out⟩) (by decide)).mono (b := w.heap.size) (by omega)
       have p1 := HF.out.o1.mono (b := w.heap.size) (by omega)
       have p2 := HF.out.o2.mono (b := w.heap.size) (by omega)
       have p3 := HF.out.o3.mono (b := w.heap.size) (by omega)
       have p4 := HF.out.o4.mono (b := w.heap.size) (by omega)
       have p6 := HF.out.o6.mono (b := w.heap.size) (by omega)
       have p7 := HF.out.o7.mono (b := w.heap.size) (by omega)
       have eLMM := HLMM.out
       have eLII := HLII.out
       have eLTT := HLTT.out
       have eLCC := HLCC.out
       have eLGG := HLGG.out
       have eLVV := HLVV.out
       have eLB := HLB.out
       have eLS := HLS.out
       have eLH := HLH.out
       have eLC := HLC.out
       have eLP := HLP.out
       clear HLMM HLII HLTT HLCC HLGG HLVV HLB HLS HLH HLC HLP HF HO2 HO3 HO5 HON b0 b1 b2 b3 b4 b5 b6 b7 b8 b9 b10 b11 r0 r1 r2 r3 r4 r5 r6 r7 r8 r9 r10 r11
       subst eLMM eLII eLTT eLCC eLGG eLVV eLB eLS eLH eLC eLP
       exact few_of HS.out rfl HRR.out p1 p2 p3 p4 p6 p7 o2 o3 o5
      ·have h1 := below_only HWW.out HON.out (by omega) (by omega)
       exact tB
end Go.Proofs.YtalgfpegaobacaaGreatDoor
