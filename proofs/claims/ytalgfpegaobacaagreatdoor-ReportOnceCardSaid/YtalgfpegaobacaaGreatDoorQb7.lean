/- Joined. -/
import Derived.Test.YtalgfpegaobacaaGreatDoorQb5
import Derived.Test.YtalgfpegaobacaaGreatDoorQb6
namespace Go.Proofs.YtalgfpegaobacaaGreatDoor
set_option linter.all false
set_option maxHeartbeats 64000000
set_option maxRecDepth 100000
open Go.RowKit
open Lib (hid)
def LedPost (s : StV) (w : World) (e : Ending) (w' : World) : Prop := ∃ b, e = .returned (.bool b) ∧ (b = true → LedOk s) ∧ Below w.heap.size w w'
theorem ref33Is (s : StV) (w : World) (hs : LedSt w s) :
  Calls Tryz.prog 6 #[.agg #[.int .i64 (s).day, .slice (s).mem.A (s).mem.val.length (s).mem.c, .slice (s).ins.A (s).ins.val.length (s).ins.c, .slice (s).ats.A (s).ats.val.length (s).ats.c, .slice (s).acs.A (s).acs.val.length (s).acs.c, .slice (s).cho.A (s).cho.val.length (s).cho.c, .slice (s).grp.A (s).grp.val.length (s).grp.c, .slice (s).giv.A (s).giv.val.length (s).giv.c, .slice (s).bk.A (s).bk.val.length (s).bk.c, .slice (s).sale.A (s).sale.val.length (s).sale.c, .slice (s).pu.A (s).pu.val.length (s).pu.c, .slice (s).ho.A (s).ho.val.length (s).ho.c]] w fun e w' => LedPost s w e w' := by
 have CT := hid (fun W (h : Below w.heap.size w W) => ref33Tables s W (hs.keep h) (fun W' h' => ref16IsW s.cho.val s.cho.A s.cho.c W' (by have := hs.lch; omega) ((hs.keep h).rch.rd.keep h')))
 have CD := hid (fun W (h : Below w.heap.size w W) => ref33Deals s W (hs.keep h))
 have CB := hid (fun W (h : Below w.heap.size w W) => ref33Book s s.bk.val s.bk.A s.bk.c W (hs.keep h) (show s.bk.val.length ≤ 1000 from hs.side.lb) ((show Rd w s.bk.A 3 (s.bk.val.map encPosV) from hs.side.rb).keep h) (fun x hx => ⟨(hs.side.gb x hx).keep h, (hs.lb x hx).1⟩))
 have CS := hid (fun W (h : Below w.heap.size w W) => ref33Book s s.sale.val s.sale.A s.sale.c W (hs.keep h) hs.ls (hs.rs.keep h) (fun x hx => ⟨(hs.gs x hx).keep h, (hs.lsl x hx).1⟩))
 have CP := hid (fun W (h : Below w.heap.size w W) => ref17Is s.pu.val s.pu.A s.pu.c W (by have h1 : s.pu.val.length ≤ 300 := hs.side.lp; omega) ((show Rd w s.pu.A 3 (s.pu.val.map encFlow) from hs.side.rp.rd).keep h))
 have CH := hid (fun W (h : Below w.heap.size w W) => refHoldVIs s.ho.val s.ho.A s.ho.c W (by have h1 : s.ho.val.length ≤ 1000 := hs.side.lh; omega) ((show Rd w s.ho.A 3 (s.ho.val.map encHoldV) from hs.side.rh.rd).keep h) (fun x hx => (hs.side.gh x hx).keep h))
 have CO := hid (fun u W (h : Below w.heap.size w W) => ref33Owner s u W (hs.keep h))
 have CF := hid (fun id W (h : Below w.heap.size w W) => ref12Find s.ats.val id s.ats.A s.ats.c W (by have h1 : s.ats.val.length ≤ 1000 := hs.side.la; omega) ((show Rd w s.ats.A 3 (s.ats.val.map encAsset) from hs.side.ra).keep h))
 have HRP := hid (show Rd w s.pu.A 3 (s.pu.val.map encFlow) from hs.side.rp.rd)
 have HRH := hid (show Rd w s.ho.A 3 (s.ho.val.map encHoldV) from hs.side.rh.rd)
 have HGH := hid (show ∀ x ∈ s.ho.val, GoodHoldV w x from hs.side.gh)
 have HLH := hid hs.lh
 have lp : s.pu.val.length ≤ 300 := hs.side.lp
 have lh : s.ho.val.length ≤ 1000 := hs.side.lh
 have la : s.ats.val.length ≤ 1000 := hs.side.la
 clear hs
 have HIH := hid (show isHoldV s.ho.val = true → isHoldV s.ho.val = true from id)
 go_enter Tryz.func6, Tryz.ntmps6
 go_wp2_with (first | (go_at_call 20; (with_reducible refine (CT.out _ tB).mono ?_); rintro e w1 ⟨b1, rfl, hT, hb1⟩; have HTT := hid hT; clear hT; obtain ⟨fc1, fg1, hc1, hf1, hz1⟩ := bget hb1; (try simp at hz1)) | (go_at_call 21; (with_reducible refine (CD.out _ tB).mono ?_); rintro e w2 ⟨⟨b2, rfl⟩, hb2⟩; obtain ⟨fc2, fg2, hc2, hf2, hz2⟩ := bget hb2; (try simp at hz2)) | (go_at_call 22; (with_reducible refine (CB.out _ tB).mono ?_); rintro e w3 ⟨b3, rfl, hB, hb3⟩; have HBB := hid hB; clear hB; obtain ⟨fc3, fg3, hc3, hf3, hz3⟩ := bget hb3; (try simp at hz3)) | (go_at_call 22; (with_reducible refine (CS.out _ tB).mono ?_); rintro e w4 ⟨b4, rfl, hB, hb4⟩; have HBS := hid hB; clear hB; obtain ⟨fc4, fg4, hc4, hf4, hz4⟩ := bget hb4; (try simp at hz4)) | (go_at_call 23; (with_reducible refine cM (CP.out _ tB) fun w5 hb5 fc5 fg5 hc5 hf5 hz5 => ?_); (try simp at hz5)) | (go_at_call 24; (with_reducible refine cM (CH.out _ tB) fun w6 hb6 fc6 fg6 hc6 hf6 hz6 => ?_); (try simp at hz6)) | fail)
 all_goals first
  | (go_ret; exact ⟨_, rfl, (fun h => by cases h), tB⟩)
  | skip
 have hH : isHoldV s.ho.val = true := by
  have h : (0 ≤ s.day ∧ s.day ≤ 1048576) ∧ (!isHoldV s.ho.val) = false := by assumption
  simpa using h.2
 have e1 : b1 = true := by assumption
 have e3 : b3 = true := by assumption
 have e4 : b4 = true := by assumption
 have e2 : b2 = true := by assumption
 have e5 : isPu s.pu.val = true := by assumption
 have HOK := hid (show LedOk s from ⟨(HTT.out e1).1, (HTT.out e1).2.1, (HTT.out e1).2.2, HBB.out e3, HBS.out e4, hH⟩)
 have HSB := hid (show ((w6).cell? ⟨w.heap.size, 0, none⟩ = some (.int .i64 (s).day) ∧ (w6).cell? ⟨w.heap.size, 1, none⟩ = some (.slice (s).mem.A (s).mem.val.length (s).mem.c) ∧ (w6).cell? ⟨w.heap.size, 2, none⟩ = some (.slice (s).ins.A (s).ins.val.length (s).ins.c) ∧ (w6).cell? ⟨w.heap.size, 3, none⟩ = some (.slice (s).ats.A (s).ats.val.length (s).ats.c) ∧ (w6).cell? ⟨w.heap.size, 4, none⟩ = some (.slice (s).acs.A (s).acs.val.length (s).acs.c) ∧ (w6).cell? ⟨w.heap.size, 5, none⟩ = some (.slice (s).cho.A (s).cho.val.length (s).cho.c) ∧ (w6).cell? ⟨w.heap.size, 6, none⟩ = some (.slice (s).grp.A (s).grp.val.length (s).grp.c) ∧ (w6).cell? ⟨w.heap.size, 7, none⟩ = some (.slice (s).giv.A (s).giv.val.length (s).giv.c) ∧ (w6).cell? ⟨w.heap.size, 8, none⟩ = some (.slice (s).bk.A (s).bk.val.length (s).bk.c) ∧ (w6).cell? ⟨w.heap.size, 9, none⟩ = some (.slice (s).sale.A (s).sale.val.length (s).sale.c) ∧ (w6).cell? ⟨w.heap.size, 10, none⟩ = some (.slice (s).pu.A (s).pu.val.length (s).pu.c) ∧ (w6).cell? ⟨w.heap.size, 11, none⟩ = some (.slice (s).ho.A (s).ho.val.length (s).ho.c)) from st_keep (st_box (w := w)) (show Below (w.alloc (.cells #[.int .i64 (s).day, .slice (s).mem.A (s).mem.val.length (s).mem.c, .slice (s).ins.A (s).ins.val.length (s).ins.c, .slice (s).ats.A (s).ats.val.length (s).ats.c, .slice (s).acs.A (s).acs.val.length (s).acs.c, .slice (s).cho.A (s).cho.val.length (s).cho.c, .slice (s).grp.A (s).grp.val.length (s).grp.c, .slice (s).giv.A (s).giv.val.length (s).giv.c, .slice (s).bk.A (s).bk.val.length (s).bk.c, .slice (s).sale.A (s).sale.val.length (s).sale.c, .slice (s).pu.A (s).pu.val.length (s).pu.c, .slice (s).ho.A (s).ho.val.length (s).ho.c] 33)).heap.size (w.alloc (.cells #[.int .i64 (s).day, .slice (s).mem.A (s).mem.val.length (s).mem.c, .slice (s).ins.A (s).ins.val.length (s).ins.c, .slice (s).ats.A (s).ats.val.length (s).ats.c, .slice (s).acs.A (s).acs.val.length (s).acs.c, .slice (s).cho.A (s).cho.val.length (s).cho.c, .slice (s).grp.A (s).grp.val.length (s).grp.c, .slice (s).giv.A (s).giv.val.length (s).giv.c, .slice (s).bk.A (s).bk.val.length (s).bk.c, .slice (s).sale.A (s).sale.val.length (s).sale.c, .slice (s).pu.A (s).pu.val.length (s).pu.c, .slice (s).ho.A (s).ho.val.length (s).ho.c] 33)) w6 by exact tB) (by simp))
 have HW1 := hid (show Below w.heap.size w w6 by exact tB)
 have hgs : w.heap.size < w6.heap.size := by omega
 clear hc1 hc2 hc3 hc4 hc5 hc6 hf1 hf2 hf3 hf4 hf5 hf6 hb1 hb2 hb3 hb4 hb5 hb6 HTT HBB HBS HIH CT CD CB CS CP CH
 generalize isHoldV s.ho.val = hv at *
 generalize isPu s.pu.val = pv at *
 subst e1 e2 e3 e4 e5 hH
 go_wp2_with fail
 go_loopw [3] (fun i wr => ∃ k : Nat, k ≤ s.pu.val.length ∧ i = .int .i64 k ∧ Below w6.heap.size w6 wr) (fun i _ => s.pu.val.length - (intOf i).toNat)
 case atStart => exact ⟨0, Nat.zero_le _, rfl, Below.refl _ _⟩
 case round =>
  obtain ⟨k, hk, rfl, hbl⟩ := hrel
  have Hbl := hid hbl
  have hz := hbl.size
  have HW := hid (HW1.out.trans (hbl.mono (by omega)))
  clear hbl
  obtain ⟨y0, y1, y2, y3, y4, y5, y6, y7, y8, y9, y10, y11⟩ := st_keep HSB.out Hbl.out hgs
  have hgw : w.heap.size < wr.heap.size := by omega
  by_cases hlt : k < s.pu.val.length
  ·have kl : (k : Int) < (s.pu.val.length : Int) := by omega
   have dl : decide ((k : Int) < (s.pu.val.length : Int)) = true := by simpa using hlt
   obtain ⟨b, o, hA, hb, hc⟩ := HRP.out k (encFlow s.pu.val[k]) (by simp [hlt])
   have f0 := tC HW hb (hc 0 _ rfl)
   have f1 := tC HW hb (hc 1 _ rfl)
   simp only [Nat.add_zero] at f0
   have co := CO.out s.pu.val[k].unit
   rw [hA] at y10 co
   have hbw : b < wr.heap.size := by omega
   clear hc hA
   generalize s.pu.val[k] = x at *
   generalize ownS s.acs.val x.unit = ow at *
   have COX := hid co
   clear co
   cases ow
   ·go_wp2_with fail
    go_region_held3 (fun w' => (w'.cell? ⟨w.heap.size, 0, none⟩ = some (.int .i64 s.day) ∧ w'.cell? ⟨w.heap.size, 1, none⟩ = some (.slice s.mem.A s.mem.val.length s.mem.c) ∧ w'.cell? ⟨w.heap.size, 2, none⟩ = some (.slice s.ins.A s.ins.val.length s.ins.c) ∧ w'.cell? ⟨w.heap.size, 3, none⟩ = some (.slice s.ats.A s.ats.val.length s.ats.c) ∧ w'.cell? ⟨w.heap.size, 4, none⟩ = some (.slice s.acs.A s.acs.val.length s.acs.c) ∧ w'.cell? ⟨w.heap.size, 5, none⟩ = some (.slice s.cho.A s.cho.val.length s.cho.c) ∧ w'.cell? ⟨w.heap.size, 6, none⟩ = some (.slice s.grp.A s.grp.val.length s.grp.c) ∧ w'.cell? ⟨w.heap.size, 7, none⟩ = some (.slice s.giv.A s.giv.val.length s.giv.c) ∧ w'.cell? ⟨w.heap.size, 8, none⟩ = some (.slice s.bk.A s.bk.val.length s.bk.c) ∧ w'.cell? ⟨w.heap.size, 9, none⟩ = some (.slice s.sale.A s.sale.val.length s.sale.c) ∧ w'.cell? ⟨w.heap.size, 10, none⟩ = some (.slice (some ⟨b, o, none⟩) s.pu.val.length s.pu.c) ∧ w'.cell? ⟨w.heap.size, 11, none⟩ = some (.slice s.ho.A s.ho.val.length s.ho.c)) ∧ w'.cell? ⟨b, o + k * 3, none⟩ = some (.int .i64 x.unit.acc) ∧ w'.cell? ⟨b, o + k * 3 + 1, none⟩ = some (.int .i64 x.unit.cli)) (exact tK) (first | (go_at_call 25; (with_reducible refine cM (COX.out _ (by have h := HW.out; exact tB)) fun w7 hb7 fc7 fg7 hc7 hf7 hz7 => ?_); (try simp at hz7)) | fail)
    all_goals
     go_wp2_with fail
     go_ret
     exact ⟨_, rfl, (fun h => by cases h), by have h := HW.out; exact tB⟩
   ·go_wp2_with fail
    go_region_held3 (fun w' => (w'.cell? ⟨w.heap.size, 0, none⟩ = some (.int .i64 s.day) ∧ w'.cell? ⟨w.heap.size, 1, none⟩ = some (.slice s.mem.A s.mem.val.length s.mem.c) ∧ w'.cell? ⟨w.heap.size, 2, none⟩ = some (.slice s.ins.A s.ins.val.length s.ins.c) ∧ w'.cell? ⟨w.heap.size, 3, none⟩ = some (.slice s.ats.A s.ats.val.length s.ats.c) ∧ w'.cell? ⟨w.heap.size, 4, none⟩ = some (.slice s.acs.A s.acs.val.length s.acs.c) ∧ w'.cell? ⟨w.heap.size, 5, none⟩ = some (.slice s.cho.A s.cho.val.length s.cho.c) ∧ w'.cell? ⟨w.heap.size, 6, none⟩ = some (.slice s.grp.A s.grp.val.length s.grp.c) ∧ w'.cell? ⟨w.heap.size, 7, none⟩ = some (.slice s.giv.A s.giv.val.length s.giv.c) ∧ w'.cell? ⟨w.heap.size, 8, none⟩ = some (.slice s.bk.A s.bk.val.length s.bk.c) ∧ w'.cell? ⟨w.heap.size, 9, none⟩ = some (.slice s.sale.A s.sale.val.length s.sale.c) ∧ w'.cell? ⟨w.heap.size, 10, none⟩ = some (.slice (some ⟨b, o, none⟩) s.pu.val.length s.pu.c) ∧ w'.cell? ⟨w.heap.size, 11, none⟩ = some (.slice s.ho.A s.ho.val.length s.ho.c)) ∧ w'.cell? ⟨b, o + k * 3, none⟩ = some (.int .i64 x.unit.acc) ∧ w'.cell? ⟨b, o + k * 3 + 1, none⟩ = some (.int .i64 x.unit.cli)) (exact tK) (first | (go_at_call 25; (with_reducible refine cM (COX.out _ (by have h := HW.out; exact tB)) fun w7 hb7 fc7 fg7 hc7 hf7 hz7 => ?_); (try simp at hz7)) | fail)
    all_goals
     go_wp2_with fail
     go_roundw
     case rel => exact ⟨k + 1, by omega, by go_num, by have h := Hbl.out; exact tB⟩
     case measure => simp [intOf]; omega
  ·have dl : decide ((k : Int) < (s.pu.val.length : Int)) = false := by simpa using hlt
   have HB1 := Hbl
   go_wp2_with fail
   clear Hbl HW hlt dl hk hz hgw y0 y1 y2 y3 y4 y5 y6 y7 y8 y9 y10 y11
   go_loopw [4] (fun i wr => ∃ k : Nat, k ≤ s.ho.val.length ∧ i = .int .i64 k ∧ Below w6.heap.size w6 wr) (fun i _ => s.ho.val.length - (intOf i).toNat)
   case atStart => exact ⟨0, Nat.zero_le _, rfl, HB1.out⟩
   case round =>
    obtain ⟨k, hk, rfl, hbl⟩ := hrel
    have Hbl := hid hbl
    have hz := hbl.size
    have HW := hid (HW1.out.trans (hbl.mono (by omega)))
    clear hbl
    obtain ⟨y0, y1, y2, y3, y4, y5, y6, y7, y8, y9, y10, y11⟩ := st_keep HSB.out Hbl.out hgs
    have hgw : w.heap.size < wr.heap.size := by omega
    by_cases hlt : k < s.ho.val.length
    ·have kl : (k : Int) < (s.ho.val.length : Int) := by omega
     have dl : decide ((k : Int) < (s.ho.val.length : Int)) = true := by simpa using hlt
     obtain ⟨b, o, hA, hb, hc⟩ := HRH.out k (encHoldV s.ho.val[k]) (by simp [hlt])
     have HRC := hid (And.intro (hc 0 _ rfl) (And.intro (hc 1 _ rfl) (hc 2 _ rfl)))
     simp only [Nat.add_zero] at HRC
     clear hc
     have hgx := HGH.out s.ho.val[k] (List.getElem_mem hlt)
     have hlx := (HLH.out s.ho.val[k] (List.getElem_mem hlt)).1
     have co := CO.out s.ho.val[k].unit
     rw [hA] at y11 co
     have HAA := hid hA
     clear hA
     have hbw : b < wr.heap.size := by omega
     generalize s.ho.val[k] = x at *
     have f0 := (HW.out.cell (p := ⟨b, o + k * 3, none⟩) hb).trans HRC.out.1
     have f1 := (HW.out.cell (p := ⟨b, o + k * 3 + 1, none⟩) hb).trans HRC.out.2.1
     generalize ownS s.acs.val x.unit = ow at *
     have COX := hid co
     clear co
     cases ow
     ·go_wp2_with fail
      go_region_held3 (fun w' => (w'.cell? ⟨w.heap.size, 0, none⟩ = some (.int .i64 s.day) ∧ w'.cell? ⟨w.heap.size, 1, none⟩ = some (.slice s.mem.A s.mem.val.length s.mem.c) ∧ w'.cell? ⟨w.heap.size, 2, none⟩ = some (.slice s.ins.A s.ins.val.length s.ins.c) ∧ w'.cell? ⟨w.heap.size, 3, none⟩ = some (.slice s.ats.A s.ats.val.length s.ats.c) ∧ w'.cell? ⟨w.heap.size, 4, none⟩ = some (.slice s.acs.A s.acs.val.length s.acs.c) ∧ w'.cell? ⟨w.heap.size, 5, none⟩ = some (.slice s.cho.A s.cho.val.length s.cho.c) ∧ w'.cell? ⟨w.heap.size, 6, none⟩ = some (.slice s.grp.A s.grp.val.length s.grp.c) ∧ w'.cell? ⟨w.heap.size, 7, none⟩ = some (.slice s.giv.A s.giv.val.length s.giv.c) ∧ w'.cell? ⟨w.heap.size, 8, none⟩ = some (.slice s.bk.A s.bk.val.length s.bk.c) ∧ w'.cell? ⟨w.heap.size, 9, none⟩ = some (.slice s.sale.A s.sale.val.length s.sale.c) ∧ w'.cell? ⟨w.heap.size, 10, none⟩ = some (.slice s.pu.A s.pu.val.length s.pu.c) ∧ w'.cell? ⟨w.heap.size, 11, none⟩ = some (.slice (some ⟨b, o, none⟩) s.ho.val.length s.ho.c)) ∧ w'.cell? ⟨b, o + k * 3, none⟩ = some (.int .i64 x.unit.acc) ∧ w'.cell? ⟨b, o + k * 3 + 1, none⟩ = some (.int .i64 x.unit.cli)) (exact tK) (first | (go_at_call 25; (with_reducible refine cM (COX.out _ (by have h := HW.out; exact tB)) fun w7 hb7 fc7 fg7 hc7 hf7 hz7 => ?_); (try simp at hz7)) | fail)
      all_goals
       go_wp2_with fail
       go_ret
       exact ⟨_, rfl, (fun h => by cases h), by have h := HW.out; exact tB⟩
     ·go_wp2_with fail
      go_region_held3 (fun w' => (w'.cell? ⟨w.heap.size, 0, none⟩ = some (.int .i64 s.day) ∧ w'.cell? ⟨w.heap.size, 1, none⟩ = some (.slice s.mem.A s.mem.val.length s.mem.c) ∧ w'.cell? ⟨w.heap.size, 2, none⟩ = some (.slice s.ins.A s.ins.val.length s.ins.c) ∧ w'.cell? ⟨w.heap.size, 3, none⟩ = some (.slice s.ats.A s.ats.val.length s.ats.c) ∧ w'.cell? ⟨w.heap.size, 4, none⟩ = some (.slice s.acs.A s.acs.val.length s.acs.c) ∧ w'.cell? ⟨w.heap.size, 5, none⟩ = some (.slice s.cho.A s.cho.val.length s.cho.c) ∧ w'.cell? ⟨w.heap.size, 6, none⟩ = some (.slice s.grp.A s.grp.val.length s.grp.c) ∧ w'.cell? ⟨w.heap.size, 7, none⟩ = some (.slice s.giv.A s.giv.val.length s.giv.c) ∧ w'.cell? ⟨w.heap.size, 8, none⟩ = some (.slice s.bk.A s.bk.val.length s.bk.c) ∧ w'.cell? ⟨w.heap.size, 9, none⟩ = some (.slice s.sale.A s.sale.val.length s.sale.c) ∧ w'.cell? ⟨w.heap.size, 10, none⟩ = some (.slice s.pu.A s.pu.val.length s.pu.c) ∧ w'.cell? ⟨w.heap.size, 11, none⟩ = some (.slice (some ⟨b, o, none⟩) s.ho.val.length s.ho.c)) ∧ w'.cell? ⟨b, o + k * 3, none⟩ = some (.int .i64 x.unit.acc) ∧ w'.cell? ⟨b, o + k * 3 + 1, none⟩ = some (.int .i64 x.unit.cli)) (exact tK) (first | (go_at_call 25; (with_reducible refine cM (COX.out _ (by have h := HW.out; exact tB)) fun w7 hb7 fc7 fg7 hc7 hf7 hz7 => ?_); (try simp at hz7)) | fail)
      have H7 := hid (show Below w6.heap.size w6 w7 by have h := Hbl.out; exact tB)
      clear hc7 hf7 hb7 f0 f1 y0 y1 y2 y3 y4 y5 y6 y7 y8 y9 y10 y11
      go_wp2_with fail
      go_loopw [5] (fun i wr => ∃ j : Nat, j ≤ x.lots.val.length ∧ i = .int .i64 j ∧ Below w6.heap.size w6 wr) (fun i _ => x.lots.val.length - (intOf i).toNat)
      case atStart => exact ⟨0, Nat.zero_le _, rfl, H7.out⟩
      case round =>
       obtain ⟨j, hj, rfl, hbl5⟩ := hrel
       have Hbl5 := hid hbl5
       have hz5 := hbl5.size
       have HW5 := hid (HW1.out.trans (hbl5.mono (by omega)))
       clear hbl5
       obtain ⟨y0, y1, y2, y3, y4, y5, y6, y7, y8, y9, y10, y11⟩ := st_keep HSB.out Hbl5.out hgs
       rw [HAA.out] at y11
       have f2 := (HW5.out.cell (p := ⟨b, o + k * 3 + 2, none⟩) hb).trans HRC.out.2.2
       have hbw5 : b < wr.heap.size := by omega
       have hgw5 : w.heap.size < wr.heap.size := by omega
       by_cases hlt2 : j < x.lots.val.length
       ·have kl2 : (j : Int) < (x.lots.val.length : Int) := by omega
        have dl2 : decide ((j : Int) < (x.lots.val.length : Int)) = true := by simpa using hlt2
        obtain ⟨bl, ol, hA2, hbl, hcl⟩ := hgx.2.rd j (encLot x.lots.val[j]) (by simp [hlt2])
        have l0 := (HW5.out.cell (p := ⟨bl, ol + j * 3 + 0, none⟩) (by omega)).trans (hcl 0 _ rfl)
        simp only [Nat.add_zero] at l0
        rw [hA2] at f2
        have hblw : bl < wr.heap.size := by omega
        clear hcl hA2
        generalize x.lots.val[j] = z at *
        have cf := CF.out z.asset
        generalize findAsset s.ats.val z.asset = ff at *
        obtain ⟨m, fb⟩ := ff
        have CFX := hid cf
        clear cf
        cases fb
        ·go_wp2_with fail
         go_region_held3 (fun w' => w'.cell? ⟨w.heap.size, 3, none⟩ = some (.slice s.ats.A s.ats.val.length s.ats.c) ∧ w'.cell? ⟨w.heap.size, 11, none⟩ = some (.slice (some ⟨b, o, none⟩) s.ho.val.length s.ho.c) ∧ w'.cell? ⟨b, o + k * 3 + 2, none⟩ = some (.slice (some ⟨bl, ol, none⟩) x.lots.val.length x.lots.c) ∧ w'.cell? ⟨bl, ol + j * 3, none⟩ = some (.int .i64 z.asset)) (exact tK) (first | (go_at_call 26; (with_reducible refine cM (CFX.out _ (by have h := HW5.out; exact tB)) fun w8 hb8 fc8 fg8 hc8 hf8 hz8 => ?_); (try simp at hz8)) | fail)
         all_goals
          go_wp2_with fail
          go_ret
          exact ⟨_, rfl, (fun h => by cases h), by have h := HW5.out; exact tB⟩
        ·go_wp2_with fail
         go_region_held3 (fun w' => w'.cell? ⟨w.heap.size, 3, none⟩ = some (.slice s.ats.A s.ats.val.length s.ats.c) ∧ w'.cell? ⟨w.heap.size, 11, none⟩ = some (.slice (some ⟨b, o, none⟩) s.ho.val.length s.ho.c) ∧ w'.cell? ⟨b, o + k * 3 + 2, none⟩ = some (.slice (some ⟨bl, ol, none⟩) x.lots.val.length x.lots.c) ∧ w'.cell? ⟨bl, ol + j * 3, none⟩ = some (.int .i64 z.asset)) (exact tK) (first | (go_at_call 26; (with_reducible refine cM (CFX.out _ (by have h := HW5.out; exact tB)) fun w8 hb8 fc8 fg8 hc8 hf8 hz8 => ?_); (try simp at hz8)) | fail)
         all_goals
          go_wp2_with fail
          go_roundw
          case rel => exact ⟨j + 1, by omega, by go_num, by have h := Hbl5.out; exact tB⟩
          case measure => simp [intOf]; omega
       ·have dl2 : decide ((j : Int) < (x.lots.val.length : Int)) = false := by simpa using hlt2
        go_wp2_with fail
        go_roundw
        case rel => exact ⟨k + 1, by omega, by go_num, Hbl5.out⟩
        case measure => simp [intOf]; omega
    ·have dl : decide ((k : Int) < (s.ho.val.length : Int)) = false := by simpa using hlt
     go_wp2_with fail
     go_ret
     exact ⟨_, rfl, (fun _ => HOK.out), by have h := HW.out; exact tB⟩
end Go.Proofs.YtalgfpegaobacaaGreatDoor
