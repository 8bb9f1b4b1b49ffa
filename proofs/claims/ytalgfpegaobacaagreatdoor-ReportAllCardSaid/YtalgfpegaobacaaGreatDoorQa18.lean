/- Joined. -/
import Derived.Test.YtalgfpegaobacaaGreatDoorQa17
namespace Go.Proofs.YtalgfpegaobacaaGreatDoor
set_option linter.all false
set_option maxHeartbeats 32000000
set_option maxRecDepth 100000
open Go.RowKit
open Lib (hid)
theorem cat_unit (a b : Str) : (⟨#[117, 110, 105, 116, 32]⟩ : ByteArray) ++ ⟨a.toArray⟩ ++ ⟨#[32, 99, 97, 115, 104, 32]⟩ ++ ⟨b.toArray⟩ = ⟨(lnL [wdUnit, a, wdCash, b]).toArray⟩ := by
 refine (cat_eq (cat_eq (m := [32, 99, 97, 115, 104, 32]) (cat_eq (l := [117, 110, 105, 116, 32]) rfl))).trans ?_
 simp [lnL, Lib.join, List.intercalate]
theorem cat_lot (a b c d : Str) : (⟨#[108, 111, 116, 32]⟩ : ByteArray) ++ ⟨a.toArray⟩ ++ ⟨#[32]⟩ ++ ⟨b.toArray⟩ ++ ⟨#[32]⟩ ++ ⟨c.toArray⟩ ++ ⟨#[32]⟩ ++ ⟨d.toArray⟩ = ⟨(lnL [wdLot, a, b, c, d]).toArray⟩ := by
 refine (cat_eq (cat_eq (m := [32]) (cat_eq (cat_eq (m := [32]) (cat_eq (cat_eq (m := [32]) (cat_eq (l := [108, 111, 116, 32]) rfl))))))).trans ?_
 simp [lnL, Lib.join, List.intercalate]
theorem ref36Unit (s : StV) (u : Un) (w : World) (hs : GoodSt w s) (hu : In64 u.acc ∧ In64 u.cli) :
  Calls Tryz.prog 46 #[.agg #[.int .i64 (s).day, .slice (s).mem.A (s).mem.val.length (s).mem.c, .slice (s).ins.A (s).ins.val.length (s).ins.c, .slice (s).ats.A (s).ats.val.length (s).ats.c, .slice (s).acs.A (s).acs.val.length (s).acs.c, .slice (s).cho.A (s).cho.val.length (s).cho.c, .slice (s).grp.A (s).grp.val.length (s).grp.c, .slice (s).giv.A (s).giv.val.length (s).giv.c, .slice (s).bk.A (s).bk.val.length (s).bk.c, .slice (s).sale.A (s).sale.val.length (s).sale.c, .slice (s).pu.A (s).pu.val.length (s).pu.c, .slice (s).ho.A (s).ho.val.length (s).ho.c], .agg #[.int .i64 u.acc, .int .i64 u.cli]] w fun e w' => ∃ v, e = .returned v ∧ Own w' w.heap.size 9 1 v ((unitL (repL s) u).map encStr) ∧ Below w.heap.size w w' := by
 have CP := hid (fun W => ref36Place u W hu)
 have hn64 := getPu_in hs.side.p64 u
 have CG := hid (fun W (h : Below w.heap.size w W) => ref17Get s.pu.val u s.pu.A s.pu.c W (by have : s.pu.val.length ≤ 300 := hs.side.lp; omega) (hs.side.rp.rd.keep h))
 rw [show (sideV s).pu = s.pu from rfl] at hn64
 have CL := hid (fun W => ref36Num (getPu s.pu.val u) W hn64)
 have CB := hid (fun W (h : Below w.heap.size w W) => refPosVOf s.bk.val u s.bk.A s.bk.c W (by have : s.bk.val.length ≤ 1000 := hs.side.lb; omega) (hs.side.rb.keep h) (fun x hx => (hs.side.gb x hx).keep h))
 have CS := hid (fun W (h : Below w.heap.size w W) => refPosVOf s.sale.val u s.sale.A s.sale.c W (by have := hs.ls; omega) (hs.rs.keep h) (fun x hx => (hs.gs x hx).keep h))
 have CH := hid (fun W (h : Below w.heap.size w W) => ref26OfW s.ho.val u s.ho.A s.ho.c w W (by have : s.ho.val.length ≤ 1000 := hs.side.lh; omega) (hs.side.rh.rd.keep h) hs.side.gh)
 obtain ⟨hb1, hbin⟩ := ofB_ok hs.lb u
 obtain ⟨hs1, hsin⟩ := ofB_ok hs.lsl u
 obtain ⟨ht1, htin⟩ := ofT_ok hs.lh u
 have HUL := hid (show unitL (repL s) u = lnL (unitW (getPu s.pu.val u) u) :: (legsL wdPosition u (ofK (s.bk.val.map lgPosV) u) ++ (legsL wdSale u (ofK (s.sale.val.map lgPosV) u) ++ lotsL u (ofK (s.ho.val.map lgHoldV) u))) from rfl)
 have hpl := place_le hu
 have hnl := itoa_le hn64
 have HCU0 := cat_unit (placeL u) (Lib.itoa (getPu s.pu.val u))
 generalize unitL (repL s) u = UL at *
 generalize ofK (s.bk.val.map lgPosV) u = OB at *
 generalize ofK (s.sale.val.map lgPosV) u = OS at *
 generalize ofK (s.ho.val.map lgHoldV) u = OH at *
 generalize getPu s.pu.val u = pn at *
 obtain ⟨L0, hL0⟩ : ∃ L, L = lnL (unitW pn u) := ⟨_, rfl⟩
 rw [show lnL [wdUnit, placeL u, wdCash, Lib.itoa pn] = L0 from hL0.symm] at HCU0
 have HCU := hid HCU0
 obtain ⟨L1, hL1⟩ : ∃ L, L = [L0] := ⟨_, rfl⟩
 obtain ⟨L2, hL2⟩ : ∃ L, L = L1 ++ legsL wdPosition u OB := ⟨_, rfl⟩
 obtain ⟨L3, hL3⟩ : ∃ L, L = L2 ++ legsL wdSale u OS := ⟨_, rfl⟩
 have HEND := hid (show UL = L3 ++ lotsL u OH from by rw [hL3, hL2, hL1, HUL.out, hL0]; simp)
 have l1 : L1.length ≤ 1 := by rw [hL1]; simp
 have l2 : L2.length ≤ 41 := by rw [hL2]; simp [legsL]; omega
 have l3 : L3.length ≤ 81 := by rw [hL3]; simp [legsL]; omega
 have m1 : (legsL wdPosition u OB).length ≤ 40 := by simp [legsL]; omega
 have m2 : (legsL wdSale u OS).length ≤ 40 := by simp [legsL]; omega
 have HL1 := hid hL1
 have HL2 := hid hL2
 have HL3 := hid hL3
 have CN := hid (fun n W (hn : In64 n) => ref36Num n W hn)
 clear hs hn64 hL0 hL1 hL2 hL3 HUL HCU0
 go_enter Tryz.func46, Tryz.ntmps46
 go_wp2_with fail
 obtain ⟨J0, hJ0⟩ : ∃ J, J = placeL u := ⟨_, rfl⟩
 rw [← hJ0] at CP HCU hpl
 have HJ0 := hid hJ0
 generalize Lib.itoa pn = J1 at *
 clear hJ0
 have q1 : ¬ 9223372036854775807 < 5 + J0.length := by omega
 have q2 : ¬ 9223372036854775807 < 5 + J0.length + 6 := by omega
 have q3 : ¬ 9223372036854775807 < 5 + J0.length + 6 + J1.length := by omega
 go_region_held3 (fun w' => (w'.cell? ⟨w.heap.size + 1, 0, none⟩ = some (.int .i64 u.acc) ∧ w'.cell? ⟨w.heap.size + 1, 1, none⟩ = some (.int .i64 u.cli)) ∧ w'.cell? ⟨w.heap.size, 10, none⟩ = some (.slice s.pu.A s.pu.val.length s.pu.c)) (exact tK) (first | (go_at_call 84; (with_reducible refine cM (CP.out _) fun w1 hb1 fc1 fg1 hc1 hf1 hz1 => ?_); (try simp at hz1)) | (go_at_call 85; (with_reducible refine cM (CG.out _ tB) fun w2 hb2 fc2 fg2 hc2 hf2 hz2 => ?_); (try simp at hz2)) | (go_at_call 42; (with_reducible refine cM (CL.out _) fun w3 hb3 fc3 fg3 hc3 hf3 hz3 => ?_); (try simp at hz3)) | fail)
 all_goals
  go_wp2_with fail
  rw [HCU.out]
  have y0 : (w3.alloc (.cells #[.string ⟨L0.toArray⟩] 9)).cell? ⟨w.heap.size + 1, 0, none⟩ = some (.int .i64 u.acc) := by simp [go_sem, hc3, hc2, hc1, ↓IntWalk.iteOmega]
  have y1 : (w3.alloc (.cells #[.string ⟨L0.toArray⟩] 9)).cell? ⟨w.heap.size + 1, 1, none⟩ = some (.int .i64 u.cli) := by simp [go_sem, hc3, hc2, hc1, ↓IntWalk.iteOmega]
  have y8 : (w3.alloc (.cells #[.string ⟨L0.toArray⟩] 9)).cell? ⟨w.heap.size, 8, none⟩ = some (.slice s.bk.A s.bk.val.length s.bk.c) := by simp [go_sem, hc3, hc2, hc1, ↓IntWalk.iteOmega]
  have y9 : (w3.alloc (.cells #[.string ⟨L0.toArray⟩] 9)).cell? ⟨w.heap.size, 9, none⟩ = some (.slice s.sale.A s.sale.val.length s.sale.c) := by simp [go_sem, hc3, hc2, hc1, ↓IntWalk.iteOmega]
  have y11 : (w3.alloc (.cells #[.string ⟨L0.toArray⟩] 9)).cell? ⟨w.heap.size, 11, none⟩ = some (.slice s.ho.A s.ho.val.length s.ho.c) := by simp [go_sem, hc3, hc2, hc1, ↓IntWalk.iteOmega]
  have HOW := hid (show Own (w3.alloc (.cells #[.string ⟨L0.toArray⟩] 9)) (w.heap.size + 2) 9 1 (.slice (some ⟨w3.heap.size, 0, none⟩) 1 1) (L1.map encStr) from by rw [HL1.out]; exact own_lit (by omega) (Blk.here rfl))
  have HWR := hid (show Below w.heap.size w (w3.alloc (.cells #[.string ⟨L0.toArray⟩] 9)) from by exact tB)
  have yl : w.heap.size + 1 < (w3.alloc (.cells #[.string ⟨L0.toArray⟩] 9)).heap.size := by simp; omega
  clear hc1 hf1 hb1 hc2 hf2 hb2 hc3 hf3 hb3
  generalize w3.alloc (.cells #[.string ⟨L0.toArray⟩] 9) = wr at *
  go_region_held3 (fun w' => (w'.cell? ⟨w.heap.size + 1, 0, none⟩ = some (.int .i64 u.acc) ∧ w'.cell? ⟨w.heap.size + 1, 1, none⟩ = some (.int .i64 u.cli)) ∧ w'.cell? ⟨w.heap.size, 8, none⟩ = some (.slice s.bk.A s.bk.val.length s.bk.c)) (exact tK) (first | (go_at_call 87; (with_reducible refine (CB.out _ (by have h := HWR.out; exact tB)).mono ?_); rintro e w6 ⟨A6, c6, rfl, hrs6, hb6⟩; have HS6 := hid hrs6.rd; clear hrs6; obtain ⟨fc6, fg6, hc6, hf6, hz6⟩ := bget hb6; (try simp at hz6)) | (go_at_call 86; (with_reducible refine (ref36Legs wdPosition u (OB) A6 c6 _ (by decide) hu (hbin) (by omega) (HS6.out.keep tB)).mono ?_); rintro e w7 ⟨v7, rfl, hown7, hb7⟩; obtain ⟨A7, c7, hv7, hrs7, _⟩ := hown7.rs; (rw [List.length_map] at hv7); subst hv7; have HS7 := hid hrs7; clear hown7 hrs7; obtain ⟨fc7, fg7, hc7, hf7, hz7⟩ := bget hb7; (try simp at hz7)) | (refine step_app rfl _ _ _ rfl elStr (w.heap.size + 2) _ _ rfl (HOW.out.keep tB) A7 (legsL wdPosition u (OB)).length c7 rfl ((legsL wdPosition u (OB)).map encStr) (by simp) HS7.out.nil (HS7.out.rd) (rowsStr _) (by unfold maxLen; rw [List.length_map]; omega) (by rw [List.length_map]; omega) tZ ?_; intro v8 w8 hown8 hb8; rw [← List.map_append, ← (HL2).out] at hown8; have HO8 := hid hown8; clear hown8; obtain ⟨fc8, fg8, hc8, hf8, hz8⟩ := bget hb8; (try simp at hz8)) | fail)
  all_goals
   go_wp2_with fail
   have H8 := hid (show Below (w.heap.size + 2) wr w8 from by exact tB); have z0 := (H8.out.cell (p := ⟨w.heap.size + 1, 0, none⟩) (by show w.heap.size + 1 < _; omega)).trans y0; have z1 := (H8.out.cell (p := ⟨w.heap.size + 1, 1, none⟩) (by show w.heap.size + 1 < _; omega)).trans y1; have z9 := (H8.out.cell (p := ⟨w.heap.size, 9, none⟩) (by show w.heap.size < _; omega)).trans y9; have z11 := (H8.out.cell (p := ⟨w.heap.size, 11, none⟩) (by show w.heap.size < _; omega)).trans y11; have hz8 := H8.out.size; have HB8 := hid (HWR.out.trans (H8.out.mono (by omega))); clear hc6 hf6 hb6 hc7 hf7 hb7 hc8 hf8 hb8 y0 y1 y9 y11 H8 HWR HOW
   clear y8
   (obtain ⟨wq, hwq⟩ : ∃ x, x = w8 := ⟨_, rfl⟩)
   subst hwq
   have HWR := HB8
   have HOW := HO8
   have y0 := z0
   have y1 := z1
   have y9 := z9
   have y11 := z11
   clear z0 z1 z9 z11
   have yl2 : w.heap.size + 1 < wq.heap.size := by omega
   clear yl
   have yl := yl2
   (obtain ⟨wr, hwr⟩ : ∃ x, x = wq := ⟨_, rfl⟩)
   subst hwr
   go_region_held3 (fun w' => (w'.cell? ⟨w.heap.size + 1, 0, none⟩ = some (.int .i64 u.acc) ∧ w'.cell? ⟨w.heap.size + 1, 1, none⟩ = some (.int .i64 u.cli)) ∧ w'.cell? ⟨w.heap.size, 9, none⟩ = some (.slice s.sale.A s.sale.val.length s.sale.c)) (exact tK) (first | (go_at_call 87; (with_reducible refine (CS.out _ (by have h := HWR.out; exact tB)).mono ?_); rintro e w6 ⟨A6, c6, rfl, hrs6, hb6⟩; have HS6 := hid hrs6.rd; clear hrs6; obtain ⟨fc6, fg6, hc6, hf6, hz6⟩ := bget hb6; (try simp at hz6)) | (go_at_call 86; (with_reducible refine (ref36Legs wdSale u (OS) A6 c6 _ (by decide) hu (hsin) (by omega) (HS6.out.keep tB)).mono ?_); rintro e w7 ⟨v7, rfl, hown7, hb7⟩; obtain ⟨A7, c7, hv7, hrs7, _⟩ := hown7.rs; (rw [List.length_map] at hv7); subst hv7; have HS7 := hid hrs7; clear hown7 hrs7; obtain ⟨fc7, fg7, hc7, hf7, hz7⟩ := bget hb7; (try simp at hz7)) | (refine step_app rfl _ _ _ rfl elStr (w.heap.size + 2) _ _ rfl (HOW.out.keep tB) A7 (legsL wdSale u (OS)).length c7 rfl ((legsL wdSale u (OS)).map encStr) (by simp) HS7.out.nil (HS7.out.rd) (rowsStr _) (by unfold maxLen; rw [List.length_map]; omega) (by rw [List.length_map]; omega) tZ ?_; intro v8 w8 hown8 hb8; rw [← List.map_append, ← (HL3).out] at hown8; have HO8 := hid hown8; clear hown8; obtain ⟨fc8, fg8, hc8, hf8, hz8⟩ := bget hb8; (try simp at hz8)) | fail)
   all_goals
    have H8 := hid (show Below (w.heap.size + 2) wr w8 from by exact tB); have z0 := (H8.out.cell (p := ⟨w.heap.size + 1, 0, none⟩) (by show w.heap.size + 1 < _; omega)).trans y0; have z1 := (H8.out.cell (p := ⟨w.heap.size + 1, 1, none⟩) (by show w.heap.size + 1 < _; omega)).trans y1; have z9 := (H8.out.cell (p := ⟨w.heap.size, 9, none⟩) (by show w.heap.size < _; omega)).trans y9; have z11 := (H8.out.cell (p := ⟨w.heap.size, 11, none⟩) (by show w.heap.size < _; omega)).trans y11; have hz8 := H8.out.size; have HB8 := hid (HWR.out.trans (H8.out.mono (by omega))); clear hc6 hf6 hb6 hc7 hf7 hb7 hc8 hf8 hb8 y0 y1 y9 y11 H8 HWR HOW
    (obtain ⟨wq, hwq⟩ : ∃ x, x = w8 := ⟨_, rfl⟩)
    subst hwq
    go_wp2_with (first | (go_at_call 88; (with_reducible refine (CH.out _ (by have h := HB8.out; exact tB)).mono ?_); rintro e w6 ⟨A6, c6, rfl, hrs6, hb6⟩; have HS6 := hid hrs6.rd; clear hrs6; obtain ⟨fc6, fg6, hc6, hf6, hz6⟩ := bget hb6; (try simp at hz6)) | fail)
    have HB6 := hid (show Below w.heap.size w w6 from HB8.out.trans (hb6.mono (by omega)))
    have HO6 := hid (HO8.out.keep hb6)
    have hz6 := hb6.size
    have x0 := (hb6.cell (p := ⟨w.heap.size + 1, 0, none⟩) (by show w.heap.size + 1 < _; omega)).trans z0
    have x1 := (hb6.cell (p := ⟨w.heap.size + 1, 1, none⟩) (by show w.heap.size + 1 < _; omega)).trans z1
    clear hc6 hf6 hb6 z0 z1 z9 z11 HB8 HO8
    go_loopw [5, 7] (fun v i wx => ∃ k : Nat, k ≤ OH.length ∧ i = .int .i64 k ∧ Own wx (w.heap.size + 2) 9 1 v ((L3 ++ lotsL u (OH.take k)).map encStr) ∧ Below (w.heap.size + 2) w6 wx) (fun _ i _ => OH.length - (intOf i).toNat)
    case atStart => exact ⟨0, Nat.zero_le _, rfl, by rw [List.take_zero]; show Own _ _ _ _ _ ((L3 ++ []).map encStr); rw [List.append_nil]; exact HO6.out, Below.refl _ _⟩
    case round =>
     obtain ⟨k, hk, rfl, hown, hbl⟩ := hrel
     have Hown := hid hown
     have Hbl := hid hbl
     have hzx := hbl.size
     have g0 := (hbl.cell (p := ⟨w.heap.size + 1, 0, none⟩) (by show w.heap.size + 1 < _; omega)).trans x0
     have g1 := (hbl.cell (p := ⟨w.heap.size + 1, 1, none⟩) (by show w.heap.size + 1 < _; omega)).trans x1
     clear hown hbl
     by_cases hlt : k < OH.length
     ·have kl : (k : Int) < (OH.length : Int) := by omega
      have dl := @dT k OH.length hlt
      have HBX := hid (HB6.out.trans (Hbl.out.mono (by omega)))
      obtain ⟨b, o, rfl, hb, hc⟩ := HS6.out k (encLot OH[k]) (by simp [hlt])
      have e0 := tC HBX hb (hc 0 _ rfl)
      have e1 := tC HBX hb (hc 1 _ rfl)
      have e2 := tC HBX hb (hc 2 _ rfl)
      simp only [Nat.add_zero] at e0
      have hbw : b < wr.heap.size := Nat.lt_of_lt_of_le hb HBX.out.size
      have hink := htin OH[k] (List.getElem_mem hlt)
      have CN1 := hid (fun W => CN.out OH[k].asset W hink.1)
      have CN2 := hid (fun W => CN.out OH[k].tag W hink.2.1)
      have CN3 := hid (fun W => CN.out OH[k].qty W hink.2.2)
      have hj1 := itoa_le hink.1
      have hj2 := itoa_le hink.2.1
      have hj3 := itoa_le hink.2.2
      have HM := hid (show (L3 ++ lotsL u (OH.take (k + 1))).map encStr = (L3 ++ lotsL u (OH.take k)).map encStr ++ [encStr (lnL (lotW u OH[k]))] from by unfold lotsL; rw [map_snoc hlt, ← List.append_assoc, List.map_append]; rfl)
      have HE0 := cat_lot J0 (Lib.itoa OH[k].asset) (Lib.itoa OH[k].tag) (Lib.itoa OH[k].qty)
      have hlen : ((L3 ++ lotsL u (OH.take k)).map encStr).length ≤ 1000 := by unfold lotsL; simp; omega
      generalize hLe : lnL (lotW u OH[k]) = L at HM
      rw [show lnL [wdLot, J0, Lib.itoa OH[k].asset, Lib.itoa OH[k].tag, Lib.itoa OH[k].qty] = L from by rw [HJ0.out]; exact hLe] at HE0
      generalize Lib.itoa OH[k].asset = J5 at *
      generalize Lib.itoa OH[k].tag = J6 at *
      generalize Lib.itoa OH[k].qty = J7 at *
      generalize (L3 ++ lotsL u (OH.take k)).map encStr = R at *
      have HE := hid HE0
      have p1 : ¬ 9223372036854775807 < 4 + J0.length := by omega
      have p2 : ¬ 9223372036854775807 < 4 + J0.length + 1 := by omega
      have p3 : ¬ 9223372036854775807 < 4 + J0.length + 1 + J5.length := by omega
      have p4 : ¬ 9223372036854775807 < 4 + J0.length + 1 + J5.length + 1 := by omega
      have p5 : ¬ 9223372036854775807 < 4 + J0.length + 1 + J5.length + 1 + J6.length := by omega
      have p6 : ¬ 9223372036854775807 < 4 + J0.length + 1 + J5.length + 1 + J6.length + 1 := by omega
      have p7 : ¬ 9223372036854775807 < 4 + J0.length + 1 + J5.length + 1 + J6.length + 1 + J7.length := by omega
      have k0 : (0 : Int) ≤ (k : Int) := by omega
      clear HE0 hLe hc
      go_wp2_with fail
      go_region_held3 (fun w' => (w'.cell? ⟨w.heap.size + 1, 0, none⟩ = some (.int .i64 u.acc) ∧ w'.cell? ⟨w.heap.size + 1, 1, none⟩ = some (.int .i64 u.cli)) ∧ w'.cell? ⟨b, o + k * 3, none⟩ = some (.int .i64 OH[k].asset) ∧ w'.cell? ⟨b, o + k * 3 + 1, none⟩ = some (.int .i64 OH[k].tag) ∧ w'.cell? ⟨b, o + k * 3 + 2, none⟩ = some (.int .i64 OH[k].qty)) (exact tK) (first | (go_at_call 84; (with_reducible refine cM (CP.out _) fun w1 hb1 fc1 fg1 hc1 hf1 hz1 => ?_); (try simp at hz1)) | (go_at_call 42; (with_reducible refine cM (CN1.out _) fun w2 hb2 fc2 fg2 hc2 hf2 hz2 => ?_); (try simp at hz2)) | (go_at_call 42; (with_reducible refine cM (CN2.out _) fun w5 hb5 fc5 fg5 hc5 hf5 hz5 => ?_); (try simp at hz5)) | (go_at_call 42; (with_reducible refine cM (CN3.out _) fun w3 hb3 fc3 fg3 hc3 hf3 hz3 => ?_); (try simp at hz3)) | (refine step_app rfl _ _ _ rfl elStr (w.heap.size + 2) _ _ rfl (Hown.out.keep tB) (some ⟨_, 0, none⟩) 1 1 rfl [encStr L] rfl (fun h => by cases h) (rd_strs (ws := [L]) (by simp) (congrArg (fun b => [Value.string b]) HE.out)) (rowsStr [L]) (by unfold maxLen; exact tE) tE tZ ?_; intro v4 w4 hown4 hb4; have HO4 := hid hown4; clear hown4; obtain ⟨fc4, fg4, hc4, hf4, hz4⟩ := bget hb4; (try simp at hz4)) | fail)
      all_goals
       go_wp2_with fail
       go_roundw
       case rel => exact ⟨k + 1, by omega, by go_num, by rw [HM.out]; exact HO4.out, by have h1 := Hbl.out; exact tB⟩
       case measure => simp [intOf]; omega
     ·have dl := @dF k OH.length hlt
      have HTK := hid (show OH.take k = OH from List.take_of_length_le (by omega))
      go_wp2_with (fail)
      go_ret
      have := Hown.out
      rw [HTK.out, ← HEND.out] at this
      exact ⟨_, rfl, this.mono (by omega), HB6.out.trans (Hbl.out.mono (by omega))⟩
theorem ref15UnitsA (x : Acct) (A : Option Addr) (c : Nat) (w : World) (hl : x.clients.length ≤ 1048576) (hr : Rd w A 1 (x.clients.map encI)) :
  Calls Tryz.prog 34 #[.agg #[.int .i64 x.id, .int .i64 x.member, .int .i64 x.kind, .slice A x.clients.length c]] w fun e w' => ∃ v, e = .returned v ∧ Own w' w.heap.size 60 2 v ((unitsA x).map encUn) ∧ Below w.heap.size w w' := by
 have HR := hid hr
 clear hr
 by_cases hk1 : x.kind = 1
 ·have b1 : (x.kind == 1) = true := by simpa using hk1
  have HU := hid (show unitsA x = [⟨x.id, 0⟩] from if_pos hk1)
  clear hk1
  go_enter Tryz.func34, Tryz.ntmps34
  go_wp2_with (first | (at_builtin; refine wpList_app rfl _ _ _ rfl elUn (w.heap.size + 1) _ _ rfl ((Own.nil _ _ _ _).alloc _) (some ⟨_, 0, none⟩) 1 1 rfl [encUn ⟨x.id, 0⟩] rfl (fun h => by cases h) (rd_oneN (by simp)) (rowsUn [⟨x.id, 0⟩]) (by unfold maxLen; exact tE) tE tZ ?_; intro v3 w3 hown3 hb3) | fail)
  go_ret
  refine ⟨_, rfl, ?_, tB⟩
  rw [HU.out]
  exact hown3.mono (by omega)
 ·have b1 : (x.kind == 1) = false := by simpa using hk1
  have HU := hid (show unitsA x = x.clients.map (fun c => ⟨x.id, c⟩) from if_neg hk1)
  clear hk1
  go_enter Tryz.func34, Tryz.ntmps34
  go_wp2_with (fail)
  go_loopw [3, 4] (fun v i wr => ∃ k : Nat, k ≤ x.clients.length ∧ i = .int .i64 k ∧ Own wr (w.heap.size + 1) 60 2 v (((x.clients.take k).map (fun c => (⟨x.id, c⟩ : Un))).map encUn) ∧ Below w.heap.size w wr ∧ w.heap.size < wr.heap.size ∧ (wr.cell? ⟨w.heap.size, 0, none⟩ = some (.int .i64 x.id) ∧ wr.cell? ⟨w.heap.size, 3, none⟩ = some (.slice A x.clients.length c))) (fun _ i _ => x.clients.length - (intOf i).toNat)
  case atStart => exact ⟨0, Nat.zero_le _, rfl, Own.nil _ _ _ _, tB, by simp, by simp [go_sem]⟩
  case round =>
   obtain ⟨k, hk, rfl, hown, hbl, hsz, h0, h3⟩ := hrel
   have Hown := hid hown
   have Hbl := hid hbl
   have hz := hbl.size
   clear hown hbl
   by_cases hlt : k < x.clients.length
   ·have kl : (k : Int) < (x.clients.length : Int) := by omega
    have dl : decide ((k : Int) < (x.clients.length : Int)) = true := by simpa using hlt
    obtain ⟨b, o, rfl, hb, hc⟩ := HR.out k (encI x.clients[k]) (by simp [hlt])
    have e0 := tC Hbl hb (hc 0 _ rfl)
    simp only [Nat.add_zero, Nat.mul_one] at e0
    have HS := hid (map_snoc hlt (fun c => (⟨x.id, c⟩ : Un)))
    clear hc
    go_wp2_with fail
    go_region_held3 (fun w' => (w'.cell? ⟨w.heap.size, 0, none⟩ = some (.int .i64 x.id) ∧ w'.cell? ⟨w.heap.size, 3, none⟩ = some (.slice (some ⟨b, o, none⟩) x.clients.length c)) ∧ w'.cell? ⟨b, o + k, none⟩ = some (.int .i64 x.clients[k])) (exact tK) (first | (refine step_app rfl _ _ _ rfl elUn (w.heap.size + 1) _ _ rfl (by first | exact Hown.out.drew.alloc _ | exact (Hown.out.alloc _).drew | exact Hown.out.alloc _) _ 1 1 rfl [encUn ⟨x.id, x.clients[k]⟩] rfl (fun h => by cases h) (by first | exact rd_one | exact rd_one.drew) (rowsUn [⟨x.id, x.clients[k]⟩]) (by unfold maxLen; simp; omega) (by simp; omega) tZ ?_; intro v3 w3 hown3 hb3) | fail)
    go_wp2_with fail
    go_roundw
    case rel => exact ⟨k + 1, by omega, by go_num, by rw [HS.out, List.map_append]; exact hown3, by have hbl := Hbl.out; exact tB, by have := hb3.size; simp at this; omega, by rw [hb3.cell (p := ⟨w.heap.size, 0, none⟩) (by simp)]; simp [go_sem, h0, hsz, ↓IntWalk.iteOmega], by rw [hb3.cell (p := ⟨w.heap.size, 3, none⟩) (by simp)]; simp [go_sem, h3, hsz, ↓IntWalk.iteOmega]⟩
    case measure => simp [intOf]; omega
   ·have dl : decide ((k : Int) < (x.clients.length : Int)) = false := by simpa using hlt
    have HT := hid (show x.clients.take k = x.clients from List.take_of_length_le (by omega))
    go_wp2_with (fail)
    go_ret
    refine ⟨_, rfl, ?_, Hbl.out⟩
    rw [HU.out]
    have := Hown.out
    rw [HT.out] at this
    exact this.mono (by omega)
theorem ref15UnitsO (x : AcctV) (w : World) (hl : x.clients.val.length ≤ 1048576) (hg : GoodA w x) :
  Calls Tryz.prog 34 #[.agg #[.int .i64 x.id, .int .i64 x.member, .int .i64 x.kind, .slice x.clients.A x.clients.val.length x.clients.c]] w fun e w' => ∃ v, e = .returned v ∧ Own w' w.heap.size 60 2 v ((unitsA (lgA x)).map encUn) ∧ Below w.heap.size w w' :=
 ref15UnitsA (lgA x) x.clients.A x.clients.c w hl hg.rd
theorem ref25UnitsO (x : AcctV) (w : World) (hl : x.clients.val.length ≤ 1000000) (hg : GoodA w x) :
  Calls Tryz.prog 81 #[.agg #[.int .i64 x.id, .int .i64 x.member, .int .i64 x.kind, .slice x.clients.A x.clients.val.length x.clients.c]] w fun e w' => ∃ v, e = .returned v ∧ Own w' w.heap.size 60 2 v ((unitsN (lgA x)).map encUn) ∧ Below w.heap.size w w' := by
 have HG := hid hg
 clear hg
 by_cases hk : x.kind = 2
 ·have b1 : (x.kind == 2) = true := by simpa using hk
  have HU := hid (show unitsN (lgA x) = [⟨x.id, 0⟩] from if_pos hk)
  rw [HU.out]
  clear hk
  go_enter Tryz.func81, Tryz.ntmps81
  go_wp2_with (fail)
  go_ret
  exact ⟨_, rfl, own_lit2 (by omega) tL, tB⟩
 ·have b1 : (x.kind == 2) = false := by simpa using hk
  have HU := hid (show unitsN (lgA x) = unitsA (lgA x) from if_neg hk)
  rw [HU.out]
  clear hk
  go_enter Tryz.func81, Tryz.ntmps81
  go_wp2_with (first | (go_at_call 34; (with_reducible refine (ref15UnitsO x _ (by omega) (HG.out.keep tB)).mono ?_); rintro e w1 ⟨v1, rfl, hown1, hb1⟩; have HS1 := hid hown1; clear hown1; obtain ⟨fc1, fg1, hc1, hf1, hz1⟩ := bget hb1; (try simp at hz1)) | fail)
  go_ret
  exact ⟨_, rfl, HS1.out.mono (by simp), tB⟩
end Go.Proofs.YtalgfpegaobacaaGreatDoor
