/- Joined. -/
import Derived.Test.YtalgfpegaobacaaGreatDoorQz20
namespace Go.Proofs.YtalgfpegaobacaaGreatDoor
set_option linter.all false
set_option maxHeartbeats 32000000
set_option maxRecDepth 100000
open Go.RowKit
open Lib (hid)
/- Pages: contract of unit. -/
theorem pageUnit (g base : Nat) (s : StV) (u : Un) (ls : List Str) (w0 w : World) (h0 : Below w0.heap.size w0 w) (hg0 : w0.heap.size ≤ g) (ht : TabP w0) (hs : GoodSt w0 s) (hu : In64 u.acc ∧ In64 u.cli) (hp : Page w g base ls) (hll : ls.length ≤ 900000000) :
  Calls Tryz.prog 30 #[.pointer (some ⟨g, 0, none⟩), .agg #[.int .i64 (s).day, .slice (s).mem.A (s).mem.val.length (s).mem.c, .slice (s).ins.A (s).ins.val.length (s).ins.c, .slice (s).ats.A (s).ats.val.length (s).ats.c, .slice (s).acs.A (s).acs.val.length (s).acs.c, .slice (s).cho.A (s).cho.val.length (s).cho.c, .slice (s).grp.A (s).grp.val.length (s).grp.c, .slice (s).giv.A (s).giv.val.length (s).giv.c, .slice (s).bk.A (s).bk.val.length (s).bk.c, .slice (s).sale.A (s).sale.val.length (s).sale.c, .slice (s).pu.A (s).pu.val.length (s).pu.c, .slice (s).ho.A (s).ho.val.length (s).ho.c], .agg #[.int .i64 u.acc, .int .i64 u.cli]] w fun e w' => e = .returned (.tuple #[]) ∧ Page w' g base (ls ++ unitL (repL s) u) ∧ PgA 9 g w0.heap.size w w' := by
 have HT := hid ht
 have CP := hid (fun W (h : Below w0.heap.size w0 W) => repPlace u W hu (ht.keep h))
 have hn64 := getPu_in hs.side.p64 u
 have CG := hid (fun W (h : Below w0.heap.size w0 W) => purseGet s.pu.val u s.pu.A s.pu.c W (by have : s.pu.val.length ≤ 300 := hs.side.lp; omega) (hs.side.rp.rd.keep h))
 rw [show (sideV s).pu = s.pu from rfl] at hn64
 have CL := hid (fun W (h : Below w0.heap.size w0 W) => repLong (getPu s.pu.val u) W hn64 (ht.keep h))
 have CB := hid (fun W (h : Below w0.heap.size w0 W) => bookOf s.bk.val u s.bk.A s.bk.c W (by have : s.bk.val.length ≤ 1000 := hs.side.lb; omega) (hs.side.rb.keep h) (fun x hx => (hs.side.gb x hx).keep h))
 have CS := hid (fun W (h : Below w0.heap.size w0 W) => bookOf s.sale.val u s.sale.A s.sale.c W (by have := hs.ls; omega) (hs.rs.keep h) (fun x hx => (hs.gs x hx).keep h))
 have CH := hid (fun W (h : Below w0.heap.size w0 W) => holdOf s.ho.val u s.ho.A s.ho.c W (by have : s.ho.val.length ≤ 1000 := hs.side.lh; omega) (hs.side.rh.rd.keep h) (fun x hx => (hs.side.gh x hx).keep h))
 obtain ⟨hb1, hbin⟩ := ofB_ok hs.lb u
 obtain ⟨hs1, hsin⟩ := ofB_ok hs.lsl u
 obtain ⟨ht1, htin⟩ := ofT_ok hs.lh u
 have HUL := hid (show unitL (repL s) u = lnL (unitW (getPu s.pu.val u) u) :: (legsL wdPosition u (ofK (s.bk.val.map lgPosV) u) ++ (legsL wdSale u (ofK (s.sale.val.map lgPosV) u) ++ lotsL u (ofK (s.ho.val.map lgHoldV) u))) from rfl)
 have HBU := hid (unit_bound hu hn64)
 have HP0 := hid hp
 have H00 := hid h0
 have hz0 := h0.size
 have hgb := hp.lt
 have hbs := hp.size
 generalize unitL (repL s) u = UL at *
 generalize ofK (s.bk.val.map lgPosV) u = OB at *
 generalize ofK (s.sale.val.map lgPosV) u = OS at *
 generalize ofK (s.ho.val.map lgHoldV) u = OH at *
 generalize getPu s.pu.val u = pn at *
 obtain ⟨L1, hL1⟩ : ∃ L, L = ls ++ [lnL (unitW pn u)] := ⟨_, rfl⟩
 obtain ⟨L2, hL2⟩ : ∃ L, L = L1 ++ legsL wdPosition u OB := ⟨_, rfl⟩
 obtain ⟨L3, hL3⟩ : ∃ L, L = L2 ++ legsL wdSale u OS := ⟨_, rfl⟩
 have HEND := hid (show ls ++ UL = L3 ++ lotsL u OH from by rw [hL3, hL2, hL1, HUL.out]; simp)
 have l1 : L1.length ≤ 900000001 := by rw [hL1]; simp; omega
 have l2 : L2.length ≤ 900000041 := by rw [hL2]; simp [legsL]; omega
 have l3 : L3.length ≤ 900000081 := by rw [hL3]; simp [legsL]; omega
 have HL2 := hid hL2
 have HL3 := hid hL3
 have CLN0 := fun W (h : Below w.heap.size w W) => (show Calls Tryz.prog 28 #[.pointer (some ⟨g, 0, none⟩), .slice (some ⟨W.heap.size, 0, none⟩) 4 4] (W.alloc (.cells #[strV wdUnit, strV (placeL u), strV wdCash, strV (Lib.itoa pn)] 9)) fun e w' => e = .returned (.tuple #[]) ∧ Page w' g base (ls ++ [lnL (unitW pn u)]) ∧ PgA 9 g w0.heap.size (W.alloc (.cells #[strV wdUnit, strV (placeL u), strV wdCash, strV (Lib.itoa pn)] 9)) w' from
  pageLineP g base w0.heap.size W.heap.size 4 ls (unitW pn u) _ (hp.keep (h.alloc h.size _)) hg0 (rd_strs rfl rfl) (by simp) (Nat.le_refl _) (by simp [unitW]) HBU.out (by omega))
 rw [← hL1] at CLN0
 have CLN := hid CLN0
 have HLT := hid (fun x (hx : x ∈ OH) => lot_bound hu (htin x hx))
 have CN := hid (fun n W (hn : In64 n) (h : Below w0.heap.size w0 W) => repNum n W hn (ht.keep h))
 have CL2 := hid (fun n W (hn : In64 n) (h : Below w0.heap.size w0 W) => repLong n W hn (ht.keep h))
 clear CLN0 hp h0 ht hs hn64 hL1 hL2 hL3 HUL
 go_enter Tryz.func30, Tryz.ntmps30
 go_wp2_with fail
 have KS := hid (show Blk ((w.alloc (.cells #[.int .i64 (s).day, .slice (s).mem.A (s).mem.val.length (s).mem.c, .slice (s).ins.A (s).ins.val.length (s).ins.c, .slice (s).ats.A (s).ats.val.length (s).ats.c, .slice (s).acs.A (s).acs.val.length (s).acs.c, .slice (s).cho.A (s).cho.val.length (s).cho.c, .slice (s).grp.A (s).grp.val.length (s).grp.c, .slice (s).giv.A (s).giv.val.length (s).giv.c, .slice (s).bk.A (s).bk.val.length (s).bk.c, .slice (s).sale.A (s).sale.val.length (s).sale.c, .slice (s).pu.A (s).pu.val.length (s).pu.c, .slice (s).ho.A (s).ho.val.length (s).ho.c] 33)).alloc (.cells #[.int .i64 u.acc, .int .i64 u.cli] 60)) w.heap.size 33 #[.int .i64 (s).day, .slice (s).mem.A (s).mem.val.length (s).mem.c, .slice (s).ins.A (s).ins.val.length (s).ins.c, .slice (s).ats.A (s).ats.val.length (s).ats.c, .slice (s).acs.A (s).acs.val.length (s).acs.c, .slice (s).cho.A (s).cho.val.length (s).cho.c, .slice (s).grp.A (s).grp.val.length (s).grp.c, .slice (s).giv.A (s).giv.val.length (s).giv.c, .slice (s).bk.A (s).bk.val.length (s).bk.c, .slice (s).sale.A (s).sale.val.length (s).sale.c, .slice (s).pu.A (s).pu.val.length (s).pu.c, .slice (s).ho.A (s).ho.val.length (s).ho.c] by exact tL)
 have KU := hid (show Blk ((w.alloc (.cells #[.int .i64 (s).day, .slice (s).mem.A (s).mem.val.length (s).mem.c, .slice (s).ins.A (s).ins.val.length (s).ins.c, .slice (s).ats.A (s).ats.val.length (s).ats.c, .slice (s).acs.A (s).acs.val.length (s).acs.c, .slice (s).cho.A (s).cho.val.length (s).cho.c, .slice (s).grp.A (s).grp.val.length (s).grp.c, .slice (s).giv.A (s).giv.val.length (s).giv.c, .slice (s).bk.A (s).bk.val.length (s).bk.c, .slice (s).sale.A (s).sale.val.length (s).sale.c, .slice (s).pu.A (s).pu.val.length (s).pu.c, .slice (s).ho.A (s).ho.val.length (s).ho.c] 33)).alloc (.cells #[.int .i64 u.acc, .int .i64 u.cli] 60)) (w.heap.size + 1) 60 #[.int .i64 u.acc, .int .i64 u.cli] by exact tL)
 have H0R := hid (show Below w0.heap.size w0 ((w.alloc (.cells #[.int .i64 (s).day, .slice (s).mem.A (s).mem.val.length (s).mem.c, .slice (s).ins.A (s).ins.val.length (s).ins.c, .slice (s).ats.A (s).ats.val.length (s).ats.c, .slice (s).acs.A (s).acs.val.length (s).acs.c, .slice (s).cho.A (s).cho.val.length (s).cho.c, .slice (s).grp.A (s).grp.val.length (s).grp.c, .slice (s).giv.A (s).giv.val.length (s).giv.c, .slice (s).bk.A (s).bk.val.length (s).bk.c, .slice (s).sale.A (s).sale.val.length (s).sale.c, .slice (s).pu.A (s).pu.val.length (s).pu.c, .slice (s).ho.A (s).ho.val.length (s).ho.c] 33)).alloc (.cells #[.int .i64 u.acc, .int .i64 u.cli] 60)) by have h := H00.out; exact tB)
 obtain ⟨J0, hJ0⟩ : ∃ J, J = placeL u := ⟨_, rfl⟩
 rw [← hJ0] at CP CLN
 have HJ0 := hid hJ0
 generalize Lib.itoa pn = J1 at *
 clear hJ0
 go_region_held3 (fun w' => (w'.cell? ⟨w.heap.size + 1, 0, none⟩ = some (.int .i64 u.acc) ∧ w'.cell? ⟨w.heap.size + 1, 1, none⟩ = some (.int .i64 u.cli)) ∧ w'.cell? ⟨w.heap.size, 10, none⟩ = some (.slice s.pu.A s.pu.val.length s.pu.c)) (exact tK) (first | (go_at_call 61; (with_reducible refine cM (CP.out _ (by have h := H0R.out; exact tB)) fun w1 hb1 fc1 fg1 hc1 hf1 hz1 => ?_); (try simp at hz1)) | (go_at_call 63; (with_reducible refine cM (CG.out _ (by have h := H0R.out; exact tB)) fun w2 hb2 fc2 fg2 hc2 hf2 hz2 => ?_); (try simp at hz2)) | (go_at_call 62; (with_reducible refine cM (CL.out _ (by have h := H0R.out; exact tB)) fun w3 hb3 fc3 fg3 hc3 hf3 hz3 => ?_); (try simp at hz3)) | (go_at_call 28; (with_reducible refine (CLN.out _ tB).mono ?_); rintro e w5 ⟨rfl, hpg5, hpa5⟩; have HP5 := hid hpg5; have ks := hpa5.blk (t := 33) (b := w.heap.size) (cs := #[.int .i64 (s).day, .slice (s).mem.A (s).mem.val.length (s).mem.c, .slice (s).ins.A (s).ins.val.length (s).ins.c, .slice (s).ats.A (s).ats.val.length (s).ats.c, .slice (s).acs.A (s).acs.val.length (s).acs.c, .slice (s).cho.A (s).cho.val.length (s).cho.c, .slice (s).grp.A (s).grp.val.length (s).grp.c, .slice (s).giv.A (s).giv.val.length (s).giv.c, .slice (s).bk.A (s).bk.val.length (s).bk.c, .slice (s).sale.A (s).sale.val.length (s).sale.c, .slice (s).pu.A (s).pu.val.length (s).pu.c, .slice (s).ho.A (s).ho.val.length (s).ho.c]) (by have := KS.out; exact tL) (by decide) (by omega); have ku := hpa5.blk (t := 60) (b := w.heap.size + 1) (cs := #[.int .i64 u.acc, .int .i64 u.cli]) (by have := KU.out; exact tL) (by decide) (by omega); have ku0 := ku.cell 0; have ku1 := ku.cell 1; have kn := ks.cell 10; (simp only [List.getElem?_toArray, List.getElem?_cons_zero, List.getElem?_cons_succ] at ku0 ku1 kn); have KS5 := hid ks; have KU5 := hid ku; have H5 := hid (show PgA 9 g w0.heap.size w w5 from (PgA.of_below tB (by omega)).trans hpa5); clear hpg5 hpa5) | fail)
 all_goals
  go_wp2_with fail
  clear hc1 hf1 hb1 hc2 hf2 hb2 hc3 hf3 hb3 ks kn ku ku0 ku1 CLN CG CL
  (obtain ⟨wr, hwr⟩ : ∃ x, x = w5 := ⟨_, rfl⟩); subst hwr; have HPG := HP5; have KS := KS5; have KU := KU5; have HPA := H5; have hzr := HPA.out.size; have hbw := HPG.out.size; have H0R := hid (H00.out.trans HPA.out.below); have y0 := KU.out.cell 0; have y1 := KU.out.cell 1; have yn := KS.out.cell 8; (simp only [List.getElem?_toArray, List.getElem?_cons_zero, List.getElem?_cons_succ] at y0 y1 yn); have yl := KU.out.lt
  go_region_held3 (fun w' => (w'.cell? ⟨w.heap.size + 1, 0, none⟩ = some (.int .i64 u.acc) ∧ w'.cell? ⟨w.heap.size + 1, 1, none⟩ = some (.int .i64 u.cli)) ∧ w'.cell? ⟨w.heap.size, 8, none⟩ = some (.slice s.bk.A s.bk.val.length s.bk.c)) (exact tK) (first | (go_at_call 65; (with_reducible refine (CB.out _ (by have h := H0R.out; exact tB)).mono ?_); rintro e w6 ⟨v6, rfl, hown6, hb6⟩; obtain ⟨A6, c6, hv6, _, _⟩ := hown6.rs; (rw [List.length_map] at hv6); subst hv6; have HO6 := hid (hown6.mono (b := base) tZ); clear hown6; obtain ⟨fc6, fg6, hc6, hf6, hz6⟩ := bget hb6; (try simp at hz6)) | (go_at_call 64; (with_reducible refine (pageLegs g base wdPosition u (OB) A6 c6 (L1) w0 _ (by have h := H0R.out; exact tB) hg0 HT.out (by decide) hu (hbin) (by omega) (by omega) (HPG.out.keep tB) (fun W hW => ((HO6.out.keep tB).pga hW (by decide) (by omega)).rd.1)).mono ?_); rintro e w7 ⟨rfl, hpg7, hpa7⟩; rw [← (HL2).out] at hpg7; have HP7 := hid hpg7; have ks := hpa7.blk (t := 33) (b := w.heap.size) (cs := #[.int .i64 (s).day, .slice (s).mem.A (s).mem.val.length (s).mem.c, .slice (s).ins.A (s).ins.val.length (s).ins.c, .slice (s).ats.A (s).ats.val.length (s).ats.c, .slice (s).acs.A (s).acs.val.length (s).acs.c, .slice (s).cho.A (s).cho.val.length (s).cho.c, .slice (s).grp.A (s).grp.val.length (s).grp.c, .slice (s).giv.A (s).giv.val.length (s).giv.c, .slice (s).bk.A (s).bk.val.length (s).bk.c, .slice (s).sale.A (s).sale.val.length (s).sale.c, .slice (s).pu.A (s).pu.val.length (s).pu.c, .slice (s).ho.A (s).ho.val.length (s).ho.c]) (by have := KS.out; exact tL) (by decide) (by omega); have ku := hpa7.blk (t := 60) (b := w.heap.size + 1) (cs := #[.int .i64 u.acc, .int .i64 u.cli]) (by have := KU.out; exact tL) (by decide) (by omega); have ku0 := ku.cell 0; have ku1 := ku.cell 1; have kn := ks.cell 8; (simp only [List.getElem?_toArray, List.getElem?_cons_zero, List.getElem?_cons_succ] at ku0 ku1 kn); have KS7 := hid ks; have KU7 := hid ku; have H7 := hid (show PgA 9 g w0.heap.size wr w7 from (PgA.of_below tB (by omega)).trans hpa7); clear hpg7 hpa7) | fail)
  all_goals
   go_wp2_with fail
   clear hc6 hf6 hb6 ks ku ku0 ku1 y0 y1 yn kn
   have H57 := hid (HPA.out.trans H7.out)
   clear HPA H0R
   (obtain ⟨wr, hwr⟩ : ∃ x, x = w7 := ⟨_, rfl⟩); subst hwr; have HPG := HP7; have KS := KS7; have KU := KU7; have HPA := H57; have hzr := HPA.out.size; have hbw := HPG.out.size; have H0R := hid (H00.out.trans HPA.out.below); have y0 := KU.out.cell 0; have y1 := KU.out.cell 1; have yn := KS.out.cell 9; (simp only [List.getElem?_toArray, List.getElem?_cons_zero, List.getElem?_cons_succ] at y0 y1 yn); have yl := KU.out.lt
   go_region_held3 (fun w' => (w'.cell? ⟨w.heap.size + 1, 0, none⟩ = some (.int .i64 u.acc) ∧ w'.cell? ⟨w.heap.size + 1, 1, none⟩ = some (.int .i64 u.cli)) ∧ w'.cell? ⟨w.heap.size, 9, none⟩ = some (.slice s.sale.A s.sale.val.length s.sale.c)) (exact tK) (first | (go_at_call 65; (with_reducible refine (CS.out _ (by have h := H0R.out; exact tB)).mono ?_); rintro e w6 ⟨v6, rfl, hown6, hb6⟩; obtain ⟨A6, c6, hv6, _, _⟩ := hown6.rs; (rw [List.length_map] at hv6); subst hv6; have HO6 := hid (hown6.mono (b := base) tZ); clear hown6; obtain ⟨fc6, fg6, hc6, hf6, hz6⟩ := bget hb6; (try simp at hz6)) | (go_at_call 64; (with_reducible refine (pageLegs g base wdSale u (OS) A6 c6 (L2) w0 _ (by have h := H0R.out; exact tB) hg0 HT.out (by decide) hu (hsin) (by omega) (by omega) (HPG.out.keep tB) (fun W hW => ((HO6.out.keep tB).pga hW (by decide) (by omega)).rd.1)).mono ?_); rintro e w7 ⟨rfl, hpg7, hpa7⟩; rw [← (HL3).out] at hpg7; have HP7 := hid hpg7; have ks := hpa7.blk (t := 33) (b := w.heap.size) (cs := #[.int .i64 (s).day, .slice (s).mem.A (s).mem.val.length (s).mem.c, .slice (s).ins.A (s).ins.val.length (s).ins.c, .slice (s).ats.A (s).ats.val.length (s).ats.c, .slice (s).acs.A (s).acs.val.length (s).acs.c, .slice (s).cho.A (s).cho.val.length (s).cho.c, .slice (s).grp.A (s).grp.val.length (s).grp.c, .slice (s).giv.A (s).giv.val.length (s).giv.c, .slice (s).bk.A (s).bk.val.length (s).bk.c, .slice (s).sale.A (s).sale.val.length (s).sale.c, .slice (s).pu.A (s).pu.val.length (s).pu.c, .slice (s).ho.A (s).ho.val.length (s).ho.c]) (by have := KS.out; exact tL) (by decide) (by omega); have ku := hpa7.blk (t := 60) (b := w.heap.size + 1) (cs := #[.int .i64 u.acc, .int .i64 u.cli]) (by have := KU.out; exact tL) (by decide) (by omega); have ku0 := ku.cell 0; have ku1 := ku.cell 1; have kn := ks.cell 9; (simp only [List.getElem?_toArray, List.getElem?_cons_zero, List.getElem?_cons_succ] at ku0 ku1 kn); have KS7 := hid ks; have KU7 := hid ku; have H7 := hid (show PgA 9 g w0.heap.size wr w7 from (PgA.of_below tB (by omega)).trans hpa7); clear hpg7 hpa7) | fail)
   all_goals
    clear hc6 hf6 hb6 ks ku ku0 ku1 y0 y1 yn kn
    have H57 := hid (HPA.out.trans H7.out)
    clear HPA H0R
    (obtain ⟨wr, hwr⟩ : ∃ x, x = w7 := ⟨_, rfl⟩); subst hwr; have HPG := HP7; have KS := KS7; have KU := KU7; have HPA := H57; have hzr := HPA.out.size; have hbw := HPG.out.size; have H0R := hid (H00.out.trans HPA.out.below); have y0 := KU.out.cell 0; have y1 := KU.out.cell 1; have yn := KS.out.cell 11; (simp only [List.getElem?_toArray, List.getElem?_cons_zero, List.getElem?_cons_succ] at y0 y1 yn); have yl := KU.out.lt
    go_wp2_with (first | (go_at_call 66; (with_reducible refine (CH.out _ (by have h := H0R.out; exact tB)).mono ?_); rintro e w6 ⟨v6, rfl, hown6, hb6⟩; obtain ⟨A6, c6, hv6, _, _⟩ := hown6.rs; (rw [List.length_map] at hv6); subst hv6; have HO6 := hid (hown6.mono (b := base) tZ); clear hown6; obtain ⟨fc6, fg6, hc6, hf6, hz6⟩ := bget hb6; (try simp at hz6)) | fail)
    have H6 := hid (show Below wr.heap.size wr w6 from by exact tB)
    have hz6 := H6.out.size
    have HKU := hid (KU.out.below H6.out yl)
    have H0S := hid (H0R.out.trans (H6.out.mono (by omega)))
    have HPG6 := hid (HPG.out.keep H6.out)
    have HPA6 := hid (HPA.out.grow (by omega) H6.out)
    clear hc6 hf6 hb6 y0 y1 yn KS KU HPG H6 HPA H0R
    go_loopw [37] (fun i wx => ∃ k : Nat, k ≤ OH.length ∧ i = .int .i64 k ∧ Page wx g base (L3 ++ lotsL u (OH.take k)) ∧ PgA 9 g w0.heap.size w6 wx ∧ Blk wx (w.heap.size + 1) 60 #[.int .i64 u.acc, .int .i64 u.cli]) (fun i _ => OH.length - (intOf i).toNat)
    case atStart => exact ⟨0, Nat.zero_le _, rfl, by rw [List.take_zero]; show Page _ g base (L3 ++ []); rw [List.append_nil]; exact HPG6.out, PgA.refl _ _ _ _, HKU.out⟩
    case round =>
     obtain ⟨k, hk, rfl, hpg, hpa, hbk⟩ := hrel
     have HPX := hid hpg
     have HAX := hid hpa
     have HBX := hid hbk
     have hzx := hpa.size
     have hlw := hbk.lt
     have q0 := hbk.cell 0
     have q1 := hbk.cell 1
     simp only [List.getElem?_toArray, List.getElem?_cons_zero, List.getElem?_cons_succ] at q0 q1
     have H0X := hid (H0S.out.trans hpa.below)
     clear hpg hpa hbk
     by_cases hlt : k < OH.length
     ·have kl : (k : Int) < (OH.length : Int) := by omega
      have dl := @dT k OH.length hlt
      obtain ⟨b, o, rfl, hb, hc⟩ := (HO6.out.pga HAX.out (by decide) hgb).rd.1 k (encLot OH[k]) (by simp [hlt])
      have e0 := hc 0 _ rfl
      have e1 := hc 1 _ rfl
      have e2 := hc 2 _ rfl
      simp only [Nat.add_zero] at e0
      have hin := htin OH[k] (List.getElem_mem hlt)
      have HB1 := hid (HLT.out OH[k] (List.getElem_mem hlt))
      have HSN := hid (show L3 ++ lotsL u (OH.take (k + 1)) = L3 ++ lotsL u (OH.take k) ++ [lnL (lotW u OH[k])] from by unfold lotsL; rw [map_snoc hlt, List.append_assoc])
      have hlen : (L3 ++ lotsL u (OH.take k)).length ≤ 1000000000 := by unfold lotsL; simp; omega
      clear hc
      have CLN0 := fun W (h : Below wr.heap.size wr W) => (show Calls Tryz.prog 28 #[.pointer (some ⟨g, 0, none⟩), .slice (some ⟨W.heap.size, 0, none⟩) 5 5] (W.alloc (.cells #[strV wdLot, strV J0, strV (Lib.itoa OH[k].asset), strV (Lib.itoa OH[k].tag), strV (Lib.itoa OH[k].qty)] 9)) fun e w' => e = .returned (.tuple #[]) ∧ Page w' g base (L3 ++ lotsL u (OH.take k) ++ [lnL (lotW u OH[k])]) ∧ PgA 9 g w0.heap.size (W.alloc (.cells #[strV wdLot, strV J0, strV (Lib.itoa OH[k].asset), strV (Lib.itoa OH[k].tag), strV (Lib.itoa OH[k].qty)] 9)) w' from
       pageLineP g base w0.heap.size W.heap.size 5 (L3 ++ lotsL u (OH.take k)) (lotW u OH[k]) _ (HPX.out.keep (h.alloc h.size _)) hg0 (rd_strs rfl (by rw [HJ0.out]; rfl)) (by simp) (Nat.le_refl _) (by simp [lotW]) HB1.out hlen)
      rw [← HSN.out] at CLN0
      have CLN := hid CLN0
      have CN1 := hid (fun W h => CN.out OH[k].asset W hin.1 h)
      have CN2 := hid (fun W h => CN.out OH[k].tag W hin.2.1 h)
      have CL1 := hid (fun W h => CL2.out OH[k].qty W hin.2.2 h)
      clear CLN0 hlen
      generalize Lib.itoa OH[k].asset = J5 at *
      generalize Lib.itoa OH[k].tag = J6 at *
      generalize Lib.itoa OH[k].qty = J7 at *
      go_wp2_with fail
      go_region_held3 (fun w' => (w'.cell? ⟨w.heap.size + 1, 0, none⟩ = some (.int .i64 u.acc) ∧ w'.cell? ⟨w.heap.size + 1, 1, none⟩ = some (.int .i64 u.cli)) ∧ w'.cell? ⟨wr.heap.size, 0, none⟩ = some (.int .i64 OH[k].asset) ∧ w'.cell? ⟨wr.heap.size, 1, none⟩ = some (.int .i64 OH[k].tag) ∧ w'.cell? ⟨wr.heap.size, 2, none⟩ = some (.int .i64 OH[k].qty)) (exact tK) (first | (go_at_call 61; (with_reducible refine cM (CP.out _ (by have h := H0X.out; exact tB)) fun w1 hb1 fc1 fg1 hc1 hf1 hz1 => ?_); (try simp at hz1)) | (go_at_call 29; (with_reducible refine cM (CN1.out _ (by have h := H0X.out; exact tB)) fun w2 hb2 fc2 fg2 hc2 hf2 hz2 => ?_); (try simp at hz2)) | (go_at_call 29; (with_reducible refine cM (CN2.out _ (by have h := H0X.out; exact tB)) fun w4 hb4 fc4 fg4 hc4 hf4 hz4 => ?_); (try simp at hz4)) | (go_at_call 62; (with_reducible refine cM (CL1.out _ (by have h := H0X.out; exact tB)) fun w3 hb3 fc3 fg3 hc3 hf3 hz3 => ?_); (try simp at hz3)) | (go_at_call 28; (with_reducible refine (CLN.out _ tB).mono ?_); rintro e w5 ⟨rfl, hpg5, hpa5⟩; have HP8 := hid hpg5; have hbk := HBX.out; have k5 := hpa5.blk (t := 60) (b := w.heap.size + 1) (cs := #[.int .i64 u.acc, .int .i64 u.cli]) tL (by decide) (by omega); have k9 := hpa5.blk (t := 79) (b := wr.heap.size) (cs := #[.int .i64 OH[k].asset, .int .i64 OH[k].tag, .int .i64 OH[k].qty]) tL (by decide) (by omega); have k50 := k5.cell 0; have k51 := k5.cell 1; have k90 := k9.cell 0; have k91 := k9.cell 1; have k92 := k9.cell 2; (simp only [List.getElem?_toArray, List.getElem?_cons_zero, List.getElem?_cons_succ] at k50 k51 k90 k91 k92); have H55 := hid (show PgA 9 g w0.heap.size wr w5 from (PgA.of_below tB (by omega)).trans hpa5); have K8 := hid k5; clear hpg5 hpa5 hbk k5 k9) | fail)
      all_goals
       go_wp2_with fail
       go_roundw
       case rel => exact ⟨k + 1, by omega, by go_num, HP8.out, HAX.out.trans H55.out, K8.out⟩
       case measure => simp [intOf]; omega
     ·have dl := @dF k OH.length hlt
      have HTK := hid (show OH.take k = OH from List.take_of_length_le (by omega))
      go_wp2_with fail
      refine bodyPost_end (v := .tuple #[]) (by simp [results, Tryz.results30, go_sem]; try rfl) rfl ⟨rfl, ?_, HPA6.out.trans HAX.out⟩
      have := HPX.out
      rw [HTK.out, ← HEND.out] at this
      exact this
section
open Go.ChangeShapes Go.WideShapes Go.ChangeAt Go.RowKit Go.Joins
/- Sides of cover handed in. -/
theorem Flow_cells {H : Type} {enc : TypeId × Value → H} {W : World} {spare : Nat → Bool} {held : Bool} (cs : List Value) (n : Nat) (y : DataW H × List MemPlace) (hlen : cs.length = 3) (h : DataW.trod enc Tryz.prog W 0 spare held n 72 cs = some y) : ∃ x : Flow, okFlow x ∧ cs = encFlow x := by
 obtain ⟨xs, n, _, rfl, _, hxs, hf⟩ := DataW.trod_struct Tryz.underlying72 h
 match cs, hlen, xs, hxs with
 | [c0, c1, c2], _, [y0, y1], _ =>
  have h0 : DataW.trod enc Tryz.prog W 0 spare held n 60 (([c0, c1, c2].drop 0).take (Tryz.prog.cellsOf 60)) = some y0 := hf 0 _ rfl
  have h1 : DataW.trod enc Tryz.prog W 0 spare held n 2 (([c0, c1, c2].drop 2).take (Tryz.prog.cellsOf 2)) = some y1 := hf 1 _ rfl
  rw [show Tryz.prog.cellsOf _ = 2 from by kernel_rfl] at h0
  obtain ⟨x0, w0, e0⟩ := Un_cells [c0, c1] n _ rfl h0
  simp only [encUn, List.cons.injEq, and_true] at e0
  obtain ⟨rfl, rfl⟩ := e0
  obtain ⟨x1, e1, _, w1⟩ := DataW.trod_int (k := .i64) (by kernel_rfl) h1
  rw [show Tryz.prog.cellsOf _ = 1 from by kernel_rfl] at e1
  simp at e1
  subst e1
  exact ⟨⟨x0, x1⟩, ⟨w0.1, w0.2, in64_of_wf w1⟩, rfl⟩
theorem assets_cells {H : Type} {enc : TypeId × Value → H} {W : World} {spare : Nat → Bool} {held : Bool} {fuel : Nat} {cs : List Value} {y : DataW H × List MemPlace} (h : DataW.trod enc Tryz.prog W 0 spare held fuel 24 cs = some y) :
  ∃ (l : List Asset) (A : Option Addr) (c : Nat), cs = [.slice A l.length c] ∧ (∀ x ∈ l, okAsset x) ∧ Rs W 3 (l.map encAsset) A c := by
 obtain ⟨l, A, c, h1, h2, h3, h4, h5, h6⟩ := slice_open0 (enc1 := encAsset) Tryz.underlying24 (by kernel_rfl) (fun cs n y => Asset_cells cs n y) (fun _ _ => rfl) (by omega) h
 exact ⟨l, A, c, h1, h2, ⟨h6, by rw [List.length_map]; exact h3, h4, h5⟩⟩
theorem flows_cells {H : Type} {enc : TypeId × Value → H} {W : World} {spare : Nat → Bool} {held : Bool} {fuel : Nat} {cs : List Value} {y : DataW H × List MemPlace} (h : DataW.trod enc Tryz.prog W 0 spare held fuel 30 cs = some y) :
  ∃ (l : List Flow) (A : Option Addr) (c : Nat), cs = [.slice A l.length c] ∧ (∀ x ∈ l, okFlow x) ∧ Rs W 3 (l.map encFlow) A c := by
 obtain ⟨l, A, c, h1, h2, h3, h4, h5, h6⟩ := slice_open0 (enc1 := encFlow) Tryz.underlying30 (by kernel_rfl) (fun cs n y => Flow_cells cs n y) (fun _ _ => rfl) (by omega) h
 exact ⟨l, A, c, h1, h2, ⟨h6, by rw [List.length_map]; exact h3, h4, h5⟩⟩
theorem insts_cells {H : Type} {enc : TypeId × Value → H} {W : World} {spare : Nat → Bool} {held : Bool} {fuel : Nat} {cs : List Value} {y : DataW H × List MemPlace} (h : DataW.trod enc Tryz.prog W 0 spare held fuel 23 cs = some y) :
  ∃ (l : List InstV) (A : Option Addr) (c : Nat), cs = [.slice A l.length c] ∧ l.length ≤ maxLen ∧ Rd W A 5 (l.map encInstV) ∧ ∀ x ∈ l, GoodI W x := by
 obtain ⟨ls, rows, A, c, h1, h2, h3⟩ := slice_rel (R := fun r (x : InstV) => r = encInstV x ∧ GoodI W x) Tryz.underlying23 (k := 5) (by kernel_rfl) (fun cs n y hlen hy => by
  obtain ⟨x, B, e, _, rfl, hrs⟩ := Inst_cells cs n y hlen hy
  exact ⟨⟨x.id, x.mult, x.price, x.next, ⟨B, e, x.moves⟩⟩, ⟨rfl, hrs⟩, rfl⟩) (by omega) h
 have hrows : rows = ls.map encInstV := by
  apply List.ext_getElem?
  intro i
  rw [List.getElem?_map]
  rcases Nat.lt_or_ge i ls.length with hi | hi
  ·obtain ⟨r, hr, hq, _⟩ := h2.get hi
   rw [hr, List.getElem?_eq_getElem hi, hq]; rfl
  ·rw [List.getElem?_eq_none hi, List.getElem?_eq_none (by rw [h2.len]; omega)]; rfl
 have hcap := h3.cap
 have hroom := h3.room
 rw [h2.len] at hcap
 refine ⟨ls, A, c, h1, by omega, by rw [← hrows]; exact h3.rd, fun x hx => ?_⟩
 obtain ⟨i, hi, rfl⟩ := List.mem_iff_getElem.1 hx
 obtain ⟨r, _, _, hg⟩ := h2.get hi
 exact hg
theorem poss_cells {H : Type} {enc : TypeId × Value → H} {W : World} {spare : Nat → Bool} {held : Bool} {fuel : Nat} {cs : List Value} {y : DataW H × List MemPlace} (h : DataW.trod enc Tryz.prog W 0 spare held fuel 29 cs = some y) :
  ∃ (l : List PosV) (A : Option Addr) (c : Nat), cs = [.slice A l.length c] ∧ l.length ≤ maxLen ∧ Rd W A 3 (l.map encPosV) ∧ (∀ x ∈ l, Rs W 2 (x.legs.val.map encLeg) x.legs.A x.legs.c) ∧ ∀ x ∈ l, ∀ z ∈ x.legs.val, okLeg z := by
 obtain ⟨ls, rows, A, c, h1, h2, h3⟩ := slice_rel (R := fun r (x : PosV) => r = encPosV x ∧ (∀ z ∈ x.legs.val, okLeg z) ∧ Rs W 2 (x.legs.val.map encLeg) x.legs.A x.legs.c) Tryz.underlying29 (k := 3) (by kernel_rfl) (fun cs n y hlen hy => by
  obtain ⟨x, e, hok, hrs⟩ := PosV_cells cs n y hlen hy
  exact ⟨x, ⟨e, hok, hrs⟩, by rw [e]; rfl⟩) (by omega) h
 have hrows : rows = ls.map encPosV := by
  apply List.ext_getElem?
  intro i
  rw [List.getElem?_map]
  rcases Nat.lt_or_ge i ls.length with hi | hi
  ·obtain ⟨r, hr, hq, _⟩ := h2.get hi
   rw [hr, List.getElem?_eq_getElem hi, hq]; rfl
  ·rw [List.getElem?_eq_none hi, List.getElem?_eq_none (by rw [h2.len]; omega)]; rfl
 have hcap := h3.cap
 have hroom := h3.room
 rw [h2.len] at hcap
 refine ⟨ls, A, c, h1, by omega, by rw [← hrows]; exact h3.rd, fun x hx => ?_, fun x hx => ?_⟩
 ·obtain ⟨i, hi, rfl⟩ := List.mem_iff_getElem.1 hx
  obtain ⟨r, _, _, _, hg⟩ := h2.get hi
  exact hg
 ·obtain ⟨i, hi, rfl⟩ := List.mem_iff_getElem.1 hx
  obtain ⟨r, _, _, hg, _⟩ := h2.get hi
  exact hg
theorem holds_cells {H : Type} {enc : TypeId × Value → H} {W : World} {spare : Nat → Bool} {held : Bool} {fuel : Nat} {cs : List Value} {y : DataW H × List MemPlace} (h : DataW.trod enc Tryz.prog W 0 spare held fuel 31 cs = some y) :
  ∃ (l : List HoldV) (A : Option Addr) (c : Nat), cs = [.slice A l.length c] ∧ l.length ≤ maxLen ∧ Rd W A 3 (l.map encHoldV) ∧ (∀ x ∈ l, Rs W 3 (x.lots.val.map encLot) x.lots.A x.lots.c) ∧ ∀ x ∈ l, ∀ z ∈ x.lots.val, okLot z := by
 obtain ⟨ls, rows, A, c, h1, h2, h3⟩ := slice_rel (R := fun r (x : HoldV) => r = encHoldV x ∧ (∀ z ∈ x.lots.val, okLot z) ∧ Rs W 3 (x.lots.val.map encLot) x.lots.A x.lots.c) Tryz.underlying31 (k := 3) (by kernel_rfl) (fun cs n y hlen hy => by
  obtain ⟨x, e, hok, hrs⟩ := HoldV_cells cs n y hlen hy
  exact ⟨x, ⟨e, hok, hrs⟩, by rw [e]; rfl⟩) (by omega) h
 have hrows : rows = ls.map encHoldV := by
  apply List.ext_getElem?
  intro i
  rw [List.getElem?_map]
  rcases Nat.lt_or_ge i ls.length with hi | hi
  ·obtain ⟨r, hr, hq, _⟩ := h2.get hi
   rw [hr, List.getElem?_eq_getElem hi, hq]; rfl
  ·rw [List.getElem?_eq_none hi, List.getElem?_eq_none (by rw [h2.len]; omega)]; rfl
 have hcap := h3.cap
 have hroom := h3.room
 rw [h2.len] at hcap
 refine ⟨ls, A, c, h1, by omega, by rw [← hrows]; exact h3.rd, fun x hx => ?_, fun x hx => ?_⟩
 ·obtain ⟨i, hi, rfl⟩ := List.mem_iff_getElem.1 hx
  obtain ⟨r, _, _, _, hg⟩ := h2.get hi
  exact hg
 ·obtain ⟨i, hi, rfl⟩ := List.mem_iff_getElem.1 hx
  obtain ⟨r, _, _, hg, _⟩ := h2.get hi
  exact hg
end
end Go.Proofs.YtalgfpegaobacaaGreatDoor
