/- Joined. -/
import Derived.Test.YtalgfpegaobacaaGreatDoorQz27
import Derived.Test.YtalgfpegaobacaaGreatDoorQa14
namespace Go.Proofs.YtalgfpegaobacaaGreatDoor
set_option linter.all false
set_option maxHeartbeats 64000000
set_option maxRecDepth 100000
open Go.RowKit
open Lib (hid)
theorem refHoldVOf (l : List HoldV) (u : Un) (A : Option Addr) (c : Nat) (w : World) (hl : l.length ≤ 1000000) (hr : Rd w A 3 (l.map encHoldV)) (hg : ∀ x ∈ l, GoodHoldV w x) :
  Calls Tryz.prog 88 #[.slice A l.length c, .agg #[.int .i64 u.acc, .int .i64 u.cli]] w fun e w' => ∃ A2 c2, e = .returned (.slice A2 (ofK (l.map lgHoldV) u).length c2) ∧ Rs w' 3 ((ofK (l.map lgHoldV) u).map encLot) A2 c2 ∧ Below w.heap.size w w' := by
 have HR := hid hr
 have HG := hid hg
 clear hr hg
 obtain ⟨R, hR⟩ : ∃ R, R = ofK (l.map lgHoldV) u := ⟨_, rfl⟩
 rw [← hR]
 have HRR := hid hR
 clear hR
 go_enter Tryz.func88, Tryz.ntmps88
 go_wp2_with fail
 go_loopw [5] (fun i wr => ∃ k : Nat, k ≤ l.length ∧ i = .int .i64 k ∧ R = ofK ((l.drop k).map lgHoldV) u ∧ Below w.heap.size w wr ∧ w.heap.size < wr.heap.size ∧ wr.cell? ⟨w.heap.size, 0, none⟩ = some (.int .i64 u.acc) ∧ wr.cell? ⟨w.heap.size, 1, none⟩ = some (.int .i64 u.cli)) (fun i _ => l.length - (intOf i).toNat)
 case atStart => exact ⟨0, Nat.zero_le _, rfl, HRR.out, tB, by simp, by simp [go_sem], by simp [go_sem]⟩
 case round =>
  obtain ⟨k, hk, rfl, hv, hbl, hsz, g0, g1⟩ := hrel
  have HV := hid hv
  have Hbl := hid hbl
  have hz := hbl.size
  clear hv hbl
  by_cases hlt : k < l.length
  ·have kl : (k : Int) < (l.length : Int) := by omega
   have dl := @dT k l.length hlt
   have hgk := HG.out l[k] (List.getElem_mem hlt)
   have HGK := hid (hgk.2.keep Hbl.out)
   have hd := lg_atHoldV hlt
   clear hgk
   obtain ⟨b, o, rfl, hb, hc⟩ := HR.out k (encHoldV l[k]) (by simp [hlt])
   have e0 := tC Hbl hb (hc 0 _ rfl)
   have e1 := tC Hbl hb (hc 1 _ rfl)
   have e2 := tC Hbl hb (hc 2 _ rfl)
   simp only [Nat.add_zero] at e0
   clear hc
   have hbw : b < wr.heap.size := by omega
   rcases un_tHoldV (x := l[k].unit) (u := u) with h | h
   ·have HN := hid (show R = l[k].lots.val from by rw [HV.out, hd]; unfold ofK; rw [if_pos (show (lgHoldV l[k]).unit = u from h)]; rfl)
    rw [h] at e0 e1
    clear hd h
    go_wp2_with fail
    go_quiet (fail)
    go_wp2_with fail
    go_ret
    exact ⟨l[k].lots.A, l[k].lots.c, by rw [HN.out]; rfl, by rw [HN.out]; exact HGK.out.keep tB, by have hbl := Hbl.out; exact tB⟩
   ·have HN := hid (show R = ofK ((l.drop (k + 1)).map lgHoldV) u from by rw [HV.out, hd, ofK, if_neg (show ¬ (lgHoldV l[k]).unit = u from un_dHoldV h)])
    clear hd
    rcases h with h | h
    all_goals
     go_wp2_with fail
     go_quiet (fail)
     go_wp2_with fail
     go_roundw
     case rel => exact ⟨k + 1, by omega, by go_num, HN.out, by have hbl := Hbl.out; exact tB, by simp; omega, by simp [go_sem, g0], by simp [go_sem, g1]⟩
     case measure => simp [intOf]; omega
  ·have dl := @dF k l.length hlt
   have HD := hid (show R = [] from by rw [HV.out, drop_all (l := l) (k := k) (by omega)]; rfl)
   go_wp2_with fail
   go_ret
   exact ⟨none, 0, by rw [HD.out]; rfl, by rw [HD.out]; exact Rs.empty _ _, by have hbl := Hbl.out; exact tB⟩
theorem ref19Held (l : List PosV) (us : List Un) (A B : Option Addr) (c d : Nat) (w : World) (hl : l.length ≤ 1000000) (hul : us.length ≤ 100000) (h64 : L64 (l.map lgPosV)) (hr : Rd w A 3 (l.map encPosV)) (hg : ∀ x ∈ l, GoodPosV w x) (hgl : ∀ x ∈ l, x.legs.val.length ≤ 100000) (hru : Rd w B 2 (us.map encUn)) :
  Calls Tryz.prog 77 #[.slice A l.length c, .slice B us.length d] w fun e w' => e = .returned (.tuple #[.int .i64 (heldN (l.map lgPosV) us), .int .i64 (heldC (l.map lgPosV) us)]) ∧ Below w.heap.size w w' := by
 have HR := hid hr
 have HG := hid hg
 have HU := hid hru
 have H64 := hid (fun u => of64 h64 u)
 have ci := fun W (h : Below w.heap.size w W) => refPosVIs l A c W (by omega) (hr.keep h) (fun x hx => (hg x hx).keep h)
 have hib : isPosV l = isK isV (l.map lgPosV) := rfl
 rw [hib] at ci
 have HOF := hid (fun u => show (ofK (l.map lgPosV) u).length ≤ 100000 from by
  rcases ofK_mem (l := l.map lgPosV) (u := u) with ⟨x, hx, _, e⟩ | ⟨_, e⟩
  ·obtain ⟨y, hy, rfl⟩ := List.mem_map.1 hx
   rw [e]; exact hgl y hy
  ·rw [e]; simp)
 clear hr hg hru h64 hib hgl
 cases hk : isK isV (l.map lgPosV)
 ·rw [hk] at ci
  have CI := hid ci
  have HC := hid (show heldC (l.map lgPosV) us = 3 from by unfold heldC; rw [hk]; rfl)
  have HL := hid (show heldN (l.map lgPosV) us = 0 from by unfold heldN; rw [hk]; rfl)
  rw [HC.out, HL.out]
  clear ci hk
  go_enter Tryz.func77, Tryz.ntmps77
  go_wp2_with (first | (go_at_call 56; (with_reducible refine cM (CI.out _ tB) fun w1 hb1 fc1 fg1 hc1 hf1 hz1 => ?_); (try simp at hz1)) | fail)
  go_ret2
  exact ⟨rfl, tB⟩
 rw [hk] at ci
 have CI := hid ci
 obtain ⟨FC, hFC⟩ : ∃ F : Un → Int, F = fun u => grossC (ofK (l.map lgPosV) u) := ⟨_, rfl⟩
 obtain ⟨FN, hFN⟩ : ∃ F : Un → Int, F = fun u => grossN (ofK (l.map lgPosV) u) := ⟨_, rfl⟩
 have HC := hid (show heldC (l.map lgPosV) us = if firstC FC us = 0 then sum64C (us.map FN) else firstC FC us from by unfold heldC; rw [hk, hFC, hFN]; rfl)
 have HN := hid (show heldN (l.map lgPosV) us = if firstC FC us = 0 then sum64N (us.map FN) else 0 from by unfold heldN; rw [hk, hFC, hFN]; rfl)
 have HFC := hid (fun u => congrFun hFC u)
 have HFN := hid (fun u => congrFun hFN u)
 have HF64 := hid (show ∀ u, In64 (FN u) from fun u => by rw [hFN]; exact gross64 _)
 generalize heldC (l.map lgPosV) us = RC at *
 generalize heldN (l.map lgPosV) us = RN at *
 clear ci hk hFC hFN
 go_enter Tryz.func77, Tryz.ntmps77
 go_wp2_with (first | (go_at_call 56; (with_reducible refine cM (CI.out _ tB) fun w1 hb1 fc1 fg1 hc1 hf1 hz1 => ?_); (try simp at hz1)) | fail)
 have Hb1 := hid hb1
 clear hc1 hf1 hb1
 go_loopw [7] (fun i wr => ∃ (k : Nat) (s5 : Bool) (A5 : Option Addr) (l5 : List Int) (c5 : Nat), k ≤ us.length ∧ i = .int .i64 k ∧ firstC FC us = firstC FC (us.drop k) ∧ IsBig wr ((us.take k).map FN).sum s5 A5 l5 c5 ∧ l5.length ≤ 70 + k ∧ Blk wr w1.heap.size 141 #[.bool s5, .slice A5 l5.length c5] ∧ Below w.heap.size w wr) (fun i _ => us.length - (intOf i).toNat)
 case atStart => exact ⟨0, false, none, [], 0, Nat.zero_le _, rfl, rfl, isBig_zero _, by simp, by show Blk _ _ _ #[.bool false, .slice none 0 0]; exact tL, by have hb1 := Hb1.out; exact tB⟩
 case round =>
  obtain ⟨k, s5, A5, l5, c5, hk, rfl, hv, hB5, hl5, hbk, hbl⟩ := hrel
  have HV := hid hv
  have HB5 := hid hB5
  have Hbk := hid hbk
  have Hbl := hid hbl
  have hz := hbl.size
  have b0 := hbk.cell 0
  have b1 := hbk.cell 1
  have z0 := hbk.frozen 0
  have z1 := hbk.frozen 1
  have ug := hbk.lt
  simp [go_sem] at b0 b1
  clear hv hbl hB5 hbk
  by_cases hlt : k < us.length
  ·have kl : (k : Int) < (us.length : Int) := by omega
   have dl := @dT k us.length hlt
   obtain ⟨b, o, rfl, hb, hc⟩ := HU.out k (encUn us[k]) (by simp [hlt])
   have e0 := tC Hbl hb (hc 0 _ rfl)
   have e1 := tC Hbl hb (hc 1 _ rfl)
   simp only [Nat.add_zero] at e0
   clear hc
   have hbw : b < wr.heap.size := by omega
   have HD := hid (drop_cons' hlt)
   have HM := hid (show ((us.take (k + 1)).map FN).sum = ((us.take k).map FN).sum + FN us[k] from by rw [map_snoc hlt, List.sum_append]; simp)
   have hol := HOF.out us[k]
   have h64 := H64.out us[k]
   have CO := hid (ref19OfW l us[k] A c w wr (by omega) (HR.out.keep Hbl.out) HG.out)
   have hfc := HFC.out us[k]
   have hfn := HFN.out us[k]
   have hn64 := HF64.out us[k]
   generalize ofK (l.map lgPosV) us[k] = O at *
   have cg := fun A2 c2 W (h : Rd W A2 2 (O.map encLeg)) => ref11Gross O A2 c2 W hol h64 h
   by_cases hz0 : FC us[k] = 0
   ·have HV2 := hid (show firstC FC us = firstC FC (us.drop (k + 1)) from by rw [HV.out, HD.out, firstC_step hz0])
    rw [← hfc, hz0, ← hfn] at cg
    have CG := hid cg
    clear cg hfc hfn hz0 h64
    generalize FN us[k] = n at *
    generalize ((us.take k).map FN).sum = sm at *
    go_wp2_with (first | (go_at_call 87; (with_reducible refine (CO.out).mono ?_); rintro e w3 ⟨A3, c3, rfl, hrs3, hb3⟩; have HS3 := hid hrs3.rd; clear hrs3; obtain ⟨fc3, fg3, hc3, hf3, hz3⟩ := bget hb3; (try simp at hz3)) | (go_at_call 117; (with_reducible refine cM (CG.out _ _ _ (HS3.out.keep (by have hbl := Hbl.out; exact tB))) fun w4 hb4 fc4 fg4 hc4 hf4 hz4 => ?_); (try simp at hz4)) | fail)
    have d0 : w4.cell? ⟨w1.heap.size, 0, none⟩ = some (.bool s5) := by simp [hc4, hc3, b0, ↓IntWalk.iteOmega]
    have d1 : w4.cell? ⟨w1.heap.size, 1, none⟩ = some (.slice A5 l5.length c5) := by simp [hc4, hc3, b1, ↓IntWalk.iteOmega]
    refine wp_region_held_drew (S := (fun w' => True)) (by kernel_rfl) ?_ (fun hHeld => ?_)
    ·trivial
    refine tQ 1 ?_
    refine tS ?_
    refine wpAnyH_ready (rs := [0, 2]) (by kernel_rfl) (by simp) ?_
    refine AllReadyH.cons rfl (fun K hK => ?_) (AllReadyH.cons rfl (fun K hK => ?_) AllReadyH.nil)
    ·(try simp only [List.getElem_toArray, List.getElem_cons_zero])
     go_simp
     (try go_wp2_with fail)
     refine hK.out _ _ ?_ (fun hHeld => ?_)
     focus ((exact tK); done)
     refine tS ?_
     refine tR (.cons (i := 2) rfl (fun K hK => ?_) .nil)
     refine tG ?_
     go_simp
     (go_at_call 80; (with_reducible refine (bigOf n _ hn64).mono ?_); rintro e w6 ⟨s6, A6, l6, c6, rfl, hB6, hl6, hb6⟩; have HB6 := hid hB6; clear hB6; obtain ⟨fc6, fg6, hc6, hf6, hz6⟩ := bget hb6; (try simp at hz6))
     refine hK.out _ _ ?_ (fun hHeld => ?_)
     focus ((exact tK); done)
     refine tS ?_
     refine tR (.cons (i := 3) rfl (fun K hK => ?_) .nil)
     refine tG ?_
     go_simp
     (go_at_call 118; (with_reducible refine (bigAdd sm n s5 s6 l5 l6 A5 A6 c5 c6 (70 + k) _ (by omega) hl5 (by omega) (HB5.out.keep tB) (HB6.out.keep tB)).mono ?_); rintro e w7 ⟨s7, A7, l7, c7, rfl, hB7, hl7, hb7⟩; have HB7 := hid hB7; clear hB7; obtain ⟨fc7, fg7, hc7, hf7, hz7⟩ := bget hb7; (try simp at hz7))
     refine hK.out _ _ ?_ (fun hHeld => ?_)
     focus ((exact tK); done)
     refine tS ?_
     refine tR (.cons (i := 4) rfl (fun K hK => ?_) .nil)
     refine tG ?_
     go_simp
     go_wp2_with fail
     refine hK.out _ _ ?_ (fun hHeld => ?_)
     focus ((exact tK); done)
     refine tS ?_
     refine wpAnyH_done (by kernel_rfl) ?_ _
     go_wp2_with fail
     go_roundw
     case rel =>
      have t0 : w7.cell? ⟨w1.heap.size, 0, none⟩ = some (.bool s5) := by simp [hc7, hc6, hc4, hc3, b0, ↓IntWalk.iteOmega]
      have t1 : w7.cell? ⟨w1.heap.size, 1, none⟩ = some (.slice A5 l5.length c5) := by simp [hc7, hc6, hc4, hc3, b1, ↓IntWalk.iteOmega]
      refine ⟨k + 1, s7, A7, l7, c7, by omega, by go_num, HV2.out, ?_, by omega, ?_, ?_⟩
      ·rw [HM.out]
       exact (HB7.out.far t0 (by simp) _).far ((World.cell?_setCell_other _ _ _ _ (by simp)).trans t1) (by simp) _
      ·have hbk := Hbk.out
       have h5 := ((show Blk w7 w1.heap.size 141 #[.bool s5, .slice A5 l5.length c5] by exact tL).set 0 (.bool s7)).set 1 (.slice A7 l7.length c7)
       simpa using h5
      ·have hbl := Hbl.out
       exact tB
     case measure => (simp [intOf]; omega)
    ·refine tG ?_
     go_simp
     (go_at_call 80; (with_reducible refine (bigOf n _ hn64).mono ?_); rintro e w6 ⟨s6, A6, l6, c6, rfl, hB6, hl6, hb6⟩; have HB6 := hid hB6; clear hB6; obtain ⟨fc6, fg6, hc6, hf6, hz6⟩ := bget hb6; (try simp at hz6))
     refine hK.out _ _ ?_ (fun hHeld => ?_)
     focus ((exact tK); done)
     refine tS ?_
     refine tR (.cons (i := 0) rfl (fun K hK => ?_) .nil)
     (try simp only [List.getElem_toArray, List.getElem_cons_zero])
     go_simp
     (try go_wp2_with fail)
     refine hK.out _ _ ?_ (fun hHeld => ?_)
     focus ((exact tK); done)
     refine tS ?_
     refine tR (.cons (i := 3) rfl (fun K hK => ?_) .nil)
     refine tG ?_
     go_simp
     (go_at_call 118; (with_reducible refine (bigAdd sm n s5 s6 l5 l6 A5 A6 c5 c6 (70 + k) _ (by omega) hl5 (by omega) (HB5.out.keep tB) (HB6.out.keep tB)).mono ?_); rintro e w7 ⟨s7, A7, l7, c7, rfl, hB7, hl7, hb7⟩; have HB7 := hid hB7; clear hB7; obtain ⟨fc7, fg7, hc7, hf7, hz7⟩ := bget hb7; (try simp at hz7))
     refine hK.out _ _ ?_ (fun hHeld => ?_)
     focus ((exact tK); done)
     refine tS ?_
     refine tR (.cons (i := 4) rfl (fun K hK => ?_) .nil)
     refine tG ?_
     go_simp
     go_wp2_with fail
     refine hK.out _ _ ?_ (fun hHeld => ?_)
     focus ((exact tK); done)
     refine tS ?_
     refine wpAnyH_done (by kernel_rfl) ?_ _
     go_wp2_with fail
     go_roundw
     case rel =>
      have t0 : w7.cell? ⟨w1.heap.size, 0, none⟩ = some (.bool s5) := by simp [hc7, hc6, hc4, hc3, b0, ↓IntWalk.iteOmega]
      have t1 : w7.cell? ⟨w1.heap.size, 1, none⟩ = some (.slice A5 l5.length c5) := by simp [hc7, hc6, hc4, hc3, b1, ↓IntWalk.iteOmega]
      refine ⟨k + 1, s7, A7, l7, c7, by omega, by go_num, HV2.out, ?_, by omega, ?_, ?_⟩
      ·rw [HM.out]
       exact (HB7.out.far t0 (by simp) _).far ((World.cell?_setCell_other _ _ _ _ (by simp)).trans t1) (by simp) _
      ·have hbk := Hbk.out
       have h5 := ((show Blk w7 w1.heap.size 141 #[.bool s5, .slice A5 l5.length c5] by exact tL).set 0 (.bool s7)).set 1 (.slice A7 l7.length c7)
       simpa using h5
      ·have hbl := Hbl.out
       exact tB
     case measure => (simp [intOf]; omega)
   ·have n0 : (FC us[k] != 0) = true := by simpa using hz0
    have HV2 := hid (show firstC FC us = FC us[k] from by rw [HV.out, HD.out, firstC_stop hz0])
    have HNZ := hid hz0
    rw [← hfc, ← hfn] at cg
    have CG := hid cg
    clear cg hfc hfn hz0 h64
    generalize hcd : FC us[k] = code at *
    generalize FN us[k] = n at *
    clear hcd
    go_wp2_with (first | (go_at_call 87; (with_reducible refine (CO.out).mono ?_); rintro e w3 ⟨A3, c3, rfl, hrs3, hb3⟩; have HS3 := hid hrs3.rd; clear hrs3; obtain ⟨fc3, fg3, hc3, hf3, hz3⟩ := bget hb3; (try simp at hz3)) | (go_at_call 117; (with_reducible refine cM (CG.out _ _ _ (HS3.out.keep (by have hbl := Hbl.out; exact tB))) fun w4 hb4 fc4 fg4 hc4 hf4 hz4 => ?_); (try simp at hz4)) | fail)
    go_ret2
    exact ⟨by rw [HC.out, HN.out, HV2.out, if_neg HNZ.out, if_neg HNZ.out]; rfl, by have h1 := Hbl.out; exact tB⟩
  ·have dl := @dF k us.length hlt
   have hfz : firstC FC us = 0 := by rw [HV.out, drop_all (by omega)]; rfl
   have hB := HB5.out
   rw [show us.take k = us from List.take_of_length_le (by omega)] at hB
   have HB2 := hid hB
   rw [hfz, if_pos rfl] at HC HN
   have HC2 := hid (show RC = if in64 (us.map FN).sum then 0 else 7 from HC.out)
   have HN2 := hid (show RN = if in64 (us.map FN).sum then (us.map FN).sum else 0 from HN.out)
   generalize (us.map FN).sum = Z at *
   clear hfz hB HC HN
   cases hm : in64 Z
   ·have HM := hid hm
    clear hm
    go_wp2_with (go_at_call 119; (with_reducible refine (bigFits _ s5 l5 A5 c5 (70 + k) _ (by omega) hl5 HB2.out).mono ?_); rw [HM.out]; rintro e w5 ⟨rfl, hb5⟩; obtain ⟨fc5, fg5, hc5, hf5, hz5⟩ := bget hb5; (try simp at hz5))
    go_ret2
    exact ⟨by rw [HC2.out, HN2.out, HM.out]; rfl, by have h1 := Hbl.out; exact tB⟩
   ·have HM := hid hm
    have HI := hid (in64_iff.1 hm)
    clear hm
    go_wp2_with (first | (go_at_call 119; (with_reducible refine (bigFits _ s5 l5 A5 c5 (70 + k) _ (by omega) hl5 HB2.out).mono ?_); rw [HM.out]; rintro e w5 ⟨rfl, hb5⟩; obtain ⟨fc5, fg5, hc5, hf5, hz5⟩ := bget hb5; (try simp at hz5)) | (go_at_call 120; (with_reducible refine cM (bigInt _ s5 l5 A5 c5 _ (by omega) HI.out (HB2.out.keep tB)) fun w6 hb6 fc6 fg6 hc6 hf6 hz6 => ?_); (try simp at hz6)))
    go_ret2
    exact ⟨by rw [HC2.out, HN2.out, HM.out]; rfl, by have h1 := Hbl.out; exact tB⟩
theorem unitsOf_step {L : List Acct} {id : Int} {k : Nat} (h : k < L.length) : unitsOfL (ofL (L.take (k + 1)) id) = unitsOfL (ofL (L.take k) id) ++ if L[k].member = id then unitsA L[k] else [] := by
 rw [List.take_succ_eq_append_getElem h]
 unfold ofL
 rw [List.filter_append, unitsOf_app, List.filter_cons]
 by_cases hm : L[k].member = id
 ·rw [if_pos (by simpa using hm), if_pos hm]
  show _ ++ (_ ++ []) = _
  rw [List.append_nil]
 ·rw [if_neg (by simpa using hm), if_neg hm]
  rfl
theorem ref29Units (s : StV) (id : Int) (w : World) (hl : s.acs.val.length ≤ 1000) (hr : Rd w s.acs.A 4 (s.acs.val.map encAcctV)) (hg : ∀ x ∈ s.acs.val, x.clients.val.length ≤ 1000 ∧ GoodA w x) :
  Calls Tryz.prog 78 #[.agg #[.int .i64 (s).day, .slice (s).mem.A (s).mem.val.length (s).mem.c, .slice (s).ins.A (s).ins.val.length (s).ins.c, .slice (s).ats.A (s).ats.val.length (s).ats.c, .slice (s).acs.A (s).acs.val.length (s).acs.c, .slice (s).cho.A (s).cho.val.length (s).cho.c, .slice (s).grp.A (s).grp.val.length (s).grp.c, .slice (s).giv.A (s).giv.val.length (s).giv.c, .slice (s).bk.A (s).bk.val.length (s).bk.c, .slice (s).sale.A (s).sale.val.length (s).sale.c, .slice (s).pu.A (s).pu.val.length (s).pu.c, .slice (s).ho.A (s).ho.val.length (s).ho.c], .int .i64 id] w fun e w' => ∃ A c, e = .returned (.slice A (unitsOfL (ofL (s.acs.val.map lgA) id)).length c) ∧ Rs w' 2 ((unitsOfL (ofL (s.acs.val.map lgA) id)).map encUn) A c ∧ Below w.heap.size w w' := by
 have HR := hid hr
 have HG := hid hg
 obtain ⟨L, hL⟩ : ∃ L, L = s.acs.val.map lgA := ⟨_, rfl⟩
 rw [← hL]
 have HLE := hid hL
 have hLl : L.length ≤ s.acs.val.length ∧ s.acs.val.length ≤ L.length := by rw [hL, List.length_map]; omega
 have HLG := hid (show ∀ k (h : k < s.acs.val.length) (h2 : k < L.length), L[k] = lgA s.acs.val[k] from fun k h h2 => by subst hL; simp)
 have HCM := hid (show ∀ a ∈ L, a.clients.length ≤ 1000 from fun a ha => by
  rw [hL] at ha
  obtain ⟨x, hx, rfl⟩ := List.mem_map.1 ha
  exact (hg x hx).1)
 clear hr hg hL
 go_enter Tryz.func78, Tryz.ntmps78
 go_wp2_with fail
 go_loopw [5, 6] (fun v i wr => ∃ k : Nat, k ≤ s.acs.val.length ∧ i = .int .i64 k ∧ Own wr (w.heap.size + 1) 60 2 v ((unitsOfL (ofL (L.take k) id)).map encUn) ∧ Below w.heap.size w wr ∧ w.heap.size < wr.heap.size ∧ wr.cell? ⟨w.heap.size, 4, none⟩ = some (.slice s.acs.A s.acs.val.length s.acs.c)) (fun _ i _ => s.acs.val.length - (intOf i).toNat)
 case atStart => exact ⟨0, Nat.zero_le _, rfl, Own.nil _ _ _ _, tB, by simp, by simp [go_sem]⟩
 case round =>
  obtain ⟨k, hk, rfl, hown, hbl, hsz, hc4⟩ := hrel
  have Hown := hid hown
  have Hbl := hid hbl
  have hz := hbl.size
  clear hown hbl
  by_cases hlt : k < s.acs.val.length
  ·have kl : (k : Int) < (s.acs.val.length : Int) := by omega
   have dl : decide ((k : Int) < (s.acs.val.length : Int)) = true := by simpa using hlt
   have hgk := HG.out s.acs.val[k] (List.getElem_mem hlt)
   obtain ⟨b, o, hA, hb, hc⟩ := HR.out k (encAcctV s.acs.val[k]) (by simp [hlt])
   rw [hA] at hc4
   have HA := hid hA
   have e0 := tC Hbl hb (hc 0 _ rfl)
   have e1 := tC Hbl hb (hc 1 _ rfl)
   have e2 := tC Hbl hb (hc 2 _ rfl)
   have e3 := tC Hbl hb (hc 3 _ rfl)
   simp only [Nat.add_zero] at e0
   clear hc hA
   have hbw : b < wr.heap.size := by omega
   have hkL : k < L.length := by omega
   have hLk := HLG.out k hlt hkL
   have hst := unitsOf_step (id := id) hkL
   rw [hLk] at hst
   have hul := unitsA_le (lgA s.acs.val[k])
   have hcl : (lgA s.acs.val[k]).clients.length ≤ 1000 := hgk.1
   have htl := unitsOf_len (l := ofL (L.take k) id) (m := 1000) fun a ha => HCM.out a (List.mem_of_mem_take (ofL_mem ha).1)
   have htk := ofL_len (L.take k) id
   rw [List.length_take] at htk
   have htl2 : (unitsOfL (ofL (L.take k) id)).length ≤ 1001000 := by omega
   have CU := hid (fun W (h : Below w.heap.size w W) => ref15UnitsN s.acs.val[k] W (Nat.le_trans hgk.1 (by omega)) (hgk.2.keep h))
   clear htl htk hLk hgk
   generalize unitsA (lgA s.acs.val[k]) = U at *
   by_cases hm : s.acs.val[k].member = id
   ·have b1 : (s.acs.val[k].member == id) = true := by simpa using hm
    rw [if_pos (show (lgA s.acs.val[k]).member = id from hm)] at hst
    have HST := hid hst
    clear hst hm
    go_wp2_with (first | (go_at_call 34; (with_reducible refine (CU.out _ (by have h := Hbl.out; exact tB)).mono ?_); rintro e w2 ⟨A2, c2, rfl, hrs2, hb2⟩; have HS2 := hid hrs2; clear hrs2; obtain ⟨fc2, fg2, hc2, hf2, hz2⟩ := bget hb2; (try simp at hz2)) | (at_builtin; refine wpList_app rfl _ _ _ rfl elUn (w.heap.size + 1) _ _ rfl (Hown.out.keep tB) A2 U.length c2 rfl (U.map encUn) (by simp) HS2.out.nil (HS2.out.rd) (rowsUn U) (by unfold maxLen; exact tE) tE tZ ?_; intro v3 w3 hown3 hb3) | fail)
    go_roundw
    case rel => exact ⟨k + 1, by omega, by go_num, by rw [HST.out, List.map_append]; exact hown3, by have h1 := Hbl.out; exact tB, by have := hb3.size; omega, by rw [hb3.cell (p := ⟨w.heap.size, 4, none⟩) (by simp), HA.out]; simp [hc2, hc4, hsz, ↓IntWalk.iteOmega]⟩
    case measure => simp [intOf]; omega
   ·have b1 : (s.acs.val[k].member == id) = false := by simpa using hm
    rw [if_neg (show ¬ (lgA s.acs.val[k]).member = id from hm), List.append_nil] at hst
    have HST := hid hst
    clear hst hm
    go_wp2_with fail
    go_roundw
    case rel => exact ⟨k + 1, by omega, by go_num, by rw [HST.out]; exact Hown.out, Hbl.out, hsz, by rw [HA.out]; exact hc4⟩
    case measure => simp [intOf]; omega
  ·have dl : decide ((k : Int) < (s.acs.val.length : Int)) = false := by simpa using hlt
   have HT := hid (show L.take k = L from List.take_of_length_le (by omega))
   go_wp2_with (fail)
   go_ret
   have := Hown.out
   rw [HT.out] at this
   obtain ⟨A2, c2, rfl, hrs2, _⟩ := this.rs
   rw [List.length_map]
   exact ⟨_, _, rfl, hrs2, Hbl.out⟩
theorem ref29Used (s : StV) (id : Int) (w : World) (hl : s.acs.val.length ≤ 60) (hr : Rd w s.acs.A 4 (s.acs.val.map encAcctV)) (hg : ∀ x ∈ s.acs.val, x.clients.val.length ≤ 1000 ∧ GoodA w x)
  (hlb : s.bk.val.length ≤ 1000) (h64 : L64 (s.bk.val.map lgPosV)) (hrb : Rd w s.bk.A 3 (s.bk.val.map encPosV)) (hgb : ∀ x ∈ s.bk.val, GoodPosV w x) (hgl : ∀ x ∈ s.bk.val, x.legs.val.length ≤ 100000) :
  Calls Tryz.prog 41 #[.agg #[.int .i64 (s).day, .slice (s).mem.A (s).mem.val.length (s).mem.c, .slice (s).ins.A (s).ins.val.length (s).ins.c, .slice (s).ats.A (s).ats.val.length (s).ats.c, .slice (s).acs.A (s).acs.val.length (s).acs.c, .slice (s).cho.A (s).cho.val.length (s).cho.c, .slice (s).grp.A (s).grp.val.length (s).grp.c, .slice (s).giv.A (s).giv.val.length (s).giv.c, .slice (s).bk.A (s).bk.val.length (s).bk.c, .slice (s).sale.A (s).sale.val.length (s).sale.c, .slice (s).pu.A (s).pu.val.length (s).pu.c, .slice (s).ho.A (s).ho.val.length (s).ho.c], .int .i64 id] w fun e w' => e = .returned (.tuple #[.int .i64 (heldN (s.bk.val.map lgPosV) (unitsOfL (ofL (s.acs.val.map lgA) id))), .int .i64 (heldC (s.bk.val.map lgPosV) (unitsOfL (ofL (s.acs.val.map lgA) id)))]) ∧ Below w.heap.size w w' := by
 have CU := hid (fun W (h : Below w.heap.size w W) => ref29Units s id W (by omega) (hr.keep h) (fun x hx => ⟨(hg x hx).1, (hg x hx).2.keep h⟩))
 have hul : (unitsOfL (ofL (s.acs.val.map lgA) id)).length ≤ 100000 := by
  have h1 := unitsOf_len (l := ofL (s.acs.val.map lgA) id) (m := 1000) fun a ha => by
   obtain ⟨x, hx, rfl⟩ := List.mem_map.1 (ofL_mem ha).1
   exact (hg x hx).1
  have h2 := ofL_len (s.acs.val.map lgA) id
  rw [List.length_map] at h2
  omega
 have CH := hid (fun us (hu : us.length ≤ 100000) B d W (h : Below w.heap.size w W) (h2 : Rd W B 2 (us.map encUn)) => ref19Held s.bk.val us s.bk.A B s.bk.c d W (by omega) hu h64 (hrb.keep h) (fun x hx => (hgb x hx).keep h) hgl h2)
 clear hr hg h64 hrb hgb hgl
 generalize unitsOfL (ofL (s.acs.val.map lgA) id) = U at *
 go_enter Tryz.func41, Tryz.ntmps41
 go_wp2_with fail
 go_region_held3 (fun w' => ((w').cell? ⟨w.heap.size, 0, none⟩ = some (.int .i64 (s).day) ∧ (w').cell? ⟨w.heap.size, 1, none⟩ = some (.slice (s).mem.A (s).mem.val.length (s).mem.c) ∧ (w').cell? ⟨w.heap.size, 2, none⟩ = some (.slice (s).ins.A (s).ins.val.length (s).ins.c) ∧ (w').cell? ⟨w.heap.size, 3, none⟩ = some (.slice (s).ats.A (s).ats.val.length (s).ats.c) ∧ (w').cell? ⟨w.heap.size, 4, none⟩ = some (.slice (s).acs.A (s).acs.val.length (s).acs.c) ∧ (w').cell? ⟨w.heap.size, 5, none⟩ = some (.slice (s).cho.A (s).cho.val.length (s).cho.c) ∧ (w').cell? ⟨w.heap.size, 6, none⟩ = some (.slice (s).grp.A (s).grp.val.length (s).grp.c) ∧ (w').cell? ⟨w.heap.size, 7, none⟩ = some (.slice (s).giv.A (s).giv.val.length (s).giv.c) ∧ (w').cell? ⟨w.heap.size, 8, none⟩ = some (.slice (s).bk.A (s).bk.val.length (s).bk.c) ∧ (w').cell? ⟨w.heap.size, 9, none⟩ = some (.slice (s).sale.A (s).sale.val.length (s).sale.c) ∧ (w').cell? ⟨w.heap.size, 10, none⟩ = some (.slice (s).pu.A (s).pu.val.length (s).pu.c) ∧ (w').cell? ⟨w.heap.size, 11, none⟩ = some (.slice (s).ho.A (s).ho.val.length (s).ho.c))) (exact tK) (first | (go_at_call 78; (with_reducible refine (CU.out _ tB).mono ?_); rintro e w1 ⟨A1, c1, rfl, hrs1, hb1⟩; have HS1 := hid hrs1.rd; clear hrs1; obtain ⟨fc1, fg1, hc1, hf1, hz1⟩ := bget hb1; (try simp at hz1)) | (go_at_call 77; (with_reducible refine cM (CH.out U hul _ _ _ tB (HS1.out.keep tB)) fun w2 hb2 fc2 fg2 hc2 hf2 hz2 => ?_); (try simp at hz2)) | fail)
 all_goals
  go_wp2_with fail
  go_ret2
  exact ⟨rfl, tB⟩
theorem ref26OfW (l : List HoldV) (u : Un) (A : Option Addr) (c : Nat) (w0 w : World) (hl : l.length ≤ 1000000) (hr : Rd w A 3 (l.map encHoldV)) (hg : ∀ x ∈ l, GoodHoldV w0 x) :
  Calls Tryz.prog 88 #[.slice A l.length c, .agg #[.int .i64 u.acc, .int .i64 u.cli]] w fun e w' => ∃ A2 c2, e = .returned (.slice A2 (ofK (l.map lgHoldV) u).length c2) ∧ Rs w0 3 ((ofK (l.map lgHoldV) u).map encLot) A2 c2 ∧ Below w.heap.size w w' := by
 have HR := hid hr
 have HG := hid hg
 clear hr hg
 obtain ⟨R, hR⟩ : ∃ R, R = ofK (l.map lgHoldV) u := ⟨_, rfl⟩
 rw [← hR]
 have HRR := hid hR
 clear hR
 go_enter Tryz.func88, Tryz.ntmps88
 go_wp2_with fail
 go_loopw [5] (fun i wr => ∃ k : Nat, k ≤ l.length ∧ i = .int .i64 k ∧ R = ofK ((l.drop k).map lgHoldV) u ∧ Below w.heap.size w wr ∧ w.heap.size < wr.heap.size ∧ wr.cell? ⟨w.heap.size, 0, none⟩ = some (.int .i64 u.acc) ∧ wr.cell? ⟨w.heap.size, 1, none⟩ = some (.int .i64 u.cli)) (fun i _ => l.length - (intOf i).toNat)
 case atStart => exact ⟨0, Nat.zero_le _, rfl, HRR.out, tB, by simp, by simp [go_sem], by simp [go_sem]⟩
 case round =>
  obtain ⟨k, hk, rfl, hv, hbl, hsz, g0, g1⟩ := hrel
  have HV := hid hv
  have Hbl := hid hbl
  have hz := hbl.size
  clear hv hbl
  by_cases hlt : k < l.length
  ·have kl : (k : Int) < (l.length : Int) := by omega
   have dl := @dT k l.length hlt
   have hgk := HG.out l[k] (List.getElem_mem hlt)
   have HGK := hid hgk.2
   have hd := lg_atHoldV hlt
   clear hgk
   obtain ⟨b, o, rfl, hb, hc⟩ := HR.out k (encHoldV l[k]) (by simp [hlt])
   have e0 := tC Hbl hb (hc 0 _ rfl)
   have e1 := tC Hbl hb (hc 1 _ rfl)
   have e2 := tC Hbl hb (hc 2 _ rfl)
   simp only [Nat.add_zero] at e0
   clear hc
   have hbw : b < wr.heap.size := by omega
   rcases un_tHoldV (x := l[k].unit) (u := u) with h | h
   ·have HN := hid (show R = l[k].lots.val from by rw [HV.out, hd]; unfold ofK; rw [if_pos (show (lgHoldV l[k]).unit = u from h)]; rfl)
    rw [h] at e0 e1
    clear hd h
    go_wp2_with fail
    go_quiet (fail)
    go_wp2_with fail
    go_ret
    exact ⟨l[k].lots.A, l[k].lots.c, by rw [HN.out]; rfl, by rw [HN.out]; exact HGK.out, by have hbl := Hbl.out; exact tB⟩
   ·have HN := hid (show R = ofK ((l.drop (k + 1)).map lgHoldV) u from by rw [HV.out, hd, ofK, if_neg (show ¬ (lgHoldV l[k]).unit = u from un_dHoldV h)])
    clear hd
    rcases h with h | h
    all_goals
     go_wp2_with fail
     go_quiet (fail)
     go_wp2_with fail
     go_roundw
     case rel => exact ⟨k + 1, by omega, by go_num, HN.out, by have hbl := Hbl.out; exact tB, by simp; omega, by simp [go_sem, g0], by simp [go_sem, g1]⟩
     case measure => simp [intOf]; omega
  ·have dl := @dF k l.length hlt
   have HD := hid (show R = [] from by rw [HV.out, drop_all (l := l) (k := k) (by omega)]; rfl)
   go_wp2_with fail
   go_ret
   exact ⟨none, 0, by rw [HD.out]; rfl, by rw [HD.out]; exact Rs.empty _ _, by have hbl := Hbl.out; exact tB⟩
def memberOf (R : RepL) (id : Int) : List Str := if (findMb R.mem id).2 then memberL R (findMb R.mem id).1 else []
theorem findMb_ok {l : List Mb} (h : ∀ m ∈ l, okMb m) (id : Int) : okMb (findMb l id).1 := by
 unfold findMb
 cases hf : l.find? (fun m => m.id == id) with
 | none => unfold okMb In64; simp
 | some m => exact h m (List.mem_of_find?_eq_some hf)
theorem repMember (s : StV) (id : Int) (w : World) (ht : TabP w) (hs : GoodSt w s) :
  Calls Tryz.prog 12 #[.agg #[.int .i64 (s).day, .slice (s).mem.A (s).mem.val.length (s).mem.c, .slice (s).ins.A (s).ins.val.length (s).ins.c, .slice (s).ats.A (s).ats.val.length (s).ats.c, .slice (s).acs.A (s).acs.val.length (s).acs.c, .slice (s).cho.A (s).cho.val.length (s).cho.c, .slice (s).grp.A (s).grp.val.length (s).grp.c, .slice (s).giv.A (s).giv.val.length (s).giv.c, .slice (s).bk.A (s).bk.val.length (s).bk.c, .slice (s).sale.A (s).sale.val.length (s).sale.c, .slice (s).pu.A (s).pu.val.length (s).pu.c, .slice (s).ho.A (s).ho.val.length (s).ho.c], .int .i64 id] w fun e w' => ∃ v, e = .returned v ∧ Own w' w.heap.size 9 1 v ((memberOf (repL s) id).map encStr) ∧ Below w.heap.size w w' := by
 have cf := fun W (h : Below w.heap.size w W) => mbFind s.mem.val id s.mem.A s.mem.c W (by have := hs.lm; omega) (hs.rm.keep h)
 have hok := findMb_ok hs.om id
 have HM := hid (show memberOf (repL s) id = if (findMb s.mem.val id).2 then memberL (repL s) (findMb s.mem.val id).1 else [] from rfl)
 have CMM := fun g base W (h : Below w.heap.size w W) (hg0 : w.heap.size ≤ g) (hp : Page W g base []) => pageMember g base s (findMb s.mem.val id).1 [] w W h hg0 ht hs hok hp (by simp)
 generalize memberOf (repL s) id = MO at *
 generalize findMb s.mem.val id = ff at *
 obtain ⟨m, fb⟩ := ff
 have CM := hid CMM
 clear ht hs CMM
 cases fb
 ·have CF := hid cf
  have HE := hid (show MO = [] from HM.out)
  clear cf hok HM CM
  go_enter Tryz.func12, Tryz.ntmps12
  go_wp2_with (first | (go_at_call 39; (with_reducible refine cM (CF.out _ tB) fun w1 hb1 fc1 fg1 hc1 hf1 hz1 => ?_); (try simp at hz1)) | fail)
  go_ret
  exact ⟨_, rfl, by rw [HE.out]; exact Own.nil _ _ _ _, tB⟩
 ·have CF := hid cf
  have HE := hid (show MO = memberL (repL s) m from HM.out)
  rw [HE.out]
  clear cf hok HM HE
  go_enter Tryz.func12, Tryz.ntmps12
  go_wp2_with (first | (go_at_call 39; (with_reducible refine cM (CF.out _ tB) fun w1 hb1 fc1 fg1 hc1 hf1 hz1 => ?_); (try simp at hz1)) | (go_at_call 33; (with_reducible refine (CM.out (w1.heap.size + 1) (w1.heap.size + 2) _ tB (by omega) (page_new (by simp) _)).mono ?_); rintro e w9 ⟨rfl, hpg9, hpa9⟩; have HP9 := hid hpg9; have H9 := hid hpa9; obtain ⟨v9, hv9, hown9⟩ := hpg9.ex; have HO9 := hid hown9; clear hpg9 hpa9 hown9) | fail)
  go_ret
  exact ⟨_, rfl, HO9.out.mono (by omega), (show Below w.heap.size w ((w1.alloc (.cells #[.int .i64 m.id, .int .i64 m.cap, .int .i64 m.phase, .int .i64 m.til] 49)).alloc (.cells #[.slice none 0 0] 86)) by exact tB).trans H9.out.below⟩
end Go.Proofs.YtalgfpegaobacaaGreatDoor
