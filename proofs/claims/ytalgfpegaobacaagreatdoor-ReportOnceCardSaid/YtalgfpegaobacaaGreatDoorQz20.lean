/- Joined. -/
import Derived.Test.YtalgfpegaobacaaGreatDoorQz19
namespace Go.Proofs.YtalgfpegaobacaaGreatDoor
set_option linter.all false
set_option maxHeartbeats 32000000
set_option maxRecDepth 100000
open Go.RowKit
open Lib (hid)
/- What a margin unit has more than it must: contract of cover.Excess. -/
theorem rd_grown {w w' : World} {row : Option Nat} {A : Option Addr} {k : Nat} {rows : List (List Value)} (h : Rd w A k rows) (hg : w.grownBy w' row) (hne : ∀ b o, A = some ⟨b, o, none⟩ → row ≠ some b) : Rd w' A k rows := by
 intro i r hr
 obtain ⟨b, o, hA, hb, hc⟩ := h i r hr
 exact ⟨b, o, hA, Nat.lt_of_lt_of_le hb hg.size, fun j v hv => (grown_at hg hb (hne b o hA) _).trans (hc j v hv)⟩
theorem coverExcess (s : SideV) (x : AcctV) (u : Un) (w : World) (hg : GoodS w s) (hx : GoodA w x) (hxl : x.clients.val.length ≤ 1000) :
  Calls Tryz.prog 110 #[.agg #[.slice (s).ats.A (s).ats.val.length (s).ats.c, .slice (s).ins.A (s).ins.val.length (s).ins.c, .slice (s).bk.A (s).bk.val.length (s).bk.c, .slice (s).pu.A (s).pu.val.length (s).pu.c, .slice (s).ho.A (s).ho.val.length (s).ho.c], .agg #[.int .i64 x.id, .int .i64 x.member, .int .i64 x.kind, .slice x.clients.A x.clients.val.length x.clients.c], .agg #[.int .i64 u.acc, .int .i64 u.cli]] w fun e w' => e = .returned (.tuple #[.int .i64 (excN (sideL s) (lgA x) u), .int .i64 (excC (sideL s) (lgA x) u)]) ∧ Below w.heap.size w w' := by
 have HG := hid hg
 have HX := hid hx
 have cr := fun W (h : GoodS W s) => coverRight s W h
 have hpl := partsN_len (lgA x) u
 rw [show (lgA x).clients.length = x.clients.val.length from rfl] at hpl
 have CN0 := fun W (h : GoodS W s) (h2 : GoodA W x) => needOf s.ins.val s.bk.val x u s.ins.A s.bk.A s.ins.c s.bk.c W (by have := h.li; omega) (by have := h.lb; omega) (by omega) h.b64 h.ri h.gi h.rb h.gb h2
 have HC := hid (show excC (sideL s) (lgA x) u = if rightS (sideL s) then (if nofC s.ins.val (s.bk.val.map lgPosV) (lgA x) u = 0 then (if firstC (partC (sideL s)) (partsN (lgA x) u) = 0 then sum64C (excL (sideL s) (lgA x) u) else firstC (partC (sideL s)) (partsN (lgA x) u)) else nofC s.ins.val (s.bk.val.map lgPosV) (lgA x) u) else 3 from rfl)
 have HN := hid (show excN (sideL s) (lgA x) u = if rightS (sideL s) then (if nofC s.ins.val (s.bk.val.map lgPosV) (lgA x) u = 0 then (if firstC (partC (sideL s)) (partsN (lgA x) u) = 0 then sum64N (excL (sideL s) (lgA x) u) else 0) else 0) else 0 from rfl)
 have HEL := hid (show excL (sideL s) (lgA x) u = -(nofN s.ins.val (s.bk.val.map lgPosV) (lgA x) u) :: (partsN (lgA x) u).map (partN (sideL s)) from rfl)
 obtain ⟨hnp, hn64⟩ := nofN_pos s.ins.val (s.bk.val.map lgPosV) (lgA x) u
 have CPA := hid (fun W (h : GoodA W x) => needParts x u W (by omega) h)
 have HPC := hid (fun v => (show partC (sideL s) v = valC s.ats.val (ofK (s.ho.val.map lgHoldV) v) (getPu s.pu.val v) from rfl))
 have HPN := hid (fun v => (show partN (sideL s) v = valN s.ats.val (ofK (s.ho.val.map lgHoldV) v) (getPu s.pu.val v) from rfl))
 have HP64 := hid (fun v => (show In64 (partN (sideL s) v) from by
  unfold partN valN
  split
  ·exact sum64_in _
  ·unfold In64; omega))
 generalize excC (sideL s) (lgA x) u = RC at *
 generalize excN (sideL s) (lgA x) u = RN at *
 generalize excL (sideL s) (lgA x) u = EL at *
 generalize nofC s.ins.val (s.bk.val.map lgPosV) (lgA x) u = nc at *
 generalize nofN s.ins.val (s.bk.val.map lgPosV) (lgA x) u = nn at *
 generalize partsN (lgA x) u = ps at *
 generalize partC (sideL s) = fC at *
 generalize partN (sideL s) = fN at *
 have CN := hid CN0
 clear CN0 hg hx
 cases hr : rightS (sideL s)
 ·rw [hr] at cr
  have CR := hid cr
  have HC2 := hid (show RC = 3 from by rw [HC.out, hr]; rfl)
  have HN2 := hid (show RN = 0 from by rw [HN.out, hr]; rfl)
  clear cr hr
  go_enter Tryz.func110, Tryz.ntmps110
  go_wp2_with (first | (go_at_call 143; (with_reducible refine cM (CR.out _ (HG.out.keep tB)) fun w1 hb1 fc1 fg1 hc1 hf1 hz1 => ?_); (try simp at hz1)) | fail)
  go_ret2
  exact ⟨by rw [HC2.out, HN2.out]; rfl, tB⟩
 rw [hr] at cr
 have CR := hid cr
 by_cases h0 : nc = 0
 rotate_left
 ·have HC2 := hid (show RC = nc from by rw [HC.out, hr, if_pos rfl, if_neg h0])
  have HN2 := hid (show RN = 0 from by rw [HN.out, hr, if_pos rfl, if_neg h0])
  have d0 : (nc != 0) = true := by simpa using h0
  have d1 : (nc == 0) = false := by simpa using h0
  clear cr hr h0
  go_enter Tryz.func110, Tryz.ntmps110
  go_wp2_with (first | (go_at_call 143; (with_reducible refine cM (CR.out _ (HG.out.keep tB)) fun w1 hb1 fc1 fg1 hc1 hf1 hz1 => ?_); (try simp at hz1)) | (go_at_call 109; (with_reducible refine cM (CN.out _ (HG.out.keep tB) (HX.out.keep tB)) fun w2 hb2 fc2 fg2 hc2 hf2 hz2 => ?_); (try simp at hz2)) | fail)
  go_ret2
  exact ⟨by rw [HC2.out, HN2.out]; rfl, tB⟩
 have HC2 := hid (show RC = if firstC fC ps = 0 then sum64C EL else firstC fC ps from by rw [HC.out, hr, if_pos rfl, if_pos h0])
 have HN2 := hid (show RN = if firstC fC ps = 0 then sum64N EL else 0 from by rw [HN.out, hr, if_pos rfl, if_pos h0])
 have wn : IntKind.i64.wrap (-nn) = -nn := IntWalk.i64_in _ (by unfold In64 at hn64; omega)
 have hm64 : In64 (-nn) := by unfold In64 at *; omega
 rw [h0] at CN
 clear cr hr h0 HC HN
 go_enter Tryz.func110, Tryz.ntmps110
 go_wp2_with (first | (go_at_call 143; (with_reducible refine cM (CR.out _ (HG.out.keep tB)) fun w1 hb1 fc1 fg1 hc1 hf1 hz1 => ?_); (try simp at hz1)) | (go_at_call 109; (with_reducible refine cM (CN.out _ (HG.out.keep tB) (HX.out.keep tB)) fun w2 hb2 fc2 fg2 hc2 hf2 hz2 => ?_); (try simp at hz2)) | (go_at_call 141; (with_reducible refine (CPA.out _ (HX.out.keep tB)).mono ?_); rintro e w3 ⟨A3, c3, rfl, hrs3, hb3⟩; have HS3 := hid hrs3.rd; clear hrs3; obtain ⟨fc3, fg3, hc3, hf3, hz3⟩ := bget hb3; (try simp at hz3)) | fail)
 have b0 : w3.cell? ⟨w.heap.size, 0, none⟩ = some (.slice s.ats.A s.ats.val.length s.ats.c) := by simp [hc3, hc2, hc1, go_sem, ↓IntWalk.iteOmega]
 have b3 : w3.cell? ⟨w.heap.size, 3, none⟩ = some (.slice s.pu.A s.pu.val.length s.pu.c) := by simp [hc3, hc2, hc1, go_sem, ↓IntWalk.iteOmega]
 have b4 : w3.cell? ⟨w.heap.size, 4, none⟩ = some (.slice s.ho.A s.ho.val.length s.ho.c) := by simp [hc3, hc2, hc1, go_sem, ↓IntWalk.iteOmega]
 have HB := hid (And.intro b0 (And.intro b3 b4))
 have hbk : Blk w3 w2.heap.size 2 #[.int .i64 (-nn)] := (Blk.new w2 _ _).below hb3 (by simp)
 have HO := hid (own_lit (Nat.le_refl _) hbk)
 have HA3 := hid (show ps ≠ [] → ∀ b o, A3 = some ⟨b, o, none⟩ → b ≠ w2.heap.size from fun hne b o hA e => by
  obtain ⟨p, t, rfl⟩ := List.exists_cons_of_ne_nil hne
  obtain ⟨b', o', hA', _, hc⟩ := HS3.out 0 (encUn p) rfl
  rw [hA] at hA'
  injection hA' with hA'
  injection hA' with e1 e2 _
  subst e1 e2
  have h1 := hc 1 _ rfl
  rw [e, hbk.cell] at h1
  simp at h1)
 have Hw3 := hid (show Below w.heap.size w w3 by exact tB)
 have hw32 : w2.heap.size < w3.heap.size := by omega
 have hww : w.heap.size + 2 < w2.heap.size := by omega
 clear b0 b3 b4 hbk hc1 hf1 hb1 hc2 hf2 hb2 hc3 hf3 hb3
 generalize hgwe : w2.heap.size = gw at *
 clear hgwe
 go_loopw [10, 38] (fun v i wr => ∃ k : Nat, k ≤ ps.length ∧ i = .int .i64 k ∧ firstC fC ps = firstC fC (ps.drop k) ∧ Own wr gw 2 1 v ((-nn :: (ps.take k).map fN).map encI) ∧ (k < ps.length → ∀ b o, A3 = some ⟨b, o, none⟩ → v.ownBlock ≠ some b) ∧ (k < ps.length → Rd wr A3 2 (ps.map encUn)) ∧ Below gw w3 wr) (fun _ i _ => ps.length - (intOf i).toNat)
 case atStart => exact ⟨0, Nat.zero_le _, rfl, rfl, HO.out, fun h b o hA e => by
  have h1 := HA3.out (by intro e; rw [e] at h; simp at h) b o hA
  simp only [Value.ownBlock, Option.some.injEq] at e
  exact h1 e.symm, fun _ => HS3.out, Below.refl _ _⟩
 case round =>
  obtain ⟨k, hk, rfl, hv, hown, hob, hrd, hbl⟩ := hrel
  have HV := hid hv
  have Hown := hid hown
  have Hob := hid hob
  have Hbl := hid hbl
  have hz := hbl.size
  have HWR := hid (Hw3.out.trans (hbl.mono (by omega)))
  have b0 := (hbl.cell (p := ⟨w.heap.size, 0, none⟩) (by simp; omega)).trans HB.out.1
  have b3 := (hbl.cell (p := ⟨w.heap.size, 3, none⟩) (by simp; omega)).trans HB.out.2.1
  have b4 := (hbl.cell (p := ⟨w.heap.size, 4, none⟩) (by simp; omega)).trans HB.out.2.2
  clear hv hown hob hbl
  by_cases hlt : k < ps.length
  ·have dl := @dT k ps.length hlt
   have kl : (k : Int) < (ps.length : Int) := by omega
   have hrd := hrd hlt
   obtain ⟨b, o, rfl, hb, hc⟩ := hrd k (encUn ps[k]) (by simp [hlt])
   have e0 := hc 0 _ rfl
   have e1 := hc 1 _ rfl
   simp only [Nat.add_zero] at e0
   have HRD := hid hrd
   have HOB := hid (Hob.out hlt b o rfl)
   clear hc hrd
   have HD := hid (drop_cons' hlt)
   have HM := hid (show (-nn :: (ps.take (k + 1)).map fN).map encI = (-nn :: (ps.take k).map fN).map encI ++ [encI (fN ps[k])] from by rw [map_snoc hlt]; simp)
   have hlk : ((-nn :: (ps.take k).map fN).map encI).length ≤ 1100 := by simp; omega
   have hpc := HPC.out ps[k]
   have hpn := HPN.out ps[k]
   generalize ps[k] = v at *
   generalize (-nn :: (ps.take k).map fN) = Z at *
   have CHL := hid (fun W (h : GoodS W s) => holdOf s.ho.val v s.ho.A s.ho.c W (by have := h.lh; omega) h.rh.rd h.gh)
   have CPG := hid (fun W (h : GoodS W s) => purseGet s.pu.val v s.pu.A s.pu.c W (by have := h.lp; omega) h.rp.rd)
   have cvv := fun A1 c1 W (h : GoodS W s) (h2 : Rd W A1 3 ((ofK (s.ho.val.map lgHoldV) v).map encLot)) => coverValue s.ats.val (ofK (s.ho.val.map lgHoldV) v) (getPu s.pu.val v) s.ats.A A1 s.ats.c c1 W (by have := h.la; omega) (by have := (h.hq.of v).1; omega) (getPu_in h.p64 v) (h.hq.of v).2 h.ra h2
   rw [← hpc, ← hpn] at cvv
   generalize ofK (s.ho.val.map lgHoldV) v = O at *
   by_cases h0 : fC v = 0
   ·have HN0 := hid (show firstC fC ps = firstC fC (ps.drop (k + 1)) from by rw [HV.out, HD.out]; exact firstC_step h0)
    rw [h0] at cvv
    have CVV := hid cvv
    clear cvv h0 hpc hpn
    generalize fN v = q at *
    go_wp2_with fail
    go_region_held3 (fun w' => ((w'.cell? ⟨w.heap.size, 0, none⟩ = some (.slice s.ats.A s.ats.val.length s.ats.c) ∧ w'.cell? ⟨w.heap.size, 3, none⟩ = some (.slice s.pu.A s.pu.val.length s.pu.c) ∧ w'.cell? ⟨w.heap.size, 4, none⟩ = some (.slice s.ho.A s.ho.val.length s.ho.c)) ∧ w'.cell? ⟨wr.heap.size, 0, none⟩ = some (.int .i64 v.acc) ∧ w'.cell? ⟨wr.heap.size, 1, none⟩ = some (.int .i64 v.cli))) (exact tK) (first | (go_at_call 66; (with_reducible refine (CHL.out _ (HG.out.keep (by have h1 := HWR.out; exact tB))).mono ?_); rintro e w6 ⟨v6, rfl, hown6, hb6⟩; obtain ⟨A6, c6, hv6, hrs6, _⟩ := hown6.rs; (rw [List.length_map] at hv6); subst hv6; have HS6 := hid hrs6.rd; clear hown6 hrs6; obtain ⟨fc6, fg6, hc6, hf6, hz6⟩ := bget hb6; (try simp at hz6)) | (go_at_call 63; (with_reducible refine cM (CPG.out _ (HG.out.keep (by have h1 := HWR.out; exact tB))) fun w7 hb7 fc7 fg7 hc7 hf7 hz7 => ?_); (try simp at hz7)) | (go_at_call 144; (with_reducible refine cM (CVV.out _ _ _ (HG.out.keep (by have h1 := HWR.out; exact tB)) (HS6.out.keep tB)) fun w8 hb8 fc8 fg8 hc8 hf8 hz8 => ?_); (try simp at hz8)) | fail)
    all_goals
     go_wp2_with (first | (at_builtin; refine wpList_appAt rfl _ _ _ rfl elIv gw _ _ rfl (Hown.out.keep tB) ⟨_, 0, none⟩ 1 1 rfl [encI q] rfl (rd_oneN (by simp)) (rowsIv [q]) (by unfold maxLen; simp only [List.length_map] at hlk ⊢; omega) (by simp only [List.length_map] at hlk ⊢; omega) tZ ?_; intro v9 w9 hown9 hb9 hg9 hat9; have HO9 := hid hown9; have HG9 := hid hg9; have HA9 := hid hat9; clear hown9 hg9 hat9; obtain ⟨fc9, fg9, hc9, hf9, hz9⟩ := bget hb9; (try simp at hz9)) | fail)
     go_roundw
     case rel => exact ⟨k + 1, by omega, by go_num, HN0.out, by rw [HM.out]; exact HO9.out, fun _ b' o' hA e => by
      injection hA with hA
      injection hA with e1 _ _
      subst e1
      rcases HA9.out with h | h
      ·exact HOB.out (h.symm.trans e)
      ·rw [h] at e
       injection e with e
       revert e
       (first | omega | (simp; omega)), fun _ => rd_grown (HRD.out.keep tB) HG9.out (fun b' o' hA e => by
      injection hA with hA
      injection hA with e1 _ _
      subst e1
      exact HOB.out e), by have hbl := Hbl.out; exact tB⟩
     case measure => simp [intOf]; omega
   ·have HF := hid (show firstC fC ps = fC v from by rw [HV.out, HD.out]; exact firstC_stop h0)
    have HC3 := hid (show RC = fC v from by rw [HC2.out, HF.out, if_neg h0])
    have HN3 := hid (show RN = 0 from by rw [HN2.out, HF.out, if_neg h0])
    have n0 : (fC v != 0) = true := by simpa using h0
    have n1 : (fC v == 0) = false := by simpa using h0
    have CVV := hid cvv
    clear cvv h0 hpc hpn
    generalize fN v = q at *
    generalize fC v = code at *
    go_wp2_with fail
    go_region_held3 (fun w' => ((w'.cell? ⟨w.heap.size, 0, none⟩ = some (.slice s.ats.A s.ats.val.length s.ats.c) ∧ w'.cell? ⟨w.heap.size, 3, none⟩ = some (.slice s.pu.A s.pu.val.length s.pu.c) ∧ w'.cell? ⟨w.heap.size, 4, none⟩ = some (.slice s.ho.A s.ho.val.length s.ho.c)) ∧ w'.cell? ⟨wr.heap.size, 0, none⟩ = some (.int .i64 v.acc) ∧ w'.cell? ⟨wr.heap.size, 1, none⟩ = some (.int .i64 v.cli))) (exact tK) (first | (go_at_call 66; (with_reducible refine (CHL.out _ (HG.out.keep (by have h1 := HWR.out; exact tB))).mono ?_); rintro e w6 ⟨v6, rfl, hown6, hb6⟩; obtain ⟨A6, c6, hv6, hrs6, _⟩ := hown6.rs; (rw [List.length_map] at hv6); subst hv6; have HS6 := hid hrs6.rd; clear hown6 hrs6; obtain ⟨fc6, fg6, hc6, hf6, hz6⟩ := bget hb6; (try simp at hz6)) | (go_at_call 63; (with_reducible refine cM (CPG.out _ (HG.out.keep (by have h1 := HWR.out; exact tB))) fun w7 hb7 fc7 fg7 hc7 hf7 hz7 => ?_); (try simp at hz7)) | (go_at_call 144; (with_reducible refine cM (CVV.out _ _ _ (HG.out.keep (by have h1 := HWR.out; exact tB)) (HS6.out.keep tB)) fun w8 hb8 fc8 fg8 hc8 hf8 hz8 => ?_); (try simp at hz8)) | fail)
    all_goals
     go_wp2_with fail
     go_ret2
     exact ⟨by rw [HC3.out, HN3.out]; rfl, by have h1 := HWR.out; exact tB⟩
  ·have dl := @dF k ps.length hlt
   have HF := hid (show firstC fC ps = 0 from by rw [HV.out, List.drop_eq_nil_of_le (by omega)]; rfl)
   have HC3 := hid (show RC = sum64C EL from by rw [HC2.out, HF.out, if_pos rfl])
   have HN3 := hid (show RN = sum64N EL from by rw [HN2.out, HF.out, if_pos rfl])
   have ho := Hown.out
   rw [List.take_of_length_le (show ps.length ≤ k by omega), ← HEL.out] at ho
   obtain ⟨A2, c2, hv2, hrs2, _⟩ := ho.rs
   rw [List.length_map] at hv2
   have hel : EL.length ≤ 2000 := by rw [HEL.out]; simp; omega
   subst hv2
   have CS := hid (fixSum64 EL A2 c2 wr (by omega) (fun n hn => by
    rw [HEL.out] at hn
    rcases List.mem_cons.1 hn with rfl | hn
    ·exact hm64
    ·obtain ⟨v, _, rfl⟩ := List.mem_map.1 hn
     exact HP64.out v) hrs2.rd)
   clear ho hrs2 hrd
   go_wp2_with (first | (go_at_call 135; (with_reducible refine cM (CS.out) fun w4 hb4 fc4 fg4 hc4 hf4 hz4 => ?_); (try simp at hz4)) | fail)
   go_ret2
   exact ⟨by rw [HC3.out, HN3.out]; rfl, by have h1 := HWR.out; exact tB⟩
/- Which have too little: contracts of need.Units (in memory of its own), cover.Calls. -/
theorem acctUnitsF (x : Acct) (A : Option Addr) (c : Nat) (w : World) (hl : x.clients.length ≤ 1048576) (hr : Rd w A 1 (x.clients.map encI)) :
  Calls Tryz.prog 112 #[.agg #[.int .i64 x.id, .int .i64 x.member, .int .i64 x.kind, .slice A x.clients.length c]] w fun e w' => ∃ A c, e = .returned (.slice A (unitsA x).length c) ∧ Rs w' 2 ((unitsA x).map encUn) A c ∧ (∀ a, A = some a → w.heap.size ≤ a.block) ∧ Below w.heap.size w w' := by
 have HR := hid hr
 clear hr
 by_cases hk1 : x.kind = 1
 ·have b1 : (x.kind == 1) = true := by simpa using hk1
  have HU := hid (show unitsA x = [⟨x.id, 0⟩] from if_pos hk1)
  clear hk1
  go_enter Tryz.func112, Tryz.ntmps112
  go_wp2_with (fail)
  go_ret
  rw [HU.out]
  exact ⟨_, _, rfl, rd_lit (by simp) (by simp [go_sem]) (by simp [go_sem]), fun a ha => by injection ha with ha; subst ha; simp, tB⟩
 ·have b1 : (x.kind == 1) = false := by simpa using hk1
  have HU := hid (show unitsA x = x.clients.map (fun c => ⟨x.id, c⟩) from if_neg hk1)
  clear hk1
  go_enter Tryz.func112, Tryz.ntmps112
  go_wp2_with (fail)
  go_loopw [3, 16] (fun v i wr => ∃ k : Nat, k ≤ x.clients.length ∧ i = .int .i64 k ∧ Own wr (w.heap.size + 1) 60 2 v (((x.clients.take k).map (fun c => (⟨x.id, c⟩ : Un))).map encUn) ∧ Below w.heap.size w wr ∧ w.heap.size < wr.heap.size ∧ wr.cell? ⟨w.heap.size, 0, none⟩ = some (.int .i64 x.id)) (fun _ i _ => x.clients.length - (intOf i).toNat)
  case atStart => exact ⟨0, Nat.zero_le _, rfl, Own.nil _ _ _ _, tB, by simp, by simp [go_sem]⟩
  case round =>
   obtain ⟨k, hk, rfl, hown, hbl, hsz, h0⟩ := hrel
   have Hown := hid hown
   have Hbl := hid hbl
   have hz := hbl.size
   clear hown hbl
   by_cases hlt : k < x.clients.length
   ·have kl : (k : Int) < (x.clients.length : Int) := by omega
    have dl : decide ((k : Int) < (x.clients.length : Int)) = true := by simpa using hlt
    obtain ⟨b, o, rfl, hb, hc⟩ := HR.out k (encI x.clients[k]) (by simp [hlt])
    have e0 := tC Hbl hb (hc 0 _ rfl)
    simp only [Nat.add_zero, Nat.mul_one] at e0
    have HS := hid (map_snoc hlt (fun c => (⟨x.id, c⟩ : Un)))
    clear hc
    go_wp2_with (first | (at_builtin; refine wpList_app rfl _ _ _ rfl elUn (w.heap.size + 1) _ _ rfl (Hown.out.alloc _) (some ⟨_, 0, none⟩) 1 1 rfl [encUn ⟨x.id, x.clients[k]⟩] rfl (fun h => by cases h) (rd_oneN (by simp)) (rowsUn [⟨x.id, x.clients[k]⟩]) (by unfold maxLen; exact tE) tE tZ ?_; intro v3 w3 hown3 hb3) | fail)
    go_roundw
    case rel => exact ⟨k + 1, by omega, by go_num, by rw [HS.out, List.map_append]; exact hown3, (Hbl.out.alloc hz _).trans (hb3.mono (by omega)), by have := hb3.size; simp at this; omega, by rw [hb3.cell (p := ⟨w.heap.size, 0, none⟩) (by simp)]; simp [go_sem, h0, hsz, ↓IntWalk.iteOmega]⟩
    case measure => simp [intOf]; omega
   ·have dl : decide ((k : Int) < (x.clients.length : Int)) = false := by simpa using hlt
    have HT := hid (show x.clients.take k = x.clients from List.take_of_length_le (by omega))
    go_wp2_with (fail)
    go_ret
    have := Hown.out
    rw [HT.out] at this
    obtain ⟨A2, c2, rfl, hrs2, hf2⟩ := this.rs
    rw [List.length_map]
    exact ⟨_, _, by rw [HU.out]; rfl, by rw [HU.out]; exact hrs2, fun a ha => by
     rcases hf2 with ⟨h, _, _⟩ | ⟨g, h, hg, _⟩
     ·rw [h] at ha; cases ha
     ·rw [h] at ha; injection ha with ha; subst ha; show w.heap.size ≤ g; omega, Hbl.out⟩
/- How many contracts a member has: contracts of port.units, book.Held, port.Used. -/
theorem ofA_lg (l : List AcctV) (id : Int) : (ofA l id).map lgA = ofL (l.map lgA) id := by
 unfold ofA ofL
 rw [List.filter_map]; rfl
theorem acctUnitsV (x : AcctV) (w : World) (hl : x.clients.val.length ≤ 1048576) (hr : Rd w x.clients.A 1 (x.clients.val.map encI)) :
  Calls Tryz.prog 112 #[.agg #[.int .i64 x.id, .int .i64 x.member, .int .i64 x.kind, .slice x.clients.A x.clients.val.length x.clients.c]] w fun e w' => ∃ A c, e = .returned (.slice A (unitsA (lgA x)).length c) ∧ Rs w' 2 ((unitsA (lgA x)).map encUn) A c ∧ (∀ a, A = some a → w.heap.size ≤ a.block) ∧ Below w.heap.size w w' :=
 acctUnitsF (lgA x) x.clients.A x.clients.c w hl hr
theorem gross64 (l : List Leg) : In64 (grossN l) := by
 unfold grossN
 by_cases h1 : isV l = true
 ·rw [if_pos h1]
  by_cases h2 : absF l = true
  ·rw [if_pos h2]
   by_cases h3 : in64 (absL l).sum = true
   ·rw [if_pos h3]; exact in64_iff.1 h3
   ·rw [if_neg h3]; unfold In64; omega
  ·rw [if_neg h2]; unfold In64; omega
 ·rw [if_neg h1]; unfold In64; omega
theorem portUnits (s : StV) (id : Int) (w : World) (hl : s.acs.val.length ≤ 1000) (hr : Rs w 4 (s.acs.val.map encAcctV) s.acs.A s.acs.c) (hg : ∀ x ∈ s.acs.val, x.clients.val.length ≤ 1000 ∧ GoodA w x) :
  Calls Tryz.prog 103 #[.agg #[.int .i64 (s).day, .slice (s).mem.A (s).mem.val.length (s).mem.c, .slice (s).ins.A (s).ins.val.length (s).ins.c, .slice (s).ats.A (s).ats.val.length (s).ats.c, .slice (s).acs.A (s).acs.val.length (s).acs.c, .slice (s).cho.A (s).cho.val.length (s).cho.c, .slice (s).grp.A (s).grp.val.length (s).grp.c, .slice (s).giv.A (s).giv.val.length (s).giv.c, .slice (s).bk.A (s).bk.val.length (s).bk.c, .slice (s).sale.A (s).sale.val.length (s).sale.c, .slice (s).pu.A (s).pu.val.length (s).pu.c, .slice (s).ho.A (s).ho.val.length (s).ho.c], .int .i64 id] w fun e w' => ∃ A c, e = .returned (.slice A (unitsOfL (ofL (s.acs.val.map lgA) id)).length c) ∧ Rs w' 2 ((unitsOfL (ofL (s.acs.val.map lgA) id)).map encUn) A c ∧ Below w.heap.size w w' := by
 have CO := hid (fun W (h : Below w.heap.size w W) => acctOf s.acs.val id s.acs.A s.acs.c W (by omega) (hr.keep h) (fun x hx => ⟨Nat.le_trans (hg x hx).1 (by omega), (hg x hx).2.keep h⟩))
 rw [ofA_lg] at CO
 have HLL := hid (ofL_len (s.acs.val.map lgA) id)
 have HCM := hid (show ∀ a ∈ ofL (s.acs.val.map lgA) id, a.clients.length ≤ 1000 from fun a ha => by
  obtain ⟨x, hx, rfl⟩ := List.mem_map.1 (ofL_mem ha).1
  exact (hg x hx).1)
 have hl1 : (s.acs.val.map lgA).length ≤ 1000 := by rw [List.length_map]; exact hl
 generalize ofL (s.acs.val.map lgA) id = L at *
 clear hr hg
 go_enter Tryz.func103, Tryz.ntmps103
 go_wp2_with (first | (go_at_call 70; (with_reducible refine (CO.out _ tB).mono ?_); rintro e w1 ⟨v1, ys, rfl, hlg1, hown1, hys1, hb1⟩; obtain ⟨A1, c1, hv1, hrs1, _⟩ := hown1.rs; (rw [List.length_map] at hv1); subst hv1; have HLG := hid hlg1; have HRS := hid hrs1.rd; have HYS := hid hys1; clear hown1 hrs1 hlg1 hys1; obtain ⟨fc1, fg1, hc1, hf1, hz1⟩ := bget hb1; (try simp at hz1)) | fail)
 have Hb0 := hid (show Below w.heap.size w w1 by exact tB)
 have hyl : ys.length = L.length := by rw [← HLG.out, List.length_map]
 have hle := HLL.out
 have HYL := hid hyl
 have hyl1 : ys.length ≤ L.length := by omega
 have hyl2 : L.length ≤ ys.length := by omega
 clear hc1 hf1 hb1 hyl
 go_loopw [5, 13] (fun v i wr => ∃ k : Nat, k ≤ ys.length ∧ i = .int .i64 k ∧ Own wr w1.heap.size 60 2 v ((unitsOfL (L.take k)).map encUn) ∧ Below w1.heap.size w1 wr) (fun _ i _ => ys.length - (intOf i).toNat)
 case atStart => exact ⟨0, Nat.zero_le _, rfl, Own.nil _ _ _ _, Below.refl _ _⟩
 case round =>
  obtain ⟨k, hk, rfl, hown, hbl⟩ := hrel
  have Hown := hid hown
  have Hbl := hid hbl
  have hz := hbl.size
  clear hown hbl
  by_cases hlt : k < ys.length
  ·have kl : (k : Int) < (ys.length : Int) := by omega
   have dl := @dT k ys.length hlt
   obtain ⟨b, o, rfl, hb, hc⟩ := HRS.out k (encAcctV ys[k]) (by simp [hlt])
   have e0 := tC Hbl hb (hc 0 _ rfl)
   have e1 := tC Hbl hb (hc 1 _ rfl)
   have e2 := tC Hbl hb (hc 2 _ rfl)
   have e3 := tC Hbl hb (hc 3 _ rfl)
   simp only [Nat.add_zero] at e0
   clear hc
   have hbw : b < wr.heap.size := by omega
   have hkL : k < L.length := by omega
   have hLk : L[k] = lgA ys[k] := by
    have := congrArg (fun z => z[k]?) HLG.out
    simp only [List.getElem?_map, List.getElem?_eq_getElem hlt, List.getElem?_eq_getElem hkL, Option.map_some, Option.some.injEq] at this
    exact this.symm
   have HSN := hid (unitsOf_snoc hkL)
   have hcm := HCM.out L[k] (List.getElem_mem hkL)
   have hul := unitsA_le L[k]
   have htl := unitsOf_len (l := L.take k) (m := 1000) fun a ha => HCM.out a (List.mem_of_mem_take ha)
   have htk : (L.take k).length ≤ 1000 := by rw [List.length_take]; omega
   have htl2 : (unitsOfL (L.take k)).length ≤ 1001000 := by omega
   have CU := hid (fun W (h : Below w1.heap.size w1 W) => acctUnitsV ys[k] W (Nat.le_trans (show (lgA ys[k]).clients.length ≤ 1000 from hLk ▸ hcm) (by omega)) ((HYS.out ys[k] (List.getElem_mem hlt)).rd.keep h))
   rw [hLk] at hul HSN hcm
   clear htl htk hLk
   generalize unitsA (lgA ys[k]) = U at *
   go_wp2_with (first | (go_at_call 112; (with_reducible refine (CU.out _ (by have h := Hbl.out; exact tB)).mono ?_); rintro e w2 ⟨A2, c2, rfl, hrs2, hfr2, hb2⟩; have HS2 := hid hrs2; clear hrs2 hfr2; obtain ⟨fc2, fg2, hc2, hf2, hz2⟩ := bget hb2; (try simp at hz2)) | (at_builtin; refine wpList_app rfl _ _ _ rfl elUn w1.heap.size _ _ rfl (Hown.out.keep tB) A2 U.length c2 rfl (U.map encUn) (by simp) HS2.out.nil (HS2.out.rd) (rowsUn U) (by unfold maxLen; exact tE) tE tZ ?_; intro v3 w3 hown3 hb3) | fail)
   go_roundw
   case rel => exact ⟨k + 1, by omega, by go_num, by rw [HSN.out, List.map_append]; exact hown3, by have h1 := Hbl.out; exact tB⟩
   case measure => simp [intOf]; omega
  ·have dl := @dF k ys.length hlt
   have HT := hid (show L.take k = L from List.take_of_length_le (by omega))
   go_wp2_with (fail)
   go_ret
   have := Hown.out
   rw [HT.out] at this
   obtain ⟨A2, c2, rfl, hrs2, _⟩ := this.rs
   rw [List.length_map]
   exact ⟨_, _, rfl, hrs2, Hb0.out.trans (Hbl.out.mono (by omega))⟩
theorem bookHeld (l : List PosV) (us : List Un) (A B : Option Addr) (c d : Nat) (w : World) (hl : l.length ≤ 1000000) (hul : us.length ≤ 2000000) (h64 : L64 (l.map lgPosV)) (hr : Rd w A 3 (l.map encPosV)) (hg : ∀ x ∈ l, GoodPosV w x) (hru : Rd w B 2 (us.map encUn)) :
  Calls Tryz.prog 102 #[.slice A l.length c, .slice B us.length d] w fun e w' => e = .returned (.tuple #[.int .i64 (heldN (l.map lgPosV) us), .int .i64 (heldC (l.map lgPosV) us)]) ∧ Below w.heap.size w w' := by
 have HR := hid hr
 have HG := hid hg
 have HU := hid hru
 have H64 := hid (fun u => of64 h64 u)
 have ci := fun W (h : Below w.heap.size w W) => bookIs l A c W (by omega) (hr.keep h) (fun x hx => (hg x hx).keep h)
 have hib : isPosV l = isK isV (l.map lgPosV) := rfl
 rw [hib] at ci
 have HOF := hid (fun u => of_len hg u)
 clear hr hg hru h64 hib
 cases hk : isK isV (l.map lgPosV)
 ·rw [hk] at ci
  have CI := hid ci
  have HC := hid (show heldC (l.map lgPosV) us = 3 from by unfold heldC; rw [hk]; rfl)
  have HL := hid (show heldN (l.map lgPosV) us = 0 from by unfold heldN; rw [hk]; rfl)
  rw [HC.out, HL.out]
  clear ci hk
  go_enter Tryz.func102, Tryz.ntmps102
  go_wp2_with (first | (go_at_call 133; (with_reducible refine cM (CI.out _ tB) fun w1 hb1 fc1 fg1 hc1 hf1 hz1 => ?_); (try simp at hz1)) | fail)
  go_ret2
  exact ⟨rfl, tB⟩
 rw [hk] at ci
 have CI := hid ci
 obtain ⟨FC, hFC⟩ : ∃ F : Un → Int, F = fun u => grossC (ofK (l.map lgPosV) u) := ⟨_, rfl⟩
 obtain ⟨FN, hFN⟩ : ∃ F : Un → Int, F = fun u => grossN (ofK (l.map lgPosV) u) := ⟨_, rfl⟩
 have HC := hid (show heldC (l.map lgPosV) us = if firstC FC us = 0 then sum64C (us.map FN) else firstC FC us from by unfold heldC; rw [hk, hFC, hFN]; rfl)
 have HN := hid (show heldN (l.map lgPosV) us = if firstC FC us = 0 then sum64N (us.map FN) else 0 from by unfold heldN; rw [hk, hFC, hFN]; rfl)
 have HFC := hid (fun u => congrFun hFC u)
 have HFN := hid (fun u => congrFun hFN u)
 have HF64 := hid (show ∀ u, In64 (FN u) from fun u => by rw [hFN]; exact gross64 _)
 generalize heldC (l.map lgPosV) us = RC at *
 generalize heldN (l.map lgPosV) us = RN at *
 clear ci hk hFC hFN
 go_enter Tryz.func102, Tryz.ntmps102
 go_wp2_with (first | (go_at_call 133; (with_reducible refine cM (CI.out _ tB) fun w1 hb1 fc1 fg1 hc1 hf1 hz1 => ?_); (try simp at hz1)) | fail)
 have Hb1 := hid hb1
 clear hc1 hf1 hb1
 go_loopw [6, 16] (fun v i wr => ∃ k : Nat, k ≤ us.length ∧ i = .int .i64 k ∧ firstC FC us = firstC FC (us.drop k) ∧ Own wr w.heap.size 2 1 v (((us.take k).map FN).map encI) ∧ Below w.heap.size w wr) (fun _ i _ => us.length - (intOf i).toNat)
 case atStart => exact ⟨0, Nat.zero_le _, rfl, rfl, Own.nil _ _ _ _, Hb1.out⟩
 case round =>
  obtain ⟨k, hk, rfl, hv, hown, hbl⟩ := hrel
  have HV := hid hv
  have Hown := hid hown
  have Hbl := hid hbl
  have hz := hbl.size
  clear hv hown hbl
  by_cases hlt : k < us.length
  ·have kl : (k : Int) < (us.length : Int) := by omega
   have dl := @dT k us.length hlt
   obtain ⟨b, o, rfl, hb, hc⟩ := HU.out k (encUn us[k]) (by simp [hlt])
   have e0 := tC Hbl hb (hc 0 _ rfl)
   have e1 := tC Hbl hb (hc 1 _ rfl)
   simp only [Nat.add_zero] at e0
   clear hc
   have hbw : b < wr.heap.size := by omega
   have HM := hid (map_snoc hlt FN)
   have HD := hid (drop_cons' hlt)
   have hol := HOF.out us[k]
   have h64 := H64.out us[k]
   have co := fun W (h : Below w.heap.size w W) => bookOf l us[k] A c W (by omega) (HR.out.keep h) (fun x hx => (HG.out x hx).keep h)
   have hfc := HFC.out us[k]
   have hfn := HFN.out us[k]
   generalize ofK (l.map lgPosV) us[k] = O at *
   have cg := fun A2 c2 W (h : Rd W A2 2 (O.map encLeg)) => vecGross O A2 c2 W (by omega) h64 h
   have CO := hid co
   clear co
   by_cases hz0 : FC us[k] = 0
   ·have HV2 := hid (show firstC FC us = firstC FC (us.drop (k + 1)) from by rw [HV.out, HD.out, firstC_step hz0])
    rw [← hfc, hz0, ← hfn] at cg
    have CG := hid cg
    clear cg hfc hfn hz0 h64
    generalize FN us[k] = n at *
    go_wp2_with (first | (go_at_call 65; (with_reducible refine (CO.out _ (by have hbl := Hbl.out; exact tB)).mono ?_); rintro e w3 ⟨v3, rfl, hown3, hb3⟩; obtain ⟨A3, c3, hv3, hrs3, hform3⟩ := hown3.rs; (rw [List.length_map] at hv3); subst hv3; have HS3 := hid hrs3.rd; clear hown3 hrs3 hform3; obtain ⟨fc3, fg3, hc3, hf3, hz3⟩ := bget hb3; (try simp at hz3)) | (go_at_call 134; (with_reducible refine cM (CG.out _ _ _ (HS3.out.keep tB)) fun w4 hb4 fc4 fg4 hc4 hf4 hz4 => ?_); (try simp at hz4)) | (at_builtin; refine wpList_app rfl _ _ _ rfl elIv w.heap.size _ _ rfl (Hown.out.keep tB) (some ⟨_, 0, none⟩) 1 1 rfl [encI n] rfl (fun h => by cases h) (rd_oneN (by simp)) (rowsIv [n]) (by unfold maxLen; exact tE) tE tZ ?_; intro v5 w5 hown5 hb5) | fail)
    go_roundw
    case rel => exact ⟨k + 1, by omega, by go_num, HV2.out, by rw [HM.out, List.map_append]; exact hown5, by have h1 := Hbl.out; exact tB⟩
    case measure => simp [intOf]; omega
   ·have n0 : (FC us[k] != 0) = true := by simpa using hz0
    have HV2 := hid (show firstC FC us = FC us[k] from by rw [HV.out, HD.out, firstC_stop hz0])
    have HNZ := hid hz0
    rw [← hfc, ← hfn] at cg
    have CG := hid cg
    clear cg hfc hfn hz0 h64
    generalize hcd : FC us[k] = code at *
    generalize FN us[k] = n at *
    clear hcd
    go_wp2_with (first | (go_at_call 65; (with_reducible refine (CO.out _ (by have hbl := Hbl.out; exact tB)).mono ?_); rintro e w3 ⟨v3, rfl, hown3, hb3⟩; obtain ⟨A3, c3, hv3, hrs3, hform3⟩ := hown3.rs; (rw [List.length_map] at hv3); subst hv3; have HS3 := hid hrs3.rd; clear hown3 hrs3 hform3; obtain ⟨fc3, fg3, hc3, hf3, hz3⟩ := bget hb3; (try simp at hz3)) | (go_at_call 134; (with_reducible refine cM (CG.out _ _ _ (HS3.out.keep tB)) fun w4 hb4 fc4 fg4 hc4 hf4 hz4 => ?_); (try simp at hz4)) | fail)
    go_ret2
    exact ⟨by rw [HC.out, HN.out, HV2.out, if_neg HNZ.out, if_neg HNZ.out]; rfl, by have h1 := Hbl.out; exact tB⟩
  ·have dl := @dF k us.length hlt
   have hfz : firstC FC us = 0 := by rw [HV.out, drop_all (by omega)]; rfl
   have ho := Hown.out
   rw [show us.take k = us from List.take_of_length_le (by omega)] at ho
   obtain ⟨A2, c2, hv2, hrs2, _⟩ := ho.rs
   rw [List.length_map, List.length_map, ← List.length_map (f := FN)] at hv2
   subst hv2
   have CS := hid (fixSum64 (us.map FN) A2 c2 wr (by rw [List.length_map]; omega) (fun z hz => by
    obtain ⟨u, _, rfl⟩ := List.mem_map.1 hz
    exact HF64.out u) hrs2.rd)
   rw [hfz, if_pos rfl] at HC HN
   generalize us.map FN = Z at *
   clear hfz ho hrs2
   go_wp2_with (first | (go_at_call 135; (with_reducible refine cM (CS.out) fun w1 hb1 fc1 fg1 hc1 hf1 hz1 => ?_); (try simp at hz1)) | fail)
   go_ret2
   exact ⟨by rw [HC.out, HN.out]; rfl, by have h1 := Hbl.out; exact tB⟩
theorem portUsed (s : StV) (id : Int) (w : World) (hl : s.acs.val.length ≤ 1000) (hr : Rs w 4 (s.acs.val.map encAcctV) s.acs.A s.acs.c) (hg : ∀ x ∈ s.acs.val, x.clients.val.length ≤ 1000 ∧ GoodA w x)
  (hlb : s.bk.val.length ≤ 1000) (h64 : L64 (s.bk.val.map lgPosV)) (hrb : Rd w s.bk.A 3 (s.bk.val.map encPosV)) (hgb : ∀ x ∈ s.bk.val, GoodPosV w x) :
  Calls Tryz.prog 68 #[.agg #[.int .i64 (s).day, .slice (s).mem.A (s).mem.val.length (s).mem.c, .slice (s).ins.A (s).ins.val.length (s).ins.c, .slice (s).ats.A (s).ats.val.length (s).ats.c, .slice (s).acs.A (s).acs.val.length (s).acs.c, .slice (s).cho.A (s).cho.val.length (s).cho.c, .slice (s).grp.A (s).grp.val.length (s).grp.c, .slice (s).giv.A (s).giv.val.length (s).giv.c, .slice (s).bk.A (s).bk.val.length (s).bk.c, .slice (s).sale.A (s).sale.val.length (s).sale.c, .slice (s).pu.A (s).pu.val.length (s).pu.c, .slice (s).ho.A (s).ho.val.length (s).ho.c], .int .i64 id] w fun e w' => e = .returned (.tuple #[.int .i64 (heldN (s.bk.val.map lgPosV) (unitsOfL (ofL (s.acs.val.map lgA) id))), .int .i64 (heldC (s.bk.val.map lgPosV) (unitsOfL (ofL (s.acs.val.map lgA) id)))]) ∧ Below w.heap.size w w' := by
 have CU := hid (fun W (h : Below w.heap.size w W) => portUnits s id W hl (hr.keep h) (fun x hx => ⟨(hg x hx).1, (hg x hx).2.keep h⟩))
 have hul : (unitsOfL (ofL (s.acs.val.map lgA) id)).length ≤ 2000000 := by
  have h1 := unitsOf_len (l := ofL (s.acs.val.map lgA) id) (m := 1000) fun a ha => by
   obtain ⟨x, hx, rfl⟩ := List.mem_map.1 (ofL_mem ha).1
   exact (hg x hx).1
  have h2 := ofL_len (s.acs.val.map lgA) id
  rw [List.length_map] at h2
  omega
 have CH := hid (fun us (hu : us.length ≤ 2000000) B d W (h : Below w.heap.size w W) (h2 : Rd W B 2 (us.map encUn)) => bookHeld s.bk.val us s.bk.A B s.bk.c d W (by omega) hu h64 (hrb.keep h) (fun x hx => (hgb x hx).keep h) h2)
 clear hr hg h64 hrb hgb
 generalize unitsOfL (ofL (s.acs.val.map lgA) id) = U at *
 go_enter Tryz.func68, Tryz.ntmps68
 go_wp2_with fail
 go_region_held3 (fun w' => ((w').cell? ⟨w.heap.size, 0, none⟩ = some (.int .i64 (s).day) ∧ (w').cell? ⟨w.heap.size, 1, none⟩ = some (.slice (s).mem.A (s).mem.val.length (s).mem.c) ∧ (w').cell? ⟨w.heap.size, 2, none⟩ = some (.slice (s).ins.A (s).ins.val.length (s).ins.c) ∧ (w').cell? ⟨w.heap.size, 3, none⟩ = some (.slice (s).ats.A (s).ats.val.length (s).ats.c) ∧ (w').cell? ⟨w.heap.size, 4, none⟩ = some (.slice (s).acs.A (s).acs.val.length (s).acs.c) ∧ (w').cell? ⟨w.heap.size, 5, none⟩ = some (.slice (s).cho.A (s).cho.val.length (s).cho.c) ∧ (w').cell? ⟨w.heap.size, 6, none⟩ = some (.slice (s).grp.A (s).grp.val.length (s).grp.c) ∧ (w').cell? ⟨w.heap.size, 7, none⟩ = some (.slice (s).giv.A (s).giv.val.length (s).giv.c) ∧ (w').cell? ⟨w.heap.size, 8, none⟩ = some (.slice (s).bk.A (s).bk.val.length (s).bk.c) ∧ (w').cell? ⟨w.heap.size, 9, none⟩ = some (.slice (s).sale.A (s).sale.val.length (s).sale.c) ∧ (w').cell? ⟨w.heap.size, 10, none⟩ = some (.slice (s).pu.A (s).pu.val.length (s).pu.c) ∧ (w').cell? ⟨w.heap.size, 11, none⟩ = some (.slice (s).ho.A (s).ho.val.length (s).ho.c))) (exact tK) (first | (go_at_call 103; (with_reducible refine (CU.out _ tB).mono ?_); rintro e w1 ⟨A1, c1, rfl, hrs1, hb1⟩; have HS1 := hid hrs1.rd; clear hrs1; obtain ⟨fc1, fg1, hc1, hf1, hz1⟩ := bget hb1; (try simp at hz1)) | (go_at_call 102; (with_reducible refine cM (CH.out U hul _ _ _ tB (HS1.out.keep tB)) fun w2 hb2 fc2 fg2 hc2 hf2 hz2 => ?_); (try simp at hz2)) | fail)
 all_goals
  go_wp2_with fail
  go_ret2
  exact ⟨rfl, tB⟩
/- A state whose rows are there. -/
def sideV (s : StV) : SideV := ⟨s.ats, s.ins, s.bk, s.pu, s.ho⟩
structure GoodSt (w : World) (s : StV) : Prop where
 side : GoodS w (sideV s)
 oka : ∀ a ∈ s.ats.val, okA a
 rs : Rd w s.sale.A 3 (s.sale.val.map encPosV)
 ls : s.sale.val.length ≤ 1000
 gs : ∀ x ∈ s.sale.val, GoodPosV w x
 lb : ∀ x ∈ s.bk.val, x.legs.val.length ≤ 40 ∧ ∀ z ∈ x.legs.val, In64 z.inst ∧ In64 z.qty
 lsl : ∀ x ∈ s.sale.val, x.legs.val.length ≤ 40 ∧ ∀ z ∈ x.legs.val, In64 z.inst ∧ In64 z.qty
 lh : ∀ x ∈ s.ho.val, x.lots.val.length ≤ 40 ∧ ∀ z ∈ x.lots.val, In64 z.asset ∧ In64 z.tag ∧ In64 z.qty
 rm : Rd w s.mem.A 4 (s.mem.val.map encMb)
 lm : s.mem.val.length ≤ 100
 om : ∀ m ∈ s.mem.val, okMb m
 rc : Rs w 4 (s.acs.val.map encAcctV) s.acs.A s.acs.c
 lc : s.acs.val.length ≤ 60
 gc : ∀ x ∈ s.acs.val, x.clients.val.length ≤ 40 ∧ GoodA w x
 oc : ∀ x ∈ s.acs.val, In64 x.id ∧ In64 x.member ∧ In64 x.kind ∧ ∀ z ∈ x.clients.val, In64 z
 day : In64 s.day
theorem GoodSt.keep {w w' : World} {s : StV} (h : GoodSt w s) (hb : Below w.heap.size w w') : GoodSt w' s :=
 ⟨h.side.keep hb, h.oka, h.rs.keep hb, h.ls, fun x hx => (h.gs x hx).keep hb, h.lb, h.lsl, h.lh, h.rm.keep hb, h.lm, h.om, h.rc.keep hb, h.lc, fun x hx => ⟨(h.gc x hx).1, (h.gc x hx).2.keep hb⟩, h.oc, h.day⟩
theorem ofB_ok {L : List PosV} (h : ∀ x ∈ L, x.legs.val.length ≤ 40 ∧ ∀ z ∈ x.legs.val, In64 z.inst ∧ In64 z.qty) (u : Un) : (ofK (L.map lgPosV) u).length ≤ 40 ∧ ∀ z ∈ ofK (L.map lgPosV) u, In64 z.inst ∧ In64 z.qty := by
 rcases ofK_mem (l := L.map lgPosV) (u := u) with ⟨x, hx, _, e⟩ | ⟨_, e⟩
 ·obtain ⟨y, hy, rfl⟩ := List.mem_map.1 hx
  rw [e]; exact h y hy
 ·rw [e]; simp
theorem ofT_ok {L : List HoldV} (h : ∀ x ∈ L, x.lots.val.length ≤ 40 ∧ ∀ z ∈ x.lots.val, In64 z.asset ∧ In64 z.tag ∧ In64 z.qty) (u : Un) : (ofK (L.map lgHoldV) u).length ≤ 40 ∧ ∀ z ∈ ofK (L.map lgHoldV) u, In64 z.asset ∧ In64 z.tag ∧ In64 z.qty := by
 rcases ofK_mem (l := L.map lgHoldV) (u := u) with ⟨x, hx, _, e⟩ | ⟨_, e⟩
 ·obtain ⟨y, hy, rfl⟩ := List.mem_map.1 hx
  rw [e]; exact h y hy
 ·rw [e]; simp
theorem Own.pga {E g b0 base T k : Nat} {v : Value} {rows : List (List Value)} {w w' : World} (h : Own w base T k v rows) (hp : PgA E g b0 w w') (ht : T ≠ E) (hg : g < base) : Own w' base T k v rows := by
 refine ⟨h.1, h.2.1, ?_⟩
 rcases h.2.2 with h2 | ⟨b, cap, cur, hv, hb, hh, r⟩
 ·exact .inl h2
 ·exact .inr ⟨b, cap, cur, hv, hb, by
   rw [hp.typed b (Array.getElem?_eq_some_iff.1 hh).1 (by omega) (fun cs' r' e => by rw [hh] at e; injection e with e; injection e with _ e _; exact ht e)]
   exact hh, r⟩
theorem lot_bound {u : Un} {x : Lot} (hu : In64 u.acc ∧ In64 u.cli) (hx : In64 x.asset ∧ In64 x.tag ∧ In64 x.qty) : (lnL (lotW u x)).length ≤ 100000 := by
 refine Nat.le_trans (join_len (lotW u x) 43 ?_) (by simp [lotW])
 have h1 := place_le hu
 have h2 := itoa_le hx.1
 have h3 := itoa_le hx.2.1
 have h4 := itoa_le hx.2.2
 simp only [lotW, List.mem_cons, List.not_mem_nil, or_false, forall_eq_or_imp, forall_eq]
 exact ⟨by simp, h1, by omega, by omega, by omega⟩
theorem unit_bound {u : Un} {n : Int} (hu : In64 u.acc ∧ In64 u.cli) (hn : In64 n) : (lnL (unitW n u)).length ≤ 100000 := by
 refine Nat.le_trans (join_len (unitW n u) 43 ?_) (by simp [unitW])
 have h1 := place_le hu
 have h2 := itoa_le hn
 simp only [unitW, List.mem_cons, List.not_mem_nil, or_false, forall_eq_or_imp, forall_eq]
 exact ⟨by simp, h1, by simp, by omega⟩
/- Layer 27's laws: Few. -/
structure RawS (w : World) (s : SideV) : Prop where
 la : s.ats.val.length ≤ maxLen
 ra : Rd w s.ats.A 3 (s.ats.val.map encAsset)
 li : s.ins.val.length ≤ maxLen
 ri : Rd w s.ins.A 5 (s.ins.val.map encInstV)
 gi : ∀ x ∈ s.ins.val, GoodI w x
 lb : s.bk.val.length ≤ maxLen
 rb : Rd w s.bk.A 3 (s.bk.val.map encPosV)
 gb : ∀ x ∈ s.bk.val, Rs w 2 (x.legs.val.map encLeg) x.legs.A x.legs.c
 b64 : ∀ x ∈ s.bk.val, Legs64 x.legs.val
 rp : Rs w 3 (s.pu.val.map encFlow) s.pu.A s.pu.c
 p64 : ∀ x ∈ s.pu.val, In64 x.amount
 lh : s.ho.val.length ≤ maxLen
 rh : Rd w s.ho.A 3 (s.ho.val.map encHoldV)
 gh : ∀ x ∈ s.ho.val, Rs w 3 (x.lots.val.map encLot) x.lots.A x.lots.c
 h64 : ∀ x ∈ s.ho.val, ∀ z ∈ x.lots.val, In64 z.qty
structure FewS (w : World) (s : SideV) : Prop where
 good : GoodS w s
 ok : ∀ a ∈ s.ats.val, okA a
 lp : s.pu.val.length ≤ 20
 lh : s.ho.val.length ≤ 10
 form : (s.ho.A = none ∧ s.ho.val = [] ∧ s.ho.c = 0) ∨ ∃ b o, s.ho.A = some ⟨b, o, none⟩
theorem FewS.keep {w w' : World} {s : SideV} (h : FewS w s) (hb : Below w.heap.size w w') : FewS w' s := ⟨h.good.keep hb, h.ok, h.lp, h.lh, h.form⟩
structure Late (base : Nat) (w X : World) : Prop where
 size : w.heap.size ≤ X.heap.size
 block : ∀ b, base ≤ b → b < w.heap.size → X.heap[b]? = w.heap[b]?
theorem Late.refl (base : Nat) (w : World) : Late base w w := ⟨Nat.le_refl _, fun _ _ _ => rfl⟩
theorem Late.below {base : Nat} {w X Y : World} (h : Late base w X) (hb : Below X.heap.size X Y) : Late base w Y :=
 ⟨Nat.le_trans h.size hb.size, fun b h1 h2 => (hb.block b (Nat.lt_of_lt_of_le h2 h.size)).trans (h.block b h1 h2)⟩
theorem Late.set {base : Nat} {w X : World} (h : Late base w X) {p : Addr} (hp : p.block < base ∨ w.heap.size ≤ p.block) (v : Value) : Late base w (X.setCell p v) :=
 ⟨by simpa [World.setCell] using h.size, fun b h1 h2 => (Below.heap_setCell X p v b (by omega)).trans (h.block b h1 h2)⟩
theorem Own.late {base b0 E k : Nat} {v : Value} {rows : List (List Value)} {w X : World} (h : Own w b0 E k v rows) (hl : Late base w X) (hb : base ≤ b0) : Own X b0 E k v rows := by
 refine ⟨h.1, h.2.1, ?_⟩
 rcases h.2.2 with h2 | ⟨g, cap, cur, hv, hg, hh, r⟩
 ·exact .inl h2
 ·exact .inr ⟨g, cap, cur, hv, hg, (hl.block g (Nat.le_trans hb hg) (Array.getElem?_eq_some_iff.1 hh).1).trans hh, r⟩
structure FewT (w0 : World) (base : Nat) (w : World) (t : SideV) : Prop where
 oa : Own w base 51 3 (.slice t.ats.A t.ats.val.length t.ats.c) (t.ats.val.map encAsset)
 la : t.ats.val.length ≤ 1000
 oi : Own w base 58 5 (.slice t.ins.A t.ins.val.length t.ins.c) (t.ins.val.map encInstV)
 li : t.ins.val.length ≤ 1000
 gi : ∀ x ∈ t.ins.val, x.moves.val.length ≤ 1048576 ∧ GoodI w0 x
 ob : Own w base 82 3 (.slice t.bk.A t.bk.val.length t.bk.c) (t.bk.val.map encPosV)
 lb : t.bk.val.length ≤ 1000
 gb : ∀ x ∈ t.bk.val, GoodPosV w0 x
 b64 : L64 (t.bk.val.map lgPosV)
 rp : Rs w0 3 (t.pu.val.map encFlow) t.pu.A t.pu.c
 lp : t.pu.val.length ≤ 20
 p64 : ∀ x ∈ t.pu.val, In64 x.amount
 oh : Own w base 75 3 (.slice t.ho.A t.ho.val.length t.ho.c) (t.ho.val.map encHoldV)
 lh : t.ho.val.length ≤ 10
 gh : ∀ x ∈ t.ho.val, GoodHoldV w0 x
 hq : LQ (t.ho.val.map lgHoldV)
 ok : ∀ a ∈ t.ats.val, okA a
theorem FewT.few {w0 w X : World} {base : Nat} {t : SideV} (h : FewT w0 base w t) (h0 : Below w0.heap.size w0 X) (hl : Late base w X) : FewS X t :=
 ⟨⟨(h.oa.late hl (Nat.le_refl _)).good.rd, h.la, (h.oi.late hl (Nat.le_refl _)).good.rd, h.li, fun x hx => ⟨(h.gi x hx).1, (h.gi x hx).2.keep h0⟩, (h.ob.late hl (Nat.le_refl _)).good.rd, h.lb, fun x hx => (h.gb x hx).keep h0, h.b64, h.rp.keep h0, Nat.le_trans h.lp (by omega), h.p64, (h.oh.late hl (Nat.le_refl _)).good, Nat.le_trans h.lh (by omega), fun x hx => (h.gh x hx).keep h0, h.hq⟩, h.ok, h.lp, h.lh, by
  obtain ⟨A', c', hv, _, hf⟩ := h.oh.rs
  injection hv with e1 e2 e3
  rcases hf with ⟨k1, k2, k3⟩ | ⟨g, k1, _⟩
  ·exact .inl ⟨e1.trans k1, List.map_eq_nil_iff.1 k2, e3.trans k3⟩
  ·exact .inr ⟨g, 0, e1.trans k1⟩⟩
end Go.Proofs.YtalgfpegaobacaaGreatDoor
