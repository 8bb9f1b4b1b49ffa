/- Joined. -/
import Derived.Test.YtalgfpegaobacaaGreatDoorQb4
namespace Go.Proofs.YtalgfpegaobacaaGreatDoor
set_option linter.all false
set_option maxHeartbeats 64000000
set_option maxRecDepth 100000
open Go.RowKit
open Lib (hid)
theorem pred_K {k : Nat} (h : 1 ≤ k) (hk : k ≤ 1000000) : (0 : Int) ≤ (k : Int) - 1 ∧ ((k : Int) - 1).toNat = k - 1 ∧ IntKind.i64.wrap ((k : Int) - 1) = (k : Int) - 1 :=
 ⟨by omega, by omega, IntWalk.i64_in _ (by omega)⟩
theorem ref33Tables (s : StV) (w : World) (hs : LedSt w s) (c16 : ∀ W, Below w.heap.size w W → Calls Tryz.prog 54 #[.slice s.cho.A s.cho.val.length s.cho.c] W fun e w' => ∃ b, e = .returned (.bool b) ∧ Below W.heap.size W w') :
  Calls Tryz.prog 20 #[.agg #[.int .i64 (s).day, .slice (s).mem.A (s).mem.val.length (s).mem.c, .slice (s).ins.A (s).ins.val.length (s).ins.c, .slice (s).ats.A (s).ats.val.length (s).ats.c, .slice (s).acs.A (s).acs.val.length (s).acs.c, .slice (s).cho.A (s).cho.val.length (s).cho.c, .slice (s).grp.A (s).grp.val.length (s).grp.c, .slice (s).giv.A (s).giv.val.length (s).giv.c, .slice (s).bk.A (s).bk.val.length (s).bk.c, .slice (s).sale.A (s).sale.val.length (s).sale.c, .slice (s).pu.A (s).pu.val.length (s).pu.c, .slice (s).ho.A (s).ho.val.length (s).ho.c]] w fun e w' => ∃ b, e = .returned (.bool b) ∧ (b = true → AscK (fun x => decide (okMbr x)) (fun x => x.id) s.mem.val s.mem.val.length ∧ AscK (fun x => decide (okA x)) (fun x => x.id) s.ats.val s.ats.val.length ∧ AscK (fun x => okAV x && (findMb s.mem.val x.member).2) (fun x => x.id) s.acs.val s.acs.val.length) ∧ Below w.heap.size w w' := by
 have CH := hid (fun u W (h : Below w.heap.size w W) => ref33Has s u W (hs.keep h))
 have CF := hid (fun id W (h : Below w.heap.size w W) => ref14Find s.mem.val id s.mem.A s.mem.c W (by have := hs.lm; omega) (hs.rm.keep h))
 have CA := hid (fun x (hx : x ∈ s.acs.val) W (h : Below w.heap.size w W) => ref15IsV x W (by have := (hs.gc x hx).1; omega) ((hs.gc x hx).2.keep h))
 have CV := hid (fun x (hx : x ∈ s.ins.val) W (h : Below w.heap.size w W) => ref13IsV x W (by have h1 := (hs.side.gi x hx).1; omega) ((hs.side.gi x hx).2.keep h))
 have C16 := hid c16
 have HRM := hid hs.rm
 have HRI := hid (show Rd w s.ins.A 5 (s.ins.val.map encInstV) from hs.side.ri)
 have HRT := hid (show Rd w s.ats.A 3 (s.ats.val.map encAsset) from hs.side.ra)
 have HRC := hid hs.rc.rd
 have HRH := hid hs.rch.rd
 have lm := hs.lm
 have li : s.ins.val.length ≤ 1000 := hs.side.li
 have la : s.ats.val.length ≤ 1000 := hs.side.la
 have lc := hs.lc
 have lh := hs.lch
 clear hs c16
 go_enter Tryz.func20, Tryz.ntmps20
 go_wp2_with fail
 obtain ⟨w1, hw1⟩ : ∃ w1, w1 = w.alloc (.cells #[.int .i64 (s).day, .slice (s).mem.A (s).mem.val.length (s).mem.c, .slice (s).ins.A (s).ins.val.length (s).ins.c, .slice (s).ats.A (s).ats.val.length (s).ats.c, .slice (s).acs.A (s).acs.val.length (s).acs.c, .slice (s).cho.A (s).cho.val.length (s).cho.c, .slice (s).grp.A (s).grp.val.length (s).grp.c, .slice (s).giv.A (s).giv.val.length (s).giv.c, .slice (s).bk.A (s).bk.val.length (s).bk.c, .slice (s).sale.A (s).sale.val.length (s).sale.c, .slice (s).pu.A (s).pu.val.length (s).pu.c, .slice (s).ho.A (s).ho.val.length (s).ho.c] 33) := ⟨_, rfl⟩
 have HSB := hid (show ((w1).cell? ⟨w.heap.size, 0, none⟩ = some (.int .i64 (s).day) ∧ (w1).cell? ⟨w.heap.size, 1, none⟩ = some (.slice (s).mem.A (s).mem.val.length (s).mem.c) ∧ (w1).cell? ⟨w.heap.size, 2, none⟩ = some (.slice (s).ins.A (s).ins.val.length (s).ins.c) ∧ (w1).cell? ⟨w.heap.size, 3, none⟩ = some (.slice (s).ats.A (s).ats.val.length (s).ats.c) ∧ (w1).cell? ⟨w.heap.size, 4, none⟩ = some (.slice (s).acs.A (s).acs.val.length (s).acs.c) ∧ (w1).cell? ⟨w.heap.size, 5, none⟩ = some (.slice (s).cho.A (s).cho.val.length (s).cho.c) ∧ (w1).cell? ⟨w.heap.size, 6, none⟩ = some (.slice (s).grp.A (s).grp.val.length (s).grp.c) ∧ (w1).cell? ⟨w.heap.size, 7, none⟩ = some (.slice (s).giv.A (s).giv.val.length (s).giv.c) ∧ (w1).cell? ⟨w.heap.size, 8, none⟩ = some (.slice (s).bk.A (s).bk.val.length (s).bk.c) ∧ (w1).cell? ⟨w.heap.size, 9, none⟩ = some (.slice (s).sale.A (s).sale.val.length (s).sale.c) ∧ (w1).cell? ⟨w.heap.size, 10, none⟩ = some (.slice (s).pu.A (s).pu.val.length (s).pu.c) ∧ (w1).cell? ⟨w.heap.size, 11, none⟩ = some (.slice (s).ho.A (s).ho.val.length (s).ho.c)) by rw [hw1]; exact st_box)
 have HW1 := hid (below_one hw1)
 have hsz1 : w1.heap.size = w.heap.size + 1 := by rw [hw1]; simp
 have hgs : w.heap.size < w1.heap.size := by omega
 rw [← hw1]
 clear hw1
 go_loopw [3] (fun i wr => ∃ k : Nat, k ≤ s.mem.val.length ∧ i = .int .i64 k ∧ AscK (fun x => decide (okMbr x)) (fun x => x.id) s.mem.val k ∧ Below w1.heap.size w1 wr) (fun i _ => s.mem.val.length - (intOf i).toNat)
 case atStart => exact ⟨0, Nat.zero_le _, rfl, AscK.zero, Below.refl _ _⟩
 case round =>
  obtain ⟨k, hk, rfl, has, hbl⟩ := hrel
  have HAS := hid has
  have Hbl := hid hbl
  have hz := hbl.size
  have HW := hid (HW1.out.trans (hbl.mono (by omega)))
  clear hbl has
  obtain ⟨y0, y1, y2, y3, y4, y5, y6, y7, y8, y9, y10, y11⟩ := st_keep HSB.out Hbl.out hgs
  have hgw : w.heap.size < wr.heap.size := by omega
  by_cases hlt : k < s.mem.val.length
  ·have kl : (k : Int) < (s.mem.val.length : Int) := by omega
   have dl : decide ((k : Int) < (s.mem.val.length : Int)) = true := by simpa using hlt
   obtain ⟨b, o, hA, hb, hc⟩ := HRM.out k (encMb s.mem.val[k]) (by simp [hlt])
   have e0 := tC HW hb (hc 0 _ rfl)
   have e1 := tC HW hb (hc 1 _ rfl)
   have e2 := tC HW hb (hc 2 _ rfl)
   have e3 := tC HW hb (hc 3 _ rfl)
   simp only [Nat.add_zero] at e0
   clear hc
   have hbw : b < wr.heap.size := by omega
   rw [hA] at y1
   have CX0 := (fun W (h : Below w.heap.size w W) => ref14Is s.mem.val[k] W)
   cases hob : decide (okMbr s.mem.val[k])
   ·as_aux_lemma =>
    rw [hob] at CX0
    have CX := hid CX0
    clear CX0 hob hA
    generalize s.mem.val[k] = x at *
    go_wp2_with fail
    refine wp_region_held_drew (S := (fun w' => w'.cell? ⟨w.heap.size, 1, none⟩ = some (.slice (some ⟨b, o, none⟩) s.mem.val.length s.mem.c) ∧ w'.cell? ⟨b, o + k * 4, none⟩ = some (.int .i64 x.id) ∧ w'.cell? ⟨b, o + k * 4 + 1, none⟩ = some (.int .i64 x.cap) ∧ w'.cell? ⟨b, o + k * 4 + 2, none⟩ = some (.int .i64 x.phase) ∧ w'.cell? ⟨b, o + k * 4 + 3, none⟩ = some (.int .i64 x.til))) (by kernel_rfl) ?_ (fun hHeld => ?_)
    ·(exact tK)
    refine tQ 0 ?_
    refine tS ?_
    refine tQ 1 ?_
    refine tS ?_
    refine tQ 2 ?_
    refine tS ?_
    refine tQ 3 ?_
    refine tS ?_
    refine tQ 4 ?_
    refine tS ?_
    refine tR (.cons (i := 5) rfl (fun K hK => ?_) .nil)
    refine tG ?_
    go_simp
    (go_at_call 49; (with_reducible refine cM (CX.out _ (by have h := HW.out; exact tB)) fun w1 hb1 fc1 fg1 hc1 hf1 hz1 => ?_); (try simp at hz1))
    refine hK.out _ _ ?_ (fun hHeld => ?_)
    focus ((exact tK); done)
    refine tS ?_
    refine tQ 6 ?_
    refine tS ?_
    refine tQ 7 ?_
    refine tS ?_
    refine tN 8 ?_
    refine tS ?_
    refine tN 9 ?_
    refine tS ?_
    refine tN 10 ?_
    refine tS ?_
    refine tN 11 ?_
    refine tS ?_
    refine tN 12 ?_
    refine tS ?_
    refine tN 13 ?_
    refine tS ?_
    refine tN 14 ?_
    refine tS ?_
    refine tN 15 ?_
    refine tS ?_
    refine tN 16 ?_
    refine tS ?_
    refine tN 17 ?_
    refine tS ?_
    refine tN 18 ?_
    refine tS ?_
    refine tN 19 ?_
    refine tS ?_
    refine tN 20 ?_
    refine tS ?_
    refine tN 21 ?_
    refine tS ?_
    refine tN 22 ?_
    refine tS ?_
    refine tN 23 ?_
    refine tS ?_
    refine tN 24 ?_
    refine tS ?_
    refine tN 25 ?_
    refine tS ?_
    refine tQ 26 ?_
    refine tS ?_
    refine wpAnyH_done (by kernel_rfl) ?_ _
    go_wp2_with fail
    go_ret
    exact ⟨_, rfl, (fun h => by cases h), by have h := HW.out; exact tB⟩
   ·rw [hob] at CX0
    have CX := hid CX0
    clear CX0
    rcases Nat.eq_zero_or_pos k with k0 | k0
    ·as_aux_lemma =>
     have HST := hid (HAS.out.step hlt hob (fun h => by omega))
     have g0 : decide (0 < k) = false := by simp; omega
     have g1 : decide ((0 : Int) < (k : Int)) = false := by simp; omega
     clear hob hA k0
     generalize s.mem.val[k] = x at *
     go_wp2_with fail
     refine wp_region_held_drew (S := (fun w' => w'.cell? ⟨w.heap.size, 1, none⟩ = some (.slice (some ⟨b, o, none⟩) s.mem.val.length s.mem.c) ∧ w'.cell? ⟨b, o + k * 4, none⟩ = some (.int .i64 x.id) ∧ w'.cell? ⟨b, o + k * 4 + 1, none⟩ = some (.int .i64 x.cap) ∧ w'.cell? ⟨b, o + k * 4 + 2, none⟩ = some (.int .i64 x.phase) ∧ w'.cell? ⟨b, o + k * 4 + 3, none⟩ = some (.int .i64 x.til))) (by kernel_rfl) ?_ (fun hHeld => ?_)
     ·(exact tK)
     refine tQ 0 ?_
     refine tS ?_
     refine tQ 1 ?_
     refine tS ?_
     refine tQ 2 ?_
     refine tS ?_
     refine tQ 3 ?_
     refine tS ?_
     refine tQ 4 ?_
     refine tS ?_
     refine tR (.cons (i := 5) rfl (fun K hK => ?_) .nil)
     refine tG ?_
     go_simp
     (go_at_call 49; (with_reducible refine cM (CX.out _ (by have h := HW.out; exact tB)) fun w1 hb1 fc1 fg1 hc1 hf1 hz1 => ?_); (try simp at hz1))
     refine hK.out _ _ ?_ (fun hHeld => ?_)
     focus ((exact tK); done)
     refine tS ?_
     refine tQ 6 ?_
     refine tS ?_
     refine tQ 7 ?_
     refine tS ?_
     refine tQ 8 ?_
     refine tS ?_
     refine tQ 9 ?_
     refine tS ?_
     refine tQ 10 ?_
     refine tS ?_
     refine tN 11 ?_
     refine tS ?_
     refine tN 12 ?_
     refine tS ?_
     refine tN 13 ?_
     refine tS ?_
     refine tN 14 ?_
     refine tS ?_
     refine tN 15 ?_
     refine tS ?_
     refine tN 16 ?_
     refine tS ?_
     refine tN 17 ?_
     refine tS ?_
     refine tN 18 ?_
     refine tS ?_
     refine tN 19 ?_
     refine tS ?_
     refine tN 20 ?_
     refine tS ?_
     refine tN 21 ?_
     refine tS ?_
     refine tN 22 ?_
     refine tS ?_
     refine tN 23 ?_
     refine tS ?_
     refine tN 24 ?_
     refine tS ?_
     refine tQ 25 ?_
     refine tS ?_
     refine tQ 26 ?_
     refine tS ?_
     refine wpAnyH_done (by kernel_rfl) ?_ _
     go_wp2_with fail
     go_roundw
     case rel => exact ⟨k + 1, by omega, by go_num, HST.out, by have h := Hbl.out; exact tB⟩
     case measure => simp [intOf]; omega
    ·have HST := hid (show (s.mem.val[k - 1]'(by omega)).id < s.mem.val[k].id → AscK (fun x => decide (okMbr x)) (fun x => x.id) s.mem.val (k + 1) from fun h => HAS.out.step hlt hob (fun h0 => h))
     obtain ⟨b1, o1, hA1, hb1, hc1⟩ := HRM.out (k - 1) (encMb (s.mem.val[k - 1]'(by omega))) (by rw [List.getElem?_map, List.getElem?_eq_getElem (by omega)]; rfl)
     rw [hA] at hA1
     injection hA1 with hA1
     injection hA1 with q1 q2 _
     subst q1 q2
     have f0 := tC HW hb (hc1 0 _ rfl)
     simp only [Nat.add_zero] at f0
     clear hc1 hb1
     have g0 : decide (0 < k) = true := by simpa using k0
     have g1 : decide ((0 : Int) < (k : Int)) = true := by simp; omega
     have hk1 : k - 1 < s.mem.val.length := by omega
     clear hob hA
     generalize s.mem.val[k - 1] = z at *
     generalize s.mem.val[k] = x at *
     have lk : (k : Int) - 1 < ((s.mem.val).length : Int) := by omega
     have k1 : (1 : Int) ≤ (k : Int) := by omega
     have k2 : 1 ≤ k := by omega
     have lk2 : (k : Int) ≤ ((s.mem.val).length : Int) := by omega
     have lk3 : (k : Int) < ((s.mem.val).length : Int) + 1 := by omega
     have lk4 : k < (s.mem.val).length + 1 := by omega
     obtain ⟨nk, tk, wk⟩ := pred_K k2 (by omega)
     by_cases hle : x.id ≤ z.id
     ·as_aux_lemma =>
      have dle : decide (x.id ≤ z.id) = true := by simpa using hle
      clear HST
      go_wp2_with fail
      go_region_held3 (fun w' => w'.cell? ⟨w.heap.size, 1, none⟩ = some (.slice (some ⟨b, o, none⟩) s.mem.val.length s.mem.c) ∧ w'.cell? ⟨b, o + k * 4, none⟩ = some (.int .i64 x.id) ∧ w'.cell? ⟨b, o + k * 4 + 1, none⟩ = some (.int .i64 x.cap) ∧ w'.cell? ⟨b, o + k * 4 + 2, none⟩ = some (.int .i64 x.phase) ∧ w'.cell? ⟨b, o + k * 4 + 3, none⟩ = some (.int .i64 x.til) ∧ w'.cell? ⟨b, o + (k - 1) * 4, none⟩ = some (.int .i64 z.id)) (exact tK) (first | (go_at_call 49; (with_reducible refine cM (CX.out _ (by have h := HW.out; exact tB)) fun w1 hb1 fc1 fg1 hc1 hf1 hz1 => ?_); (try simp at hz1)) | fail)
      all_goals
       clear nk tk wk
       go_wp2_with fail
       go_ret
       exact ⟨_, rfl, (fun h => by cases h), by have h := HW.out; exact tB⟩
     ·as_aux_lemma =>
      have dle : decide (x.id ≤ z.id) = false := by simpa using hle
      have HS2 := hid (HST.out (by omega))
      clear HST
      go_wp2_with fail
      go_region_held3 (fun w' => w'.cell? ⟨w.heap.size, 1, none⟩ = some (.slice (some ⟨b, o, none⟩) s.mem.val.length s.mem.c) ∧ w'.cell? ⟨b, o + k * 4, none⟩ = some (.int .i64 x.id) ∧ w'.cell? ⟨b, o + k * 4 + 1, none⟩ = some (.int .i64 x.cap) ∧ w'.cell? ⟨b, o + k * 4 + 2, none⟩ = some (.int .i64 x.phase) ∧ w'.cell? ⟨b, o + k * 4 + 3, none⟩ = some (.int .i64 x.til) ∧ w'.cell? ⟨b, o + (k - 1) * 4, none⟩ = some (.int .i64 z.id)) (exact tK) (first | (go_at_call 49; (with_reducible refine cM (CX.out _ (by have h := HW.out; exact tB)) fun w1 hb1 fc1 fg1 hc1 hf1 hz1 => ?_); (try simp at hz1)) | fail)
      all_goals
       clear nk tk wk
       go_wp2_with fail
       go_roundw
       case rel => exact ⟨k + 1, by omega, by go_num, HS2.out, by have h := Hbl.out; exact tB⟩
       case measure => simp [intOf]; omega
  ·have dl : decide ((k : Int) < (s.mem.val.length : Int)) = false := by simpa using hlt
   have HT1 := hid (show AscK (fun x => decide (okMbr x)) (fun x => x.id) s.mem.val s.mem.val.length from (show k = s.mem.val.length by omega) ▸ HAS.out)
   have HB1 := Hbl
   have hz1 := hz
   go_wp2_with fail
   clear Hbl HW HAS hlt dl hk hz hgw y0 y1 y2 y3 y4 y5 y6 y7 y8 y9 y10 y11
   go_loopw [4] (fun i wr => ∃ k : Nat, k ≤ s.ins.val.length ∧ i = .int .i64 k ∧ AscK okV (fun x => x.id) s.ins.val k ∧ Below w1.heap.size w1 wr) (fun i _ => s.ins.val.length - (intOf i).toNat)
   case atStart => exact ⟨0, Nat.zero_le _, rfl, AscK.zero, HB1.out⟩
   case round =>
    obtain ⟨k, hk, rfl, has, hbl⟩ := hrel
    have HAS := hid has
    have Hbl := hid hbl
    have hz := hbl.size
    have HW := hid (HW1.out.trans (hbl.mono (by omega)))
    clear hbl has
    obtain ⟨y0, y1, y2, y3, y4, y5, y6, y7, y8, y9, y10, y11⟩ := st_keep HSB.out Hbl.out hgs
    have hgw : w.heap.size < wr.heap.size := by omega
    by_cases hlt : k < s.ins.val.length
    ·have kl : (k : Int) < (s.ins.val.length : Int) := by omega
     have dl : decide ((k : Int) < (s.ins.val.length : Int)) = true := by simpa using hlt
     obtain ⟨b, o, hA, hb, hc⟩ := HRI.out k (encInstV s.ins.val[k]) (by simp [hlt])
     have e0 := tC HW hb (hc 0 _ rfl)
     have e1 := tC HW hb (hc 1 _ rfl)
     have e2 := tC HW hb (hc 2 _ rfl)
     have e3 := tC HW hb (hc 3 _ rfl)
     have e4 := tC HW hb (hc 4 _ rfl)
     simp only [Nat.add_zero] at e0
     clear hc
     have hbw : b < wr.heap.size := by omega
     rw [hA] at y2
     have CX0 := (fun W (h : Below w.heap.size w W) => CV.out s.ins.val[k] (List.getElem_mem hlt) W h)
     cases hob : okV s.ins.val[k]
     ·as_aux_lemma =>
      rw [hob] at CX0
      have CX := hid CX0
      clear CX0 hob hA
      generalize s.ins.val[k] = x at *
      go_wp2_with fail
      refine wp_region_held_drew (S := (fun w' => w'.cell? ⟨w.heap.size, 2, none⟩ = some (.slice (some ⟨b, o, none⟩) s.ins.val.length s.ins.c) ∧ w'.cell? ⟨b, o + k * 5, none⟩ = some (.int .i64 x.id) ∧ w'.cell? ⟨b, o + k * 5 + 1, none⟩ = some (.int .i64 x.mult) ∧ w'.cell? ⟨b, o + k * 5 + 2, none⟩ = some (.int .i64 x.price) ∧ w'.cell? ⟨b, o + k * 5 + 3, none⟩ = some (.int .i64 x.next) ∧ w'.cell? ⟨b, o + k * 5 + 4, none⟩ = some (.slice x.moves.A x.moves.val.length x.moves.c))) (by kernel_rfl) ?_ (fun hHeld => ?_)
      ·(exact tK)
      refine tQ 0 ?_
      refine tS ?_
      refine tQ 1 ?_
      refine tS ?_
      refine tQ 2 ?_
      refine tS ?_
      refine tQ 3 ?_
      refine tS ?_
      refine tQ 4 ?_
      refine tS ?_
      refine tR (.cons (i := 5) rfl (fun K hK => ?_) .nil)
      refine tG ?_
      go_simp
      (go_at_call 50; (with_reducible refine cM (CX.out _ (by have h := HW.out; exact tB)) fun w1 hb1 fc1 fg1 hc1 hf1 hz1 => ?_); (try simp at hz1))
      refine hK.out _ _ ?_ (fun hHeld => ?_)
      focus ((exact tK); done)
      refine tS ?_
      refine tQ 6 ?_
      refine tS ?_
      refine tQ 7 ?_
      refine tS ?_
      refine tN 8 ?_
      refine tS ?_
      refine tN 9 ?_
      refine tS ?_
      refine tN 10 ?_
      refine tS ?_
      refine tN 11 ?_
      refine tS ?_
      refine tN 12 ?_
      refine tS ?_
      refine tN 13 ?_
      refine tS ?_
      refine tN 14 ?_
      refine tS ?_
      refine tN 15 ?_
      refine tS ?_
      refine tN 16 ?_
      refine tS ?_
      refine tN 17 ?_
      refine tS ?_
      refine tN 18 ?_
      refine tS ?_
      refine tN 19 ?_
      refine tS ?_
      refine tN 20 ?_
      refine tS ?_
      refine tN 21 ?_
      refine tS ?_
      refine tN 22 ?_
      refine tS ?_
      refine tN 23 ?_
      refine tS ?_
      refine tN 24 ?_
      refine tS ?_
      refine tN 25 ?_
      refine tS ?_
      refine tQ 26 ?_
      refine tS ?_
      refine wpAnyH_done (by kernel_rfl) ?_ _
      go_wp2_with fail
      go_ret
      exact ⟨_, rfl, (fun h => by cases h), by have h := HW.out; exact tB⟩
     ·rw [hob] at CX0
      have CX := hid CX0
      clear CX0
      rcases Nat.eq_zero_or_pos k with k0 | k0
      ·as_aux_lemma =>
       have HST := hid (HAS.out.step hlt hob (fun h => by omega))
       have g0 : decide (0 < k) = false := by simp; omega
       have g1 : decide ((0 : Int) < (k : Int)) = false := by simp; omega
       clear hob hA k0
       generalize s.ins.val[k] = x at *
       go_wp2_with fail
       refine wp_region_held_drew (S := (fun w' => w'.cell? ⟨w.heap.size, 2, none⟩ = some (.slice (some ⟨b, o, none⟩) s.ins.val.length s.ins.c) ∧ w'.cell? ⟨b, o + k * 5, none⟩ = some (.int .i64 x.id) ∧ w'.cell? ⟨b, o + k * 5 + 1, none⟩ = some (.int .i64 x.mult) ∧ w'.cell? ⟨b, o + k * 5 + 2, none⟩ = some (.int .i64 x.price) ∧ w'.cell? ⟨b, o + k * 5 + 3, none⟩ = some (.int .i64 x.next) ∧ w'.cell? ⟨b, o + k * 5 + 4, none⟩ = some (.slice x.moves.A x.moves.val.length x.moves.c))) (by kernel_rfl) ?_ (fun hHeld => ?_)
       ·(exact tK)
       refine tQ 0 ?_
       refine tS ?_
       refine tQ 1 ?_
       refine tS ?_
       refine tQ 2 ?_
       refine tS ?_
       refine tQ 3 ?_
       refine tS ?_
       refine tQ 4 ?_
       refine tS ?_
       refine tR (.cons (i := 5) rfl (fun K hK => ?_) .nil)
       refine tG ?_
       go_simp
       (go_at_call 50; (with_reducible refine cM (CX.out _ (by have h := HW.out; exact tB)) fun w1 hb1 fc1 fg1 hc1 hf1 hz1 => ?_); (try simp at hz1))
       refine hK.out _ _ ?_ (fun hHeld => ?_)
       focus ((exact tK); done)
       refine tS ?_
       refine tQ 6 ?_
       refine tS ?_
       refine tQ 7 ?_
       refine tS ?_
       refine tQ 8 ?_
       refine tS ?_
       refine tQ 9 ?_
       refine tS ?_
       refine tQ 10 ?_
       refine tS ?_
       refine tN 11 ?_
       refine tS ?_
       refine tN 12 ?_
       refine tS ?_
       refine tN 13 ?_
       refine tS ?_
       refine tN 14 ?_
       refine tS ?_
       refine tN 15 ?_
       refine tS ?_
       refine tN 16 ?_
       refine tS ?_
       refine tN 17 ?_
       refine tS ?_
       refine tN 18 ?_
       refine tS ?_
       refine tN 19 ?_
       refine tS ?_
       refine tN 20 ?_
       refine tS ?_
       refine tN 21 ?_
       refine tS ?_
       refine tN 22 ?_
       refine tS ?_
       refine tN 23 ?_
       refine tS ?_
       refine tN 24 ?_
       refine tS ?_
       refine tQ 25 ?_
       refine tS ?_
       refine tQ 26 ?_
       refine tS ?_
       refine wpAnyH_done (by kernel_rfl) ?_ _
       go_wp2_with fail
       go_roundw
       case rel => exact ⟨k + 1, by omega, by go_num, HST.out, by have h := Hbl.out; exact tB⟩
       case measure => simp [intOf]; omega
      ·have HST := hid (show (s.ins.val[k - 1]'(by omega)).id < s.ins.val[k].id → AscK okV (fun x => x.id) s.ins.val (k + 1) from fun h => HAS.out.step hlt hob (fun h0 => h))
       obtain ⟨b1, o1, hA1, hb1, hc1⟩ := HRI.out (k - 1) (encInstV (s.ins.val[k - 1]'(by omega))) (by rw [List.getElem?_map, List.getElem?_eq_getElem (by omega)]; rfl)
       rw [hA] at hA1
       injection hA1 with hA1
       injection hA1 with q1 q2 _
       subst q1 q2
       have f0 := tC HW hb (hc1 0 _ rfl)
       simp only [Nat.add_zero] at f0
       clear hc1 hb1
       have g0 : decide (0 < k) = true := by simpa using k0
       have g1 : decide ((0 : Int) < (k : Int)) = true := by simp; omega
       have hk1 : k - 1 < s.ins.val.length := by omega
       clear hob hA
       generalize s.ins.val[k - 1] = z at *
       generalize s.ins.val[k] = x at *
       have lk : (k : Int) - 1 < ((s.ins.val).length : Int) := by omega
       have k1 : (1 : Int) ≤ (k : Int) := by omega
       have k2 : 1 ≤ k := by omega
       have lk2 : (k : Int) ≤ ((s.ins.val).length : Int) := by omega
       have lk3 : (k : Int) < ((s.ins.val).length : Int) + 1 := by omega
       have lk4 : k < (s.ins.val).length + 1 := by omega
       obtain ⟨nk, tk, wk⟩ := pred_K k2 (by omega)
       by_cases hle : x.id ≤ z.id
       ·as_aux_lemma =>
        have dle : decide (x.id ≤ z.id) = true := by simpa using hle
        clear HST
        go_wp2_with fail
        go_region_held3 (fun w' => w'.cell? ⟨w.heap.size, 2, none⟩ = some (.slice (some ⟨b, o, none⟩) s.ins.val.length s.ins.c) ∧ w'.cell? ⟨b, o + k * 5, none⟩ = some (.int .i64 x.id) ∧ w'.cell? ⟨b, o + k * 5 + 1, none⟩ = some (.int .i64 x.mult) ∧ w'.cell? ⟨b, o + k * 5 + 2, none⟩ = some (.int .i64 x.price) ∧ w'.cell? ⟨b, o + k * 5 + 3, none⟩ = some (.int .i64 x.next) ∧ w'.cell? ⟨b, o + k * 5 + 4, none⟩ = some (.slice x.moves.A x.moves.val.length x.moves.c) ∧ w'.cell? ⟨b, o + (k - 1) * 5, none⟩ = some (.int .i64 z.id)) (exact tK) (first | (go_at_call 50; (with_reducible refine cM (CX.out _ (by have h := HW.out; exact tB)) fun w1 hb1 fc1 fg1 hc1 hf1 hz1 => ?_); (try simp at hz1)) | fail)
        all_goals
         clear nk tk wk
         go_wp2_with fail
         go_ret
         exact ⟨_, rfl, (fun h => by cases h), by have h := HW.out; exact tB⟩
       ·as_aux_lemma =>
        have dle : decide (x.id ≤ z.id) = false := by simpa using hle
        have HS2 := hid (HST.out (by omega))
        clear HST
        go_wp2_with fail
        go_region_held3 (fun w' => w'.cell? ⟨w.heap.size, 2, none⟩ = some (.slice (some ⟨b, o, none⟩) s.ins.val.length s.ins.c) ∧ w'.cell? ⟨b, o + k * 5, none⟩ = some (.int .i64 x.id) ∧ w'.cell? ⟨b, o + k * 5 + 1, none⟩ = some (.int .i64 x.mult) ∧ w'.cell? ⟨b, o + k * 5 + 2, none⟩ = some (.int .i64 x.price) ∧ w'.cell? ⟨b, o + k * 5 + 3, none⟩ = some (.int .i64 x.next) ∧ w'.cell? ⟨b, o + k * 5 + 4, none⟩ = some (.slice x.moves.A x.moves.val.length x.moves.c) ∧ w'.cell? ⟨b, o + (k - 1) * 5, none⟩ = some (.int .i64 z.id)) (exact tK) (first | (go_at_call 50; (with_reducible refine cM (CX.out _ (by have h := HW.out; exact tB)) fun w1 hb1 fc1 fg1 hc1 hf1 hz1 => ?_); (try simp at hz1)) | fail)
        all_goals
         clear nk tk wk
         go_wp2_with fail
         go_roundw
         case rel => exact ⟨k + 1, by omega, by go_num, HS2.out, by have h := Hbl.out; exact tB⟩
         case measure => simp [intOf]; omega
    ·have dl : decide ((k : Int) < (s.ins.val.length : Int)) = false := by simpa using hlt
     have HT2 := hid (show AscK okV (fun x => x.id) s.ins.val s.ins.val.length from (show k = s.ins.val.length by omega) ▸ HAS.out)
     have HB2 := Hbl
     have hz2 := hz
     go_wp2_with fail
     clear Hbl HW HAS hlt dl hk hz hgw y0 y1 y2 y3 y4 y5 y6 y7 y8 y9 y10 y11
     go_loopw [5] (fun i wr => ∃ k : Nat, k ≤ s.ats.val.length ∧ i = .int .i64 k ∧ AscK (fun x => decide (okA x)) (fun x => x.id) s.ats.val k ∧ Below w1.heap.size w1 wr) (fun i _ => s.ats.val.length - (intOf i).toNat)
     case atStart => exact ⟨0, Nat.zero_le _, rfl, AscK.zero, HB2.out⟩
     case round =>
      obtain ⟨k, hk, rfl, has, hbl⟩ := hrel
      have HAS := hid has
      have Hbl := hid hbl
      have hz := hbl.size
      have HW := hid (HW1.out.trans (hbl.mono (by omega)))
      clear hbl has
      obtain ⟨y0, y1, y2, y3, y4, y5, y6, y7, y8, y9, y10, y11⟩ := st_keep HSB.out Hbl.out hgs
      have hgw : w.heap.size < wr.heap.size := by omega
      by_cases hlt : k < s.ats.val.length
      ·have kl : (k : Int) < (s.ats.val.length : Int) := by omega
       have dl : decide ((k : Int) < (s.ats.val.length : Int)) = true := by simpa using hlt
       obtain ⟨b, o, hA, hb, hc⟩ := HRT.out k (encAsset s.ats.val[k]) (by simp [hlt])
       have e0 := tC HW hb (hc 0 _ rfl)
       have e1 := tC HW hb (hc 1 _ rfl)
       have e2 := tC HW hb (hc 2 _ rfl)
       simp only [Nat.add_zero] at e0
       clear hc
       have hbw : b < wr.heap.size := by omega
       rw [hA] at y3
       have CX0 := (fun W (h : Below w.heap.size w W) => ref12Is s.ats.val[k] W)
       cases hob : decide (okA s.ats.val[k])
       ·as_aux_lemma =>
        rw [hob] at CX0
        have CX := hid CX0
        clear CX0 hob hA
        generalize s.ats.val[k] = x at *
        go_wp2_with fail
        refine wp_region_held_drew (S := (fun w' => w'.cell? ⟨w.heap.size, 3, none⟩ = some (.slice (some ⟨b, o, none⟩) s.ats.val.length s.ats.c) ∧ w'.cell? ⟨b, o + k * 3, none⟩ = some (.int .i64 x.id) ∧ w'.cell? ⟨b, o + k * 3 + 1, none⟩ = some (.int .i64 x.price) ∧ w'.cell? ⟨b, o + k * 3 + 2, none⟩ = some (.int .i64 x.hair))) (by kernel_rfl) ?_ (fun hHeld => ?_)
        ·(exact tK)
        refine tQ 0 ?_
        refine tS ?_
        refine tQ 1 ?_
        refine tS ?_
        refine tQ 2 ?_
        refine tS ?_
        refine tQ 3 ?_
        refine tS ?_
        refine tQ 4 ?_
        refine tS ?_
        refine tR (.cons (i := 5) rfl (fun K hK => ?_) .nil)
        refine tG ?_
        go_simp
        (go_at_call 51; (with_reducible refine cM (CX.out _ (by have h := HW.out; exact tB)) fun w1 hb1 fc1 fg1 hc1 hf1 hz1 => ?_); (try simp at hz1))
        refine hK.out _ _ ?_ (fun hHeld => ?_)
        focus ((exact tK); done)
        refine tS ?_
        refine tQ 6 ?_
        refine tS ?_
        refine tQ 7 ?_
        refine tS ?_
        refine tN 8 ?_
        refine tS ?_
        refine tN 9 ?_
        refine tS ?_
        refine tN 10 ?_
        refine tS ?_
        refine tN 11 ?_
        refine tS ?_
        refine tN 12 ?_
        refine tS ?_
        refine tN 13 ?_
        refine tS ?_
        refine tN 14 ?_
        refine tS ?_
        refine tN 15 ?_
        refine tS ?_
        refine tN 16 ?_
        refine tS ?_
        refine tN 17 ?_
        refine tS ?_
        refine tN 18 ?_
        refine tS ?_
        refine tN 19 ?_
        refine tS ?_
        refine tN 20 ?_
        refine tS ?_
        refine tN 21 ?_
        refine tS ?_
        refine tN 22 ?_
        refine tS ?_
        refine tN 23 ?_
        refine tS ?_
        refine tN 24 ?_
        refine tS ?_
        refine tN 25 ?_
        refine tS ?_
        refine tQ 26 ?_
        refine tS ?_
        refine wpAnyH_done (by kernel_rfl) ?_ _
        go_wp2_with fail
        go_ret
        exact ⟨_, rfl, (fun h => by cases h), by have h := HW.out; exact tB⟩
       ·rw [hob] at CX0
        have CX := hid CX0
        clear CX0
        rcases Nat.eq_zero_or_pos k with k0 | k0
        ·as_aux_lemma =>
         have HST := hid (HAS.out.step hlt hob (fun h => by omega))
         have g0 : decide (0 < k) = false := by simp; omega
         have g1 : decide ((0 : Int) < (k : Int)) = false := by simp; omega
         clear hob hA k0
         generalize s.ats.val[k] = x at *
         go_wp2_with fail
         refine wp_region_held_drew (S := (fun w' => w'.cell? ⟨w.heap.size, 3, none⟩ = some (.slice (some ⟨b, o, none⟩) s.ats.val.length s.ats.c) ∧ w'.cell? ⟨b, o + k * 3, none⟩ = some (.int .i64 x.id) ∧ w'.cell? ⟨b, o + k * 3 + 1, none⟩ = some (.int .i64 x.price) ∧ w'.cell? ⟨b, o + k * 3 + 2, none⟩ = some (.int .i64 x.hair))) (by kernel_rfl) ?_ (fun hHeld => ?_)
         ·(exact tK)
         refine tQ 0 ?_
         refine tS ?_
         refine tQ 1 ?_
         refine tS ?_
         refine tQ 2 ?_
         refine tS ?_
         refine tQ 3 ?_
         refine tS ?_
         refine tQ 4 ?_
         refine tS ?_
         refine tR (.cons (i := 5) rfl (fun K hK => ?_) .nil)
         refine tG ?_
         go_simp
         (go_at_call 51; (with_reducible refine cM (CX.out _ (by have h := HW.out; exact tB)) fun w1 hb1 fc1 fg1 hc1 hf1 hz1 => ?_); (try simp at hz1))
         refine hK.out _ _ ?_ (fun hHeld => ?_)
         focus ((exact tK); done)
         refine tS ?_
         refine tQ 6 ?_
         refine tS ?_
         refine tQ 7 ?_
         refine tS ?_
         refine tQ 8 ?_
         refine tS ?_
         refine tQ 9 ?_
         refine tS ?_
         refine tQ 10 ?_
         refine tS ?_
         refine tN 11 ?_
         refine tS ?_
         refine tN 12 ?_
         refine tS ?_
         refine tN 13 ?_
         refine tS ?_
         refine tN 14 ?_
         refine tS ?_
         refine tN 15 ?_
         refine tS ?_
         refine tN 16 ?_
         refine tS ?_
         refine tN 17 ?_
         refine tS ?_
         refine tN 18 ?_
         refine tS ?_
         refine tN 19 ?_
         refine tS ?_
         refine tN 20 ?_
         refine tS ?_
         refine tN 21 ?_
         refine tS ?_
         refine tN 22 ?_
         refine tS ?_
         refine tN 23 ?_
         refine tS ?_
         refine tN 24 ?_
         refine tS ?_
         refine tQ 25 ?_
         refine tS ?_
         refine tQ 26 ?_
         refine tS ?_
         refine wpAnyH_done (by kernel_rfl) ?_ _
         go_wp2_with fail
         go_roundw
         case rel => exact ⟨k + 1, by omega, by go_num, HST.out, by have h := Hbl.out; exact tB⟩
         case measure => simp [intOf]; omega
        ·have HST := hid (show (s.ats.val[k - 1]'(by omega)).id < s.ats.val[k].id → AscK (fun x => decide (okA x)) (fun x => x.id) s.ats.val (k + 1) from fun h => HAS.out.step hlt hob (fun h0 => h))
         obtain ⟨b1, o1, hA1, hb1, hc1⟩ := HRT.out (k - 1) (encAsset (s.ats.val[k - 1]'(by omega))) (by rw [List.getElem?_map, List.getElem?_eq_getElem (by omega)]; rfl)
         rw [hA] at hA1
         injection hA1 with hA1
         injection hA1 with q1 q2 _
         subst q1 q2
         have f0 := tC HW hb (hc1 0 _ rfl)
         simp only [Nat.add_zero] at f0
         clear hc1 hb1
         have g0 : decide (0 < k) = true := by simpa using k0
         have g1 : decide ((0 : Int) < (k : Int)) = true := by simp; omega
         have hk1 : k - 1 < s.ats.val.length := by omega
         clear hob hA
         generalize s.ats.val[k - 1] = z at *
         generalize s.ats.val[k] = x at *
         have lk : (k : Int) - 1 < ((s.ats.val).length : Int) := by omega
         have k1 : (1 : Int) ≤ (k : Int) := by omega
         have k2 : 1 ≤ k := by omega
         have lk2 : (k : Int) ≤ ((s.ats.val).length : Int) := by omega
         have lk3 : (k : Int) < ((s.ats.val).length : Int) + 1 := by omega
         have lk4 : k < (s.ats.val).length + 1 := by omega
         obtain ⟨nk, tk, wk⟩ := pred_K k2 (by omega)
         by_cases hle : x.id ≤ z.id
         ·as_aux_lemma =>
          have dle : decide (x.id ≤ z.id) = true := by simpa using hle
          clear HST
          go_wp2_with fail
          go_region_held3 (fun w' => w'.cell? ⟨w.heap.size, 3, none⟩ = some (.slice (some ⟨b, o, none⟩) s.ats.val.length s.ats.c) ∧ w'.cell? ⟨b, o + k * 3, none⟩ = some (.int .i64 x.id) ∧ w'.cell? ⟨b, o + k * 3 + 1, none⟩ = some (.int .i64 x.price) ∧ w'.cell? ⟨b, o + k * 3 + 2, none⟩ = some (.int .i64 x.hair) ∧ w'.cell? ⟨b, o + (k - 1) * 3, none⟩ = some (.int .i64 z.id)) (exact tK) (first | (go_at_call 51; (with_reducible refine cM (CX.out _ (by have h := HW.out; exact tB)) fun w1 hb1 fc1 fg1 hc1 hf1 hz1 => ?_); (try simp at hz1)) | fail)
          all_goals
           clear nk tk wk
           go_wp2_with fail
           go_ret
           exact ⟨_, rfl, (fun h => by cases h), by have h := HW.out; exact tB⟩
         ·as_aux_lemma =>
          have dle : decide (x.id ≤ z.id) = false := by simpa using hle
          have HS2 := hid (HST.out (by omega))
          clear HST
          go_wp2_with fail
          go_region_held3 (fun w' => w'.cell? ⟨w.heap.size, 3, none⟩ = some (.slice (some ⟨b, o, none⟩) s.ats.val.length s.ats.c) ∧ w'.cell? ⟨b, o + k * 3, none⟩ = some (.int .i64 x.id) ∧ w'.cell? ⟨b, o + k * 3 + 1, none⟩ = some (.int .i64 x.price) ∧ w'.cell? ⟨b, o + k * 3 + 2, none⟩ = some (.int .i64 x.hair) ∧ w'.cell? ⟨b, o + (k - 1) * 3, none⟩ = some (.int .i64 z.id)) (exact tK) (first | (go_at_call 51; (with_reducible refine cM (CX.out _ (by have h := HW.out; exact tB)) fun w1 hb1 fc1 fg1 hc1 hf1 hz1 => ?_); (try simp at hz1)) | fail)
          all_goals
           clear nk tk wk
           go_wp2_with fail
           go_roundw
           case rel => exact ⟨k + 1, by omega, by go_num, HS2.out, by have h := Hbl.out; exact tB⟩
           case measure => simp [intOf]; omega
      ·have dl : decide ((k : Int) < (s.ats.val.length : Int)) = false := by simpa using hlt
       have HT3 := hid (show AscK (fun x => decide (okA x)) (fun x => x.id) s.ats.val s.ats.val.length from (show k = s.ats.val.length by omega) ▸ HAS.out)
       have HB3 := Hbl
       have hz3 := hz
       go_wp2_with fail
       clear Hbl HW HAS hlt dl hk hz hgw y0 y1 y2 y3 y4 y5 y6 y7 y8 y9 y10 y11
       go_loopw [6] (fun i wr => ∃ k : Nat, k ≤ s.acs.val.length ∧ i = .int .i64 k ∧ AscK (fun x => okAV x && (findMb s.mem.val x.member).2) (fun x => x.id) s.acs.val k ∧ Below w1.heap.size w1 wr) (fun i _ => s.acs.val.length - (intOf i).toNat)
       case atStart => exact ⟨0, Nat.zero_le _, rfl, AscK.zero, HB3.out⟩
       case round =>
        obtain ⟨k, hk, rfl, has, hbl⟩ := hrel
        have HAS := hid has
        have Hbl := hid hbl
        have hz := hbl.size
        have HW := hid (HW1.out.trans (hbl.mono (by omega)))
        clear hbl has
        obtain ⟨y0, y1, y2, y3, y4, y5, y6, y7, y8, y9, y10, y11⟩ := st_keep HSB.out Hbl.out hgs
        have hgw : w.heap.size < wr.heap.size := by omega
        by_cases hlt : k < s.acs.val.length
        ·have kl : (k : Int) < (s.acs.val.length : Int) := by omega
         have dl : decide ((k : Int) < (s.acs.val.length : Int)) = true := by simpa using hlt
         obtain ⟨b, o, hA, hb, hc⟩ := HRC.out k (encAcctV s.acs.val[k]) (by simp [hlt])
         have e0 := tC HW hb (hc 0 _ rfl)
         have e1 := tC HW hb (hc 1 _ rfl)
         have e2 := tC HW hb (hc 2 _ rfl)
         have e3 := tC HW hb (hc 3 _ rfl)
         simp only [Nat.add_zero] at e0
         clear hc
         have hbw : b < wr.heap.size := by omega
         rw [hA] at y4
         have cf := CF.out s.acs.val[k].member
         have ca := CA.out s.acs.val[k] (List.getElem_mem hlt)
         have hst := (show (okAV s.acs.val[k] && (findMb s.mem.val s.acs.val[k].member).2) = true → (∀ (h0 : 0 < k), (s.acs.val[k - 1]'(by omega)).id < s.acs.val[k].id) → AscK (fun x => okAV x && (findMb s.mem.val x.member).2) (fun x => x.id) s.acs.val (k + 1) from fun h1 h2 => HAS.out.step hlt h1 h2)
         rcases Nat.eq_zero_or_pos k with k0 | k0
         ·have g0 : decide (0 < k) = false := by simp; omega
          have g1 : decide ((0 : Int) < (k : Int)) = false := by simp; omega
          have HST := hid (show (okAV s.acs.val[k] && (findMb s.mem.val s.acs.val[k].member).2) = true → AscK (fun x => okAV x && (findMb s.mem.val x.member).2) (fun x => x.id) s.acs.val (k + 1) from fun h => hst h (fun h0 => by omega))
          clear hst hA k0
          generalize s.acs.val[k] = x at *
          generalize findMb s.mem.val x.member = ff at *
          obtain ⟨m, fb⟩ := ff
          generalize okAV x = oa at *
          have CF1 := hid cf
          have CA1 := hid ca
          clear cf ca
          cases fb
          ·as_aux_lemma =>
           clear HST
           go_wp2_with fail
           go_region_held3 (fun w' => w'.cell? ⟨w.heap.size, 1, none⟩ = some (.slice s.mem.A s.mem.val.length s.mem.c) ∧ w'.cell? ⟨w.heap.size, 4, none⟩ = some (.slice (some ⟨b, o, none⟩) s.acs.val.length s.acs.c) ∧ w'.cell? ⟨b, o + k * 4, none⟩ = some (.int .i64 x.id) ∧ w'.cell? ⟨b, o + k * 4 + 1, none⟩ = some (.int .i64 x.member) ∧ w'.cell? ⟨b, o + k * 4 + 2, none⟩ = some (.int .i64 x.kind) ∧ w'.cell? ⟨b, o + k * 4 + 3, none⟩ = some (.slice x.clients.A x.clients.val.length x.clients.c)) (exact tK) (first | (go_at_call 40; (with_reducible refine cM (CF1.out _ (by have h := HW.out; exact tB)) fun w1 hb1 fc1 fg1 hc1 hf1 hz1 => ?_); (try simp at hz1)) | fail)
           all_goals
            go_wp2_with fail
            refine wp_region_held_drew (S := (fun w' => w'.cell? ⟨w.heap.size, 4, none⟩ = some (.slice (some ⟨b, o, none⟩) s.acs.val.length s.acs.c) ∧ w'.cell? ⟨b, o + k * 4, none⟩ = some (.int .i64 x.id) ∧ w'.cell? ⟨b, o + k * 4 + 1, none⟩ = some (.int .i64 x.member) ∧ w'.cell? ⟨b, o + k * 4 + 2, none⟩ = some (.int .i64 x.kind) ∧ w'.cell? ⟨b, o + k * 4 + 3, none⟩ = some (.slice x.clients.A x.clients.val.length x.clients.c))) (by kernel_rfl) ?_ (fun hHeld => ?_)
            ·(exact tK)
            refine tQ 0 ?_
            refine tS ?_
            refine tQ 1 ?_
            refine tS ?_
            refine tQ 2 ?_
            refine tS ?_
            refine tN 3 ?_
            refine tS ?_
            refine tN 4 ?_
            refine tS ?_
            refine tN 5 ?_
            refine tS ?_
            refine tN 6 ?_
            refine tS ?_
            refine tN 7 ?_
            refine tS ?_
            refine tN 8 ?_
            refine tS ?_
            refine tN 9 ?_
            refine tS ?_
            refine tQ 10 ?_
            refine tS ?_
            refine tQ 11 ?_
            refine tS ?_
            refine tN 12 ?_
            refine tS ?_
            refine tN 13 ?_
            refine tS ?_
            refine tN 14 ?_
            refine tS ?_
            refine tN 15 ?_
            refine tS ?_
            refine tN 16 ?_
            refine tS ?_
            refine tN 17 ?_
            refine tS ?_
            refine tN 18 ?_
            refine tS ?_
            refine tN 19 ?_
            refine tS ?_
            refine tN 20 ?_
            refine tS ?_
            refine tN 21 ?_
            refine tS ?_
            refine tN 22 ?_
            refine tS ?_
            refine tN 23 ?_
            refine tS ?_
            refine tN 24 ?_
            refine tS ?_
            refine tN 25 ?_
            refine tS ?_
            refine tN 26 ?_
            refine tS ?_
            refine tN 27 ?_
            refine tS ?_
            refine tN 28 ?_
            refine tS ?_
            refine tN 29 ?_
            refine tS ?_
            refine tQ 30 ?_
            refine tS ?_
            refine wpAnyH_done (by kernel_rfl) ?_ _
            go_wp2_with fail
            go_ret
            exact ⟨_, rfl, (fun h => by cases h), by have h := HW.out; exact tB⟩
          ·cases oa
           ·as_aux_lemma =>
            clear HST
            go_wp2_with fail
            go_region_held3 (fun w' => w'.cell? ⟨w.heap.size, 1, none⟩ = some (.slice s.mem.A s.mem.val.length s.mem.c) ∧ w'.cell? ⟨w.heap.size, 4, none⟩ = some (.slice (some ⟨b, o, none⟩) s.acs.val.length s.acs.c) ∧ w'.cell? ⟨b, o + k * 4, none⟩ = some (.int .i64 x.id) ∧ w'.cell? ⟨b, o + k * 4 + 1, none⟩ = some (.int .i64 x.member) ∧ w'.cell? ⟨b, o + k * 4 + 2, none⟩ = some (.int .i64 x.kind) ∧ w'.cell? ⟨b, o + k * 4 + 3, none⟩ = some (.slice x.clients.A x.clients.val.length x.clients.c)) (exact tK) (first | (go_at_call 40; (with_reducible refine cM (CF1.out _ (by have h := HW.out; exact tB)) fun w1 hb1 fc1 fg1 hc1 hf1 hz1 => ?_); (try simp at hz1)) | fail)
            all_goals
             go_wp2_with fail
             refine wp_region_held_drew (S := (fun w' => w'.cell? ⟨w.heap.size, 4, none⟩ = some (.slice (some ⟨b, o, none⟩) s.acs.val.length s.acs.c) ∧ w'.cell? ⟨b, o + k * 4, none⟩ = some (.int .i64 x.id) ∧ w'.cell? ⟨b, o + k * 4 + 1, none⟩ = some (.int .i64 x.member) ∧ w'.cell? ⟨b, o + k * 4 + 2, none⟩ = some (.int .i64 x.kind) ∧ w'.cell? ⟨b, o + k * 4 + 3, none⟩ = some (.slice x.clients.A x.clients.val.length x.clients.c))) (by kernel_rfl) ?_ (fun hHeld => ?_)
             ·(exact tK)
             refine tQ 0 ?_
             refine tS ?_
             refine tQ 1 ?_
             refine tS ?_
             refine tQ 2 ?_
             refine tS ?_
             refine tQ 3 ?_
             refine tS ?_
             refine tQ 4 ?_
             refine tS ?_
             refine tQ 5 ?_
             refine tS ?_
             refine tQ 6 ?_
             refine tS ?_
             refine tQ 7 ?_
             refine tS ?_
             refine tR (.cons (i := 8) rfl (fun K hK => ?_) .nil)
             refine tG ?_
             go_simp
             (go_at_call 52; (with_reducible refine cM (CA1.out _ (by have h := HW.out; exact tB)) fun w2 hb2 fc2 fg2 hc2 hf2 hz2 => ?_); (try simp at hz2))
             refine hK.out _ _ ?_ (fun hHeld => ?_)
             focus ((exact tK); done)
             refine tS ?_
             refine tQ 9 ?_
             refine tS ?_
             refine tQ 10 ?_
             refine tS ?_
             refine tQ 11 ?_
             refine tS ?_
             refine tN 12 ?_
             refine tS ?_
             refine tN 13 ?_
             refine tS ?_
             refine tN 14 ?_
             refine tS ?_
             refine tN 15 ?_
             refine tS ?_
             refine tN 16 ?_
             refine tS ?_
             refine tN 17 ?_
             refine tS ?_
             refine tN 18 ?_
             refine tS ?_
             refine tN 19 ?_
             refine tS ?_
             refine tN 20 ?_
             refine tS ?_
             refine tN 21 ?_
             refine tS ?_
             refine tN 22 ?_
             refine tS ?_
             refine tN 23 ?_
             refine tS ?_
             refine tN 24 ?_
             refine tS ?_
             refine tN 25 ?_
             refine tS ?_
             refine tN 26 ?_
             refine tS ?_
             refine tN 27 ?_
             refine tS ?_
             refine tN 28 ?_
             refine tS ?_
             refine tN 29 ?_
             refine tS ?_
             refine tQ 30 ?_
             refine tS ?_
             refine wpAnyH_done (by kernel_rfl) ?_ _
             go_wp2_with fail
             go_ret
             exact ⟨_, rfl, (fun h => by cases h), by have h := HW.out; exact tB⟩
           ·as_aux_lemma =>
            have HS2 := hid (HST.out rfl)
            clear HST
            go_wp2_with fail
            go_region_held3 (fun w' => w'.cell? ⟨w.heap.size, 1, none⟩ = some (.slice s.mem.A s.mem.val.length s.mem.c) ∧ w'.cell? ⟨w.heap.size, 4, none⟩ = some (.slice (some ⟨b, o, none⟩) s.acs.val.length s.acs.c) ∧ w'.cell? ⟨b, o + k * 4, none⟩ = some (.int .i64 x.id) ∧ w'.cell? ⟨b, o + k * 4 + 1, none⟩ = some (.int .i64 x.member) ∧ w'.cell? ⟨b, o + k * 4 + 2, none⟩ = some (.int .i64 x.kind) ∧ w'.cell? ⟨b, o + k * 4 + 3, none⟩ = some (.slice x.clients.A x.clients.val.length x.clients.c)) (exact tK) (first | (go_at_call 40; (with_reducible refine cM (CF1.out _ (by have h := HW.out; exact tB)) fun w1 hb1 fc1 fg1 hc1 hf1 hz1 => ?_); (try simp at hz1)) | fail)
            all_goals
             go_wp2_with fail
             refine wp_region_held_drew (S := (fun w' => w'.cell? ⟨w.heap.size, 4, none⟩ = some (.slice (some ⟨b, o, none⟩) s.acs.val.length s.acs.c) ∧ w'.cell? ⟨b, o + k * 4, none⟩ = some (.int .i64 x.id) ∧ w'.cell? ⟨b, o + k * 4 + 1, none⟩ = some (.int .i64 x.member) ∧ w'.cell? ⟨b, o + k * 4 + 2, none⟩ = some (.int .i64 x.kind) ∧ w'.cell? ⟨b, o + k * 4 + 3, none⟩ = some (.slice x.clients.A x.clients.val.length x.clients.c))) (by kernel_rfl) ?_ (fun hHeld => ?_)
             ·(exact tK)
             refine tQ 0 ?_
             refine tS ?_
             refine tQ 1 ?_
             refine tS ?_
             refine tQ 2 ?_
             refine tS ?_
             refine tQ 3 ?_
             refine tS ?_
             refine tQ 4 ?_
             refine tS ?_
             refine tQ 5 ?_
             refine tS ?_
             refine tQ 6 ?_
             refine tS ?_
             refine tQ 7 ?_
             refine tS ?_
             refine tR (.cons (i := 8) rfl (fun K hK => ?_) .nil)
             refine tG ?_
             go_simp
             (go_at_call 52; (with_reducible refine cM (CA1.out _ (by have h := HW.out; exact tB)) fun w2 hb2 fc2 fg2 hc2 hf2 hz2 => ?_); (try simp at hz2))
             refine hK.out _ _ ?_ (fun hHeld => ?_)
             focus ((exact tK); done)
             refine tS ?_
             refine tQ 9 ?_
             refine tS ?_
             refine tQ 10 ?_
             refine tS ?_
             refine tQ 11 ?_
             refine tS ?_
             refine tQ 12 ?_
             refine tS ?_
             refine tQ 13 ?_
             refine tS ?_
             refine tQ 14 ?_
             refine tS ?_
             refine tN 15 ?_
             refine tS ?_
             refine tN 16 ?_
             refine tS ?_
             refine tN 17 ?_
             refine tS ?_
             refine tN 18 ?_
             refine tS ?_
             refine tN 19 ?_
             refine tS ?_
             refine tN 20 ?_
             refine tS ?_
             refine tN 21 ?_
             refine tS ?_
             refine tN 22 ?_
             refine tS ?_
             refine tN 23 ?_
             refine tS ?_
             refine tN 24 ?_
             refine tS ?_
             refine tN 25 ?_
             refine tS ?_
             refine tN 26 ?_
             refine tS ?_
             refine tN 27 ?_
             refine tS ?_
             refine tN 28 ?_
             refine tS ?_
             refine tQ 29 ?_
             refine tS ?_
             refine tQ 30 ?_
             refine tS ?_
             refine wpAnyH_done (by kernel_rfl) ?_ _
             go_wp2_with fail
             go_roundw
             case rel => exact ⟨k + 1, by omega, by go_num, HS2.out, by have h := Hbl.out; exact tB⟩
             case measure => simp [intOf]; omega
         ·have g0 : decide (0 < k) = true := by simpa using k0
          have g1 : decide ((0 : Int) < (k : Int)) = true := by simp; omega
          have HST := hid (show (okAV s.acs.val[k] && (findMb s.mem.val s.acs.val[k].member).2) = true → (s.acs.val[k - 1]'(by omega)).id < s.acs.val[k].id → AscK (fun x => okAV x && (findMb s.mem.val x.member).2) (fun x => x.id) s.acs.val (k + 1) from fun h h2 => hst h (fun h0 => h2))
          obtain ⟨b1, o1, hA1, hb1, hc1⟩ := HRC.out (k - 1) (encAcctV (s.acs.val[k - 1]'(by omega))) (by rw [List.getElem?_map, List.getElem?_eq_getElem (by omega)]; rfl)
          rw [hA] at hA1
          injection hA1 with hA1
          injection hA1 with q1 q2 _
          subst q1 q2
          have f0 := tC HW hb (hc1 0 _ rfl)
          simp only [Nat.add_zero] at f0
          clear hc1 hb1
          clear hst hA
          have hk1 : k - 1 < s.acs.val.length := by omega
          generalize s.acs.val[k - 1] = z at *
          generalize s.acs.val[k] = x at *
          generalize findMb s.mem.val x.member = ff at *
          obtain ⟨m, fb⟩ := ff
          generalize okAV x = oa at *
          have CF1 := hid cf
          have CA1 := hid ca
          clear cf ca
          cases fb
          ·as_aux_lemma =>
           clear HST
           go_wp2_with fail
           go_region_held3 (fun w' => w'.cell? ⟨w.heap.size, 1, none⟩ = some (.slice s.mem.A s.mem.val.length s.mem.c) ∧ w'.cell? ⟨w.heap.size, 4, none⟩ = some (.slice (some ⟨b, o, none⟩) s.acs.val.length s.acs.c) ∧ w'.cell? ⟨b, o + k * 4, none⟩ = some (.int .i64 x.id) ∧ w'.cell? ⟨b, o + k * 4 + 1, none⟩ = some (.int .i64 x.member) ∧ w'.cell? ⟨b, o + k * 4 + 2, none⟩ = some (.int .i64 x.kind) ∧ w'.cell? ⟨b, o + k * 4 + 3, none⟩ = some (.slice x.clients.A x.clients.val.length x.clients.c)) (exact tK) (first | (go_at_call 40; (with_reducible refine cM (CF1.out _ (by have h := HW.out; exact tB)) fun w1 hb1 fc1 fg1 hc1 hf1 hz1 => ?_); (try simp at hz1)) | fail)
           all_goals
            go_wp2_with fail
            refine wp_region_held_drew (S := (fun w' => w'.cell? ⟨w.heap.size, 4, none⟩ = some (.slice (some ⟨b, o, none⟩) s.acs.val.length s.acs.c) ∧ w'.cell? ⟨b, o + k * 4, none⟩ = some (.int .i64 x.id) ∧ w'.cell? ⟨b, o + k * 4 + 1, none⟩ = some (.int .i64 x.member) ∧ w'.cell? ⟨b, o + k * 4 + 2, none⟩ = some (.int .i64 x.kind) ∧ w'.cell? ⟨b, o + k * 4 + 3, none⟩ = some (.slice x.clients.A x.clients.val.length x.clients.c))) (by kernel_rfl) ?_ (fun hHeld => ?_)
            ·(exact tK)
            refine tQ 0 ?_
            refine tS ?_
            refine tQ 1 ?_
            refine tS ?_
            refine tQ 2 ?_
            refine tS ?_
            refine tN 3 ?_
            refine tS ?_
            refine tN 4 ?_
            refine tS ?_
            refine tN 5 ?_
            refine tS ?_
            refine tN 6 ?_
            refine tS ?_
            refine tN 7 ?_
            refine tS ?_
            refine tN 8 ?_
            refine tS ?_
            refine tN 9 ?_
            refine tS ?_
            refine tQ 10 ?_
            refine tS ?_
            refine tQ 11 ?_
            refine tS ?_
            refine tN 12 ?_
            refine tS ?_
            refine tN 13 ?_
            refine tS ?_
            refine tN 14 ?_
            refine tS ?_
            refine tN 15 ?_
            refine tS ?_
            refine tN 16 ?_
            refine tS ?_
            refine tN 17 ?_
            refine tS ?_
            refine tN 18 ?_
            refine tS ?_
            refine tN 19 ?_
            refine tS ?_
            refine tN 20 ?_
            refine tS ?_
            refine tN 21 ?_
            refine tS ?_
            refine tN 22 ?_
            refine tS ?_
            refine tN 23 ?_
            refine tS ?_
            refine tN 24 ?_
            refine tS ?_
            refine tN 25 ?_
            refine tS ?_
            refine tN 26 ?_
            refine tS ?_
            refine tN 27 ?_
            refine tS ?_
            refine tN 28 ?_
            refine tS ?_
            refine tN 29 ?_
            refine tS ?_
            refine tQ 30 ?_
            refine tS ?_
            refine wpAnyH_done (by kernel_rfl) ?_ _
            go_wp2_with fail
            go_ret
            exact ⟨_, rfl, (fun h => by cases h), by have h := HW.out; exact tB⟩
          ·cases oa
           ·as_aux_lemma =>
            clear HST
            go_wp2_with fail
            go_region_held3 (fun w' => w'.cell? ⟨w.heap.size, 1, none⟩ = some (.slice s.mem.A s.mem.val.length s.mem.c) ∧ w'.cell? ⟨w.heap.size, 4, none⟩ = some (.slice (some ⟨b, o, none⟩) s.acs.val.length s.acs.c) ∧ w'.cell? ⟨b, o + k * 4, none⟩ = some (.int .i64 x.id) ∧ w'.cell? ⟨b, o + k * 4 + 1, none⟩ = some (.int .i64 x.member) ∧ w'.cell? ⟨b, o + k * 4 + 2, none⟩ = some (.int .i64 x.kind) ∧ w'.cell? ⟨b, o + k * 4 + 3, none⟩ = some (.slice x.clients.A x.clients.val.length x.clients.c)) (exact tK) (first | (go_at_call 40; (with_reducible refine cM (CF1.out _ (by have h := HW.out; exact tB)) fun w1 hb1 fc1 fg1 hc1 hf1 hz1 => ?_); (try simp at hz1)) | fail)
            all_goals
             go_wp2_with fail
             refine wp_region_held_drew (S := (fun w' => w'.cell? ⟨w.heap.size, 4, none⟩ = some (.slice (some ⟨b, o, none⟩) s.acs.val.length s.acs.c) ∧ w'.cell? ⟨b, o + k * 4, none⟩ = some (.int .i64 x.id) ∧ w'.cell? ⟨b, o + k * 4 + 1, none⟩ = some (.int .i64 x.member) ∧ w'.cell? ⟨b, o + k * 4 + 2, none⟩ = some (.int .i64 x.kind) ∧ w'.cell? ⟨b, o + k * 4 + 3, none⟩ = some (.slice x.clients.A x.clients.val.length x.clients.c))) (by kernel_rfl) ?_ (fun hHeld => ?_)
             ·(exact tK)
             refine tQ 0 ?_
             refine tS ?_
             refine tQ 1 ?_
             refine tS ?_
             refine tQ 2 ?_
             refine tS ?_
             refine tQ 3 ?_
             refine tS ?_
             refine tQ 4 ?_
             refine tS ?_
             refine tQ 5 ?_
             refine tS ?_
             refine tQ 6 ?_
             refine tS ?_
             refine tQ 7 ?_
             refine tS ?_
             refine tR (.cons (i := 8) rfl (fun K hK => ?_) .nil)
             refine tG ?_
             go_simp
             (go_at_call 52; (with_reducible refine cM (CA1.out _ (by have h := HW.out; exact tB)) fun w2 hb2 fc2 fg2 hc2 hf2 hz2 => ?_); (try simp at hz2))
             refine hK.out _ _ ?_ (fun hHeld => ?_)
             focus ((exact tK); done)
             refine tS ?_
             refine tQ 9 ?_
             refine tS ?_
             refine tQ 10 ?_
             refine tS ?_
             refine tQ 11 ?_
             refine tS ?_
             refine tN 12 ?_
             refine tS ?_
             refine tN 13 ?_
             refine tS ?_
             refine tN 14 ?_
             refine tS ?_
             refine tN 15 ?_
             refine tS ?_
             refine tN 16 ?_
             refine tS ?_
             refine tN 17 ?_
             refine tS ?_
             refine tN 18 ?_
             refine tS ?_
             refine tN 19 ?_
             refine tS ?_
             refine tN 20 ?_
             refine tS ?_
             refine tN 21 ?_
             refine tS ?_
             refine tN 22 ?_
             refine tS ?_
             refine tN 23 ?_
             refine tS ?_
             refine tN 24 ?_
             refine tS ?_
             refine tN 25 ?_
             refine tS ?_
             refine tN 26 ?_
             refine tS ?_
             refine tN 27 ?_
             refine tS ?_
             refine tN 28 ?_
             refine tS ?_
             refine tN 29 ?_
             refine tS ?_
             refine tQ 30 ?_
             refine tS ?_
             refine wpAnyH_done (by kernel_rfl) ?_ _
             go_wp2_with fail
             go_ret
             exact ⟨_, rfl, (fun h => by cases h), by have h := HW.out; exact tB⟩
           ·have lk : (k : Int) - 1 < ((s.acs.val).length : Int) := by omega
            have k1 : (1 : Int) ≤ (k : Int) := by omega
            have k2 : 1 ≤ k := by omega
            have lk2 : (k : Int) ≤ ((s.acs.val).length : Int) := by omega
            have lk3 : (k : Int) < ((s.acs.val).length : Int) + 1 := by omega
            have lk4 : k < (s.acs.val).length + 1 := by omega
            obtain ⟨nk, tk, wk⟩ := pred_K k2 (by omega)
            by_cases hle : x.id ≤ z.id
            ·as_aux_lemma =>
             have dle : decide (x.id ≤ z.id) = true := by simpa using hle
             clear HST
             go_wp2_with fail
             go_region_held3 (fun w' => w'.cell? ⟨w.heap.size, 1, none⟩ = some (.slice s.mem.A s.mem.val.length s.mem.c) ∧ w'.cell? ⟨w.heap.size, 4, none⟩ = some (.slice (some ⟨b, o, none⟩) s.acs.val.length s.acs.c) ∧ w'.cell? ⟨b, o + k * 4, none⟩ = some (.int .i64 x.id) ∧ w'.cell? ⟨b, o + k * 4 + 1, none⟩ = some (.int .i64 x.member) ∧ w'.cell? ⟨b, o + k * 4 + 2, none⟩ = some (.int .i64 x.kind) ∧ w'.cell? ⟨b, o + k * 4 + 3, none⟩ = some (.slice x.clients.A x.clients.val.length x.clients.c)) (exact tK) (first | (go_at_call 40; (with_reducible refine cM (CF1.out _ (by have h := HW.out; exact tB)) fun w1 hb1 fc1 fg1 hc1 hf1 hz1 => ?_); (try simp at hz1)) | fail)
             all_goals
              go_wp2_with fail
              go_region_held3 (fun w' => w'.cell? ⟨w.heap.size, 4, none⟩ = some (.slice (some ⟨b, o, none⟩) s.acs.val.length s.acs.c) ∧ w'.cell? ⟨b, o + k * 4, none⟩ = some (.int .i64 x.id) ∧ w'.cell? ⟨b, o + k * 4 + 1, none⟩ = some (.int .i64 x.member) ∧ w'.cell? ⟨b, o + k * 4 + 2, none⟩ = some (.int .i64 x.kind) ∧ w'.cell? ⟨b, o + k * 4 + 3, none⟩ = some (.slice x.clients.A x.clients.val.length x.clients.c) ∧ w'.cell? ⟨b, o + (k - 1) * 4, none⟩ = some (.int .i64 z.id)) (exact tK) (first | (go_at_call 52; (with_reducible refine cM (CA1.out _ (by have h := HW.out; exact tB)) fun w2 hb2 fc2 fg2 hc2 hf2 hz2 => ?_); (try simp at hz2)) | fail)
              all_goals
               clear nk tk wk
               go_wp2_with fail
               go_ret
               exact ⟨_, rfl, (fun h => by cases h), by have h := HW.out; exact tB⟩
            ·as_aux_lemma =>
             have dle : decide (x.id ≤ z.id) = false := by simpa using hle
             have HS2 := hid (HST.out rfl (by omega))
             clear HST
             go_wp2_with fail
             go_region_held3 (fun w' => w'.cell? ⟨w.heap.size, 1, none⟩ = some (.slice s.mem.A s.mem.val.length s.mem.c) ∧ w'.cell? ⟨w.heap.size, 4, none⟩ = some (.slice (some ⟨b, o, none⟩) s.acs.val.length s.acs.c) ∧ w'.cell? ⟨b, o + k * 4, none⟩ = some (.int .i64 x.id) ∧ w'.cell? ⟨b, o + k * 4 + 1, none⟩ = some (.int .i64 x.member) ∧ w'.cell? ⟨b, o + k * 4 + 2, none⟩ = some (.int .i64 x.kind) ∧ w'.cell? ⟨b, o + k * 4 + 3, none⟩ = some (.slice x.clients.A x.clients.val.length x.clients.c)) (exact tK) (first | (go_at_call 40; (with_reducible refine cM (CF1.out _ (by have h := HW.out; exact tB)) fun w1 hb1 fc1 fg1 hc1 hf1 hz1 => ?_); (try simp at hz1)) | fail)
             all_goals
              go_wp2_with fail
              go_region_held3 (fun w' => w'.cell? ⟨w.heap.size, 4, none⟩ = some (.slice (some ⟨b, o, none⟩) s.acs.val.length s.acs.c) ∧ w'.cell? ⟨b, o + k * 4, none⟩ = some (.int .i64 x.id) ∧ w'.cell? ⟨b, o + k * 4 + 1, none⟩ = some (.int .i64 x.member) ∧ w'.cell? ⟨b, o + k * 4 + 2, none⟩ = some (.int .i64 x.kind) ∧ w'.cell? ⟨b, o + k * 4 + 3, none⟩ = some (.slice x.clients.A x.clients.val.length x.clients.c) ∧ w'.cell? ⟨b, o + (k - 1) * 4, none⟩ = some (.int .i64 z.id)) (exact tK) (first | (go_at_call 52; (with_reducible refine cM (CA1.out _ (by have h := HW.out; exact tB)) fun w2 hb2 fc2 fg2 hc2 hf2 hz2 => ?_); (try simp at hz2)) | fail)
              all_goals
               clear nk tk wk
               go_wp2_with fail
               go_roundw
               case rel => exact ⟨k + 1, by omega, by go_num, HS2.out, by have h := Hbl.out; exact tB⟩
               case measure => simp [intOf]; omega
        ·have dl : decide ((k : Int) < (s.acs.val.length : Int)) = false := by simpa using hlt
         have HT4 := hid (show AscK (fun x => okAV x && (findMb s.mem.val x.member).2) (fun x => x.id) s.acs.val s.acs.val.length from (show k = s.acs.val.length by omega) ▸ HAS.out)
         have HB4 := Hbl
         have hz4 := hz
         go_wp2_with fail
         clear Hbl HW HAS hlt dl hk hz hgw y0 y1 y2 y3 y4 y5 y6 y7 y8 y9 y10 y11
         go_loopw [9] (fun i wr => ∃ k : Nat, k ≤ s.cho.val.length ∧ i = .int .i64 k ∧ Below w1.heap.size w1 wr) (fun i _ => s.cho.val.length - (intOf i).toNat)
         case atStart => exact ⟨0, Nat.zero_le _, rfl, HB4.out⟩
         case round =>
          obtain ⟨k, hk, rfl, hbl⟩ := hrel
          have Hbl := hid hbl
          have hz := hbl.size
          have HW := hid (HW1.out.trans (hbl.mono (by omega)))
          clear hbl
          obtain ⟨y0, y1, y2, y3, y4, y5, y6, y7, y8, y9, y10, y11⟩ := st_keep HSB.out Hbl.out hgs
          have hgw : w.heap.size < wr.heap.size := by omega
          by_cases hlt : k < s.cho.val.length
          ·have kl : (k : Int) < (s.cho.val.length : Int) := by omega
           have dl : decide ((k : Int) < (s.cho.val.length : Int)) = true := by simpa using hlt
           obtain ⟨b, o, hA, hb, hc⟩ := HRH.out k (encChoice s.cho.val[k]) (by simp [hlt])
           have e0 := tC HW hb (hc 0 _ rfl)
           have e1 := tC HW hb (hc 1 _ rfl)
           have e2 := tC HW hb (hc 2 _ rfl)
           have e3 := tC HW hb (hc 3 _ rfl)
           simp only [Nat.add_zero] at e0
           clear hc
           have hbw : b < wr.heap.size := by omega
           have c1 := CH.out s.cho.val[k].frm
           have c2 := CH.out s.cho.val[k].too
           rw [hA] at y5 c1 c2
           clear hA
           generalize s.cho.val[k] = x at *
           generalize hasS s.acs.val x.frm = h1 at *
           generalize hasS s.acs.val x.too = h2 at *
           have C1 := hid c1
           have C2 := hid c2
           clear c1 c2
           cases h1
           ·as_aux_lemma =>
            go_wp2_with fail
            refine wp_region_held_drew (S := (fun w' => (w'.cell? ⟨w.heap.size, 0, none⟩ = some (.int .i64 s.day) ∧ w'.cell? ⟨w.heap.size, 1, none⟩ = some (.slice s.mem.A s.mem.val.length s.mem.c) ∧ w'.cell? ⟨w.heap.size, 2, none⟩ = some (.slice s.ins.A s.ins.val.length s.ins.c) ∧ w'.cell? ⟨w.heap.size, 3, none⟩ = some (.slice s.ats.A s.ats.val.length s.ats.c) ∧ w'.cell? ⟨w.heap.size, 4, none⟩ = some (.slice s.acs.A s.acs.val.length s.acs.c) ∧ w'.cell? ⟨w.heap.size, 5, none⟩ = some (.slice (some ⟨b, o, none⟩) s.cho.val.length s.cho.c) ∧ w'.cell? ⟨w.heap.size, 6, none⟩ = some (.slice s.grp.A s.grp.val.length s.grp.c) ∧ w'.cell? ⟨w.heap.size, 7, none⟩ = some (.slice s.giv.A s.giv.val.length s.giv.c) ∧ w'.cell? ⟨w.heap.size, 8, none⟩ = some (.slice s.bk.A s.bk.val.length s.bk.c) ∧ w'.cell? ⟨w.heap.size, 9, none⟩ = some (.slice s.sale.A s.sale.val.length s.sale.c) ∧ w'.cell? ⟨w.heap.size, 10, none⟩ = some (.slice s.pu.A s.pu.val.length s.pu.c) ∧ w'.cell? ⟨w.heap.size, 11, none⟩ = some (.slice s.ho.A s.ho.val.length s.ho.c)) ∧ w'.cell? ⟨b, o + k * 5, none⟩ = some (.int .i64 x.frm.acc) ∧ w'.cell? ⟨b, o + k * 5 + 1, none⟩ = some (.int .i64 x.frm.cli) ∧ w'.cell? ⟨b, o + k * 5 + 2, none⟩ = some (.int .i64 x.too.acc) ∧ w'.cell? ⟨b, o + k * 5 + 3, none⟩ = some (.int .i64 x.too.cli))) (by kernel_rfl) ?_ (fun hHeld => ?_)
            ·(exact tK)
            refine tQ 0 ?_
            refine tS ?_
            refine tQ 1 ?_
            refine tS ?_
            refine tQ 2 ?_
            refine tS ?_
            refine tQ 3 ?_
            refine tS ?_
            refine tQ 4 ?_
            refine tS ?_
            refine tQ 5 ?_
            refine tS ?_
            refine tQ 6 ?_
            refine tS ?_
            refine tR (.cons (i := 7) rfl (fun K hK => ?_) .nil)
            refine tG ?_
            go_simp
            (go_at_call 53; (with_reducible refine cM (C1.out _ (by have h := HW.out; exact tB)) fun w1 hb1 fc1 fg1 hc1 hf1 hz1 => ?_); (try simp at hz1))
            refine hK.out _ _ ?_ (fun hHeld => ?_)
            focus ((exact tK); done)
            refine tS ?_
            refine tQ 8 ?_
            refine tS ?_
            refine tQ 9 ?_
            refine tS ?_
            refine tN 10 ?_
            refine tS ?_
            refine tN 11 ?_
            refine tS ?_
            refine tN 12 ?_
            refine tS ?_
            refine tN 13 ?_
            refine tS ?_
            refine tN 14 ?_
            refine tS ?_
            refine tN 15 ?_
            refine tS ?_
            refine tN 16 ?_
            refine tS ?_
            refine tN 17 ?_
            refine tS ?_
            refine tN 18 ?_
            refine tS ?_
            refine tQ 19 ?_
            refine tS ?_
            refine wpAnyH_done (by kernel_rfl) ?_ _
            go_wp2_with fail
            go_ret
            exact ⟨_, rfl, (fun h => by cases h), by have h := HW.out; exact tB⟩
           ·cases h2
            ·as_aux_lemma =>
             go_wp2_with fail
             go_region_held3 (fun w' => (w'.cell? ⟨w.heap.size, 0, none⟩ = some (.int .i64 s.day) ∧ w'.cell? ⟨w.heap.size, 1, none⟩ = some (.slice s.mem.A s.mem.val.length s.mem.c) ∧ w'.cell? ⟨w.heap.size, 2, none⟩ = some (.slice s.ins.A s.ins.val.length s.ins.c) ∧ w'.cell? ⟨w.heap.size, 3, none⟩ = some (.slice s.ats.A s.ats.val.length s.ats.c) ∧ w'.cell? ⟨w.heap.size, 4, none⟩ = some (.slice s.acs.A s.acs.val.length s.acs.c) ∧ w'.cell? ⟨w.heap.size, 5, none⟩ = some (.slice (some ⟨b, o, none⟩) s.cho.val.length s.cho.c) ∧ w'.cell? ⟨w.heap.size, 6, none⟩ = some (.slice s.grp.A s.grp.val.length s.grp.c) ∧ w'.cell? ⟨w.heap.size, 7, none⟩ = some (.slice s.giv.A s.giv.val.length s.giv.c) ∧ w'.cell? ⟨w.heap.size, 8, none⟩ = some (.slice s.bk.A s.bk.val.length s.bk.c) ∧ w'.cell? ⟨w.heap.size, 9, none⟩ = some (.slice s.sale.A s.sale.val.length s.sale.c) ∧ w'.cell? ⟨w.heap.size, 10, none⟩ = some (.slice s.pu.A s.pu.val.length s.pu.c) ∧ w'.cell? ⟨w.heap.size, 11, none⟩ = some (.slice s.ho.A s.ho.val.length s.ho.c)) ∧ w'.cell? ⟨b, o + k * 5, none⟩ = some (.int .i64 x.frm.acc) ∧ w'.cell? ⟨b, o + k * 5 + 1, none⟩ = some (.int .i64 x.frm.cli) ∧ w'.cell? ⟨b, o + k * 5 + 2, none⟩ = some (.int .i64 x.too.acc) ∧ w'.cell? ⟨b, o + k * 5 + 3, none⟩ = some (.int .i64 x.too.cli)) (exact tK) (first | (go_at_call 53; (with_reducible refine cM (C1.out _ (by have h := HW.out; exact tB)) fun w1 hb1 fc1 fg1 hc1 hf1 hz1 => ?_); (try simp at hz1)) | (go_at_call 53; (with_reducible refine cM (C2.out _ (by have h := HW.out; exact tB)) fun w2 hb2 fc2 fg2 hc2 hf2 hz2 => ?_); (try simp at hz2)) | fail)
             all_goals
              go_wp2_with fail
              go_ret
              exact ⟨_, rfl, (fun h => by cases h), by have h := HW.out; exact tB⟩
            ·as_aux_lemma =>
             go_wp2_with fail
             go_region_held3 (fun w' => (w'.cell? ⟨w.heap.size, 0, none⟩ = some (.int .i64 s.day) ∧ w'.cell? ⟨w.heap.size, 1, none⟩ = some (.slice s.mem.A s.mem.val.length s.mem.c) ∧ w'.cell? ⟨w.heap.size, 2, none⟩ = some (.slice s.ins.A s.ins.val.length s.ins.c) ∧ w'.cell? ⟨w.heap.size, 3, none⟩ = some (.slice s.ats.A s.ats.val.length s.ats.c) ∧ w'.cell? ⟨w.heap.size, 4, none⟩ = some (.slice s.acs.A s.acs.val.length s.acs.c) ∧ w'.cell? ⟨w.heap.size, 5, none⟩ = some (.slice (some ⟨b, o, none⟩) s.cho.val.length s.cho.c) ∧ w'.cell? ⟨w.heap.size, 6, none⟩ = some (.slice s.grp.A s.grp.val.length s.grp.c) ∧ w'.cell? ⟨w.heap.size, 7, none⟩ = some (.slice s.giv.A s.giv.val.length s.giv.c) ∧ w'.cell? ⟨w.heap.size, 8, none⟩ = some (.slice s.bk.A s.bk.val.length s.bk.c) ∧ w'.cell? ⟨w.heap.size, 9, none⟩ = some (.slice s.sale.A s.sale.val.length s.sale.c) ∧ w'.cell? ⟨w.heap.size, 10, none⟩ = some (.slice s.pu.A s.pu.val.length s.pu.c) ∧ w'.cell? ⟨w.heap.size, 11, none⟩ = some (.slice s.ho.A s.ho.val.length s.ho.c)) ∧ w'.cell? ⟨b, o + k * 5, none⟩ = some (.int .i64 x.frm.acc) ∧ w'.cell? ⟨b, o + k * 5 + 1, none⟩ = some (.int .i64 x.frm.cli) ∧ w'.cell? ⟨b, o + k * 5 + 2, none⟩ = some (.int .i64 x.too.acc) ∧ w'.cell? ⟨b, o + k * 5 + 3, none⟩ = some (.int .i64 x.too.cli)) (exact tK) (first | (go_at_call 53; (with_reducible refine cM (C1.out _ (by have h := HW.out; exact tB)) fun w1 hb1 fc1 fg1 hc1 hf1 hz1 => ?_); (try simp at hz1)) | (go_at_call 53; (with_reducible refine cM (C2.out _ (by have h := HW.out; exact tB)) fun w2 hb2 fc2 fg2 hc2 hf2 hz2 => ?_); (try simp at hz2)) | fail)
             all_goals
              go_wp2_with fail
              go_roundw
              case rel => exact ⟨k + 1, by omega, by go_num, by have h := Hbl.out; exact tB⟩
              case measure => simp [intOf]; omega
          ·have dl : decide ((k : Int) < (s.cho.val.length : Int)) = false := by simpa using hlt
           go_wp2_with (first | (go_at_call 54; (with_reducible refine (C16.out _ (by have h := HW.out; exact tB)).mono ?_); rintro e w6 ⟨b6, rfl, hb6⟩; obtain ⟨fc6, fg6, hc6, hf6, hz6⟩ := bget hb6; (try simp at hz6)) | fail)
           go_ret
           exact ⟨_, rfl, (fun _ => ⟨HT1.out, HT3.out, HT4.out⟩), by have h := HW.out; exact tB⟩
end Go.Proofs.YtalgfpegaobacaaGreatDoor
