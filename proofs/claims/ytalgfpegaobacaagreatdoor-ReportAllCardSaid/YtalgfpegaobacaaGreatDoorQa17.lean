/- Joined. -/
import Derived.Test.YtalgfpegaobacaaGreatDoorQz24
import Derived.Test.YtalgfpegaobacaaGreatDoorQa16
namespace Go.Proofs.YtalgfpegaobacaaGreatDoor
set_option linter.all false
set_option maxHeartbeats 64000000
set_option maxRecDepth 100000
open Go.RowKit
open Lib (hid)
theorem put_memM {ob : Bool} {t : List Mb} {m x : Mb} (h : x ∈ putMbL ob t m) : x ∈ t ∨ x = m := by
 unfold putMbL at h
 split at h
 ·unfold insMb at h
  rcases List.mem_append.1 h with h | h
  ·exact .inl (List.takeWhile_prefix _ |>.subset h)
  ·rcases List.mem_cons.1 h with h | h
   ·exact .inr h
   ·exact .inl ((List.dropWhile_suffix _).subset h)
 ·simp at h
theorem tab_memM (okf : Mb → Bool) (l : List Mb) : ∀ k, ∀ x ∈ tabMbN okf l k, x ∈ l := by
 intro k
 induction k with
 | zero => intro x hx; simp [tabMbN] at hx
 | succ k ih =>
  intro x hx
  rcases Nat.lt_or_ge k l.length with h | h
  ·rw [tabMbN_succ h] at hx
   unfold stepMb at hx
   split at hx
   ·rcases put_memM hx with h1 | h1
    ·exact ih x h1
    ·rw [h1]; exact List.getElem_mem h
   ·exact ih x hx
  ·rw [show tabMbN okf l (k + 1) = tabMbN okf l k from by unfold tabMbN; rw [List.take_of_length_le (by omega), List.take_of_length_le h]] at hx
   exact ih x hx
theorem put_memA {ob : Bool} {t : List AcctV} {m x : AcctV} (h : x ∈ putAcctVL ob t m) : x ∈ t ∨ x = m := by
 unfold putAcctVL at h
 split at h
 ·unfold insAcctV at h
  rcases List.mem_append.1 h with h | h
  ·exact .inl (List.takeWhile_prefix _ |>.subset h)
  ·rcases List.mem_cons.1 h with h | h
   ·exact .inr h
   ·exact .inl ((List.dropWhile_suffix _).subset h)
 ·simp at h
theorem tab_memA (okf : AcctV → Bool) (l : List AcctV) : ∀ k, ∀ x ∈ tabAcctVN okf l k, x ∈ l := by
 intro k
 induction k with
 | zero => intro x hx; simp [tabAcctVN] at hx
 | succ k ih =>
  intro x hx
  rcases Nat.lt_or_ge k l.length with h | h
  ·rw [tabAcctVN_succ h] at hx
   unfold stepAcctV at hx
   split at hx
   ·rcases put_memA hx with h1 | h1
    ·exact ih x h1
    ·rw [h1]; exact List.getElem_mem h
   ·exact ih x hx
  ·rw [show tabAcctVN okf l (k + 1) = tabAcctVN okf l k from by unfold tabAcctVN; rw [List.take_of_length_le (by omega), List.take_of_length_le h]] at hx
   exact ih x hx
theorem few_tab {w0 w : World} {base : Nat} {t : StV} (h : FewSt w0 base w t) {A1 A2 A3 A4 : Option Addr} {c1 c2 c3 c4 : Nat} {LM : List Mb} {LI : List InstV} {LT : List Asset} {LC : List AcctV}
  (o1 : Own w base 49 4 (.slice A1 LM.length c1) (LM.map encMb)) (o2 : Own w base 58 5 (.slice A2 LI.length c2) (LI.map encInstV)) (o3 : Own w base 51 3 (.slice A3 LT.length c3) (LT.map encAsset)) (o4 : Own w base 54 4 (.slice A4 LC.length c4) (LC.map encAcctV))
  (e1 : LM = tabMbN (fun x => decide (okMbr x)) t.mem.val 10) (e2 : LI = insts10 t.ins.val) (e3 : LT = tabAssetN (fun x => decide (okA x)) t.ats.val 8) (e4 : LC = tabAcctVN okAV t.acs.val 20) :
  FewSt w0 base w ⟨t.day, ⟨A1, c1, LM⟩, ⟨A2, c2, LI⟩, ⟨A3, c3, LT⟩, ⟨A4, c4, LC⟩, t.cho, t.grp, t.giv, t.bk, t.sale, t.pu, t.ho⟩ :=
 { h with
  om := o1
  lm := by show LM.length ≤ 100; rw [e1]; exact Nat.le_trans (tabMbN_len _ _ _) (by omega)
  okm := fun m hm => h.okm m (tab_memM _ _ _ m (by rw [← e1]; exact hm))
  oi := o2
  li := by show LI.length ≤ 1000; rw [e2]; exact Nat.le_trans (insts_len _) (by omega)
  gi := fun x hx => by
   have hx : x ∈ LI := hx
   rw [e2] at hx
   have := insts_good (fun y hy => (h.gi y hy).2) x hx
   exact ⟨by omega, this.2⟩
  oa := o3
  la := by show LT.length ≤ 1000; rw [e3]; exact Nat.le_trans (tabAssetN_len _ _ _) (by omega)
  oc := o4
  lc := by show LC.length ≤ 60; rw [e4]; exact Nat.le_trans (tabAcctVN_len _ _ _) (by omega)
  gc := fun x hx => h.gc x (tab_memA _ _ _ x (by rw [← e4]; exact hx))
  okc := fun x hx => h.okc x (tab_memA _ _ _ x (by rw [← e4]; exact hx)) }
def fewU (gs : Nat) : Nat → Value
 | 12 => .pointer (some ⟨gs, 1, none⟩)
 | 14 => .pointer (some ⟨gs, 2, none⟩)
 | 16 => .pointer (some ⟨gs, 3, none⟩)
 | _ => .pointer (some ⟨gs, 4, none⟩)
def fewDeps : Nat → List Nat
 | 2 => [1]
 | 5 => [4]
 | 8 => [7]
 | 11 => [10]
 | _ => []
theorem law36few (s : StV) (w0 w : World) (hs : RawSt w0 s) (h0 : Below w0.heap.size w0 w) :
  Calls Tryz.prog 10 #[.agg #[.int .i64 (s).day, .slice (s).mem.A (s).mem.val.length (s).mem.c, .slice (s).ins.A (s).ins.val.length (s).ins.c, .slice (s).ats.A (s).ats.val.length (s).ats.c, .slice (s).acs.A (s).acs.val.length (s).acs.c, .slice (s).cho.A (s).cho.val.length (s).cho.c, .slice (s).grp.A (s).grp.val.length (s).grp.c, .slice (s).giv.A (s).giv.val.length (s).giv.c, .slice (s).bk.A (s).bk.val.length (s).bk.c, .slice (s).sale.A (s).sale.val.length (s).sale.c, .slice (s).pu.A (s).pu.val.length (s).pu.c, .slice (s).ho.A (s).ho.val.length (s).ho.c]] w fun e w' => ∃ t, e = .returned (.agg #[.int .i64 (t).day, .slice (t).mem.A (t).mem.val.length (t).mem.c, .slice (t).ins.A (t).ins.val.length (t).ins.c, .slice (t).ats.A (t).ats.val.length (t).ats.c, .slice (t).acs.A (t).acs.val.length (t).acs.c, .slice (t).cho.A (t).cho.val.length (t).cho.c, .slice (t).grp.A (t).grp.val.length (t).grp.c, .slice (t).giv.A (t).giv.val.length (t).giv.c, .slice (t).bk.A (t).bk.val.length (t).bk.c, .slice (t).sale.A (t).sale.val.length (t).sale.c, .slice (t).pu.A (t).pu.val.length (t).pu.c, .slice (t).ho.A (t).ho.val.length (t).ho.c]) ∧ FewSt w0 w.heap.size w' t ∧ (∀ a ∈ t.ats.val, okA a) ∧ SortedMb t.mem.val ∧ Below w.heap.size w w' := by
 have CF := hid (fun W (h : Below w.heap.size w W) => law33Few s w0 W hs (h0.trans (h.mono h0.size)))
 have H0 := hid h0
 have hz0 := h0.size
 clear hs h0
 go_enter Tryz.func10, Tryz.ntmps10
 go_wp2_with (first | (go_at_call 5; (with_reducible refine (CF.out _ tB).mono ?_); rintro e w1 ⟨t, rfl, hft, hb1⟩; have HFT := hid hft; clear hft; obtain ⟨fc1, fg1, hc1, hf1, hz1⟩ := bget hb1; (try simp at hz1)) | fail)
 have hft := HFT.out
 rw [show ((w.alloc (.cells #[.int .i64 (s).day, .slice (s).mem.A (s).mem.val.length (s).mem.c, .slice (s).ins.A (s).ins.val.length (s).ins.c, .slice (s).ats.A (s).ats.val.length (s).ats.c, .slice (s).acs.A (s).acs.val.length (s).acs.c, .slice (s).cho.A (s).cho.val.length (s).cho.c, .slice (s).grp.A (s).grp.val.length (s).grp.c, .slice (s).giv.A (s).giv.val.length (s).giv.c, .slice (s).bk.A (s).bk.val.length (s).bk.c, .slice (s).sale.A (s).sale.val.length (s).sale.c, .slice (s).pu.A (s).pu.val.length (s).pu.c, .slice (s).ho.A (s).ho.val.length (s).ho.c] 33)).alloc (.cells #[.int .i64 0, .slice none 0 0, .slice none 0 0, .slice none 0 0, .slice none 0 0, .slice none 0 0, .slice none 0 0, .slice none 0 0, .slice none 0 0, .slice none 0 0, .slice none 0 0, .slice none 0 0] 33)).heap.size = w.heap.size + 2 from by simp] at hft
 have hon := setL_only (g := w.heap.size) (#[.int .i64 (t).day, .slice (t).mem.A (t).mem.val.length (t).mem.c, .slice (t).ins.A (t).ins.val.length (t).ins.c, .slice (t).ats.A (t).ats.val.length (t).ats.c, .slice (t).acs.A (t).acs.val.length (t).acs.c, .slice (t).cho.A (t).cho.val.length (t).cho.c, .slice (t).grp.A (t).grp.val.length (t).grp.c, .slice (t).giv.A (t).giv.val.length (t).giv.c, .slice (t).bk.A (t).bk.val.length (t).bk.c, .slice (t).sale.A (t).sale.val.length (t).sale.c, .slice (t).pu.A (t).pu.val.length (t).pu.c, .slice (t).ho.A (t).ho.val.length (t).ho.c]).toList 0 (Only.refl _ w1)
 have hbk := setL_blk (g := w.heap.size) (t := 33) (#[.int .i64 (t).day, .slice (t).mem.A (t).mem.val.length (t).mem.c, .slice (t).ins.A (t).ins.val.length (t).ins.c, .slice (t).ats.A (t).ats.val.length (t).ats.c, .slice (t).acs.A (t).acs.val.length (t).acs.c, .slice (t).cho.A (t).cho.val.length (t).cho.c, .slice (t).grp.A (t).grp.val.length (t).grp.c, .slice (t).giv.A (t).giv.val.length (t).giv.c, .slice (t).bk.A (t).bk.val.length (t).bk.c, .slice (t).sale.A (t).sale.val.length (t).sale.c, .slice (t).pu.A (t).pu.val.length (t).pu.c, .slice (t).ho.A (t).ho.val.length (t).ho.c]).toList 0 (show Blk w1 w.heap.size 33 #[.int .i64 (s).day, .slice (s).mem.A (s).mem.val.length (s).mem.c, .slice (s).ins.A (s).ins.val.length (s).ins.c, .slice (s).ats.A (s).ats.val.length (s).ats.c, .slice (s).acs.A (s).acs.val.length (s).acs.c, .slice (s).cho.A (s).cho.val.length (s).cho.c, .slice (s).grp.A (s).grp.val.length (s).grp.c, .slice (s).giv.A (s).giv.val.length (s).giv.c, .slice (s).bk.A (s).bk.val.length (s).bk.c, .slice (s).sale.A (s).sale.val.length (s).sale.c, .slice (s).pu.A (s).pu.val.length (s).pu.c, .slice (s).ho.A (s).ho.val.length (s).ho.c] by exact tL) (by simp)
 have hst : setL w1 w.heap.size 0 (#[.int .i64 (t).day, .slice (t).mem.A (t).mem.val.length (t).mem.c, .slice (t).ins.A (t).ins.val.length (t).ins.c, .slice (t).ats.A (t).ats.val.length (t).ats.c, .slice (t).acs.A (t).acs.val.length (t).acs.c, .slice (t).cho.A (t).cho.val.length (t).cho.c, .slice (t).grp.A (t).grp.val.length (t).grp.c, .slice (t).giv.A (t).giv.val.length (t).giv.c, .slice (t).bk.A (t).bk.val.length (t).bk.c, .slice (t).sale.A (t).sale.val.length (t).sale.c, .slice (t).pu.A (t).pu.val.length (t).pu.c, .slice (t).ho.A (t).ho.val.length (t).ho.c]).toList = ((((((((((((w1.setCell ⟨w.heap.size, 0, none⟩ (.int .i64 t.day)).setCell ⟨w.heap.size, 1, none⟩ (.slice t.mem.A t.mem.val.length t.mem.c)).setCell ⟨w.heap.size, 2, none⟩ (.slice t.ins.A t.ins.val.length t.ins.c)).setCell ⟨w.heap.size, 3, none⟩ (.slice t.ats.A t.ats.val.length t.ats.c)).setCell ⟨w.heap.size, 4, none⟩ (.slice t.acs.A t.acs.val.length t.acs.c)).setCell ⟨w.heap.size, 5, none⟩ (.slice t.cho.A t.cho.val.length t.cho.c)).setCell ⟨w.heap.size, 6, none⟩ (.slice t.grp.A t.grp.val.length t.grp.c)).setCell ⟨w.heap.size, 7, none⟩ (.slice t.giv.A t.giv.val.length t.giv.c)).setCell ⟨w.heap.size, 8, none⟩ (.slice t.bk.A t.bk.val.length t.bk.c)).setCell ⟨w.heap.size, 9, none⟩ (.slice t.sale.A t.sale.val.length t.sale.c)).setCell ⟨w.heap.size, 10, none⟩ (.slice t.pu.A t.pu.val.length t.pu.c)).setCell ⟨w.heap.size, 11, none⟩ (.slice t.ho.A t.ho.val.length t.ho.c)) := rfl
 rw [hst] at hon hbk
 rw [List.take_zero, List.nil_append] at hbk
 have hb2 := (show Blk w1 (w.heap.size + 1) 33 #[.int .i64 0, .slice none 0 0, .slice none 0 0, .slice none 0 0, .slice none 0 0, .slice none 0 0, .slice none 0 0, .slice none 0 0, .slice none 0 0, .slice none 0 0, .slice none 0 0, .slice none 0 0] by exact tL)
 have hb2x : Blk ((((((((((((w1.setCell ⟨w.heap.size, 0, none⟩ (.int .i64 t.day)).setCell ⟨w.heap.size, 1, none⟩ (.slice t.mem.A t.mem.val.length t.mem.c)).setCell ⟨w.heap.size, 2, none⟩ (.slice t.ins.A t.ins.val.length t.ins.c)).setCell ⟨w.heap.size, 3, none⟩ (.slice t.ats.A t.ats.val.length t.ats.c)).setCell ⟨w.heap.size, 4, none⟩ (.slice t.acs.A t.acs.val.length t.acs.c)).setCell ⟨w.heap.size, 5, none⟩ (.slice t.cho.A t.cho.val.length t.cho.c)).setCell ⟨w.heap.size, 6, none⟩ (.slice t.grp.A t.grp.val.length t.grp.c)).setCell ⟨w.heap.size, 7, none⟩ (.slice t.giv.A t.giv.val.length t.giv.c)).setCell ⟨w.heap.size, 8, none⟩ (.slice t.bk.A t.bk.val.length t.bk.c)).setCell ⟨w.heap.size, 9, none⟩ (.slice t.sale.A t.sale.val.length t.sale.c)).setCell ⟨w.heap.size, 10, none⟩ (.slice t.pu.A t.pu.val.length t.pu.c)).setCell ⟨w.heap.size, 11, none⟩ (.slice t.ho.A t.ho.val.length t.ho.c)) (w.heap.size + 1) 33 #[.int .i64 0, .slice none 0 0, .slice none 0 0, .slice none 0 0, .slice none 0 0, .slice none 0 0, .slice none 0 0, .slice none 0 0, .slice none 0 0, .slice none 0 0, .slice none 0 0, .slice none 0 0] := (hon.block _ hb2.lt (by omega)).trans hb2
 have hw1 := (show Below w.heap.size w w1 by exact tB)
 have HBX := hid (below_only hw1 hon (by omega) (Nat.le_refl _))
 have hlate := late_only hon (base := w.heap.size + 2) (by omega)
 have HFX := hid (hft.late hlate)
 have HLX := hid (hft.led (H0.out.trans (HBX.out.mono hz0)) hlate)
 have y0 := (hbk).cell 0; have y1 := (hbk).cell 1; have y2 := (hbk).cell 2; have y3 := (hbk).cell 3; have y4 := (hbk).cell 4; have y5 := (hbk).cell 5; have y6 := (hbk).cell 6; have y7 := (hbk).cell 7; have y8 := (hbk).cell 8; have y9 := (hbk).cell 9; have y10 := (hbk).cell 10; have y11 := (hbk).cell 11; (simp only [List.getElem?_toArray, List.getElem?_cons_zero, List.getElem?_cons_succ] at y0 y1 y2 y3 y4 y5 y6 y7 y8 y9 y10 y11)
 have hzx := HBX.out.size
 have hlx := hb2x.lt
 have HBK := hid hbk
 have HB2 := hid hb2x
 clear hst hon hbk hb2 hb2x hw1 hc1 hf1 hb1 hz1 HFT hft hlate CF
 generalize ((((((((((((w1.setCell ⟨w.heap.size, 0, none⟩ (.int .i64 t.day)).setCell ⟨w.heap.size, 1, none⟩ (.slice t.mem.A t.mem.val.length t.mem.c)).setCell ⟨w.heap.size, 2, none⟩ (.slice t.ins.A t.ins.val.length t.ins.c)).setCell ⟨w.heap.size, 3, none⟩ (.slice t.ats.A t.ats.val.length t.ats.c)).setCell ⟨w.heap.size, 4, none⟩ (.slice t.acs.A t.acs.val.length t.acs.c)).setCell ⟨w.heap.size, 5, none⟩ (.slice t.cho.A t.cho.val.length t.cho.c)).setCell ⟨w.heap.size, 6, none⟩ (.slice t.grp.A t.grp.val.length t.grp.c)).setCell ⟨w.heap.size, 7, none⟩ (.slice t.giv.A t.giv.val.length t.giv.c)).setCell ⟨w.heap.size, 8, none⟩ (.slice t.bk.A t.bk.val.length t.bk.c)).setCell ⟨w.heap.size, 9, none⟩ (.slice t.sale.A t.sale.val.length t.sale.c)).setCell ⟨w.heap.size, 10, none⟩ (.slice t.pu.A t.pu.val.length t.pu.c)).setCell ⟨w.heap.size, 11, none⟩ (.slice t.ho.A t.ho.val.length t.ho.c)) = wx at *
 obtain ⟨LM, hLM⟩ : ∃ L, L = tabMbN (fun x => decide (okMbr x)) t.mem.val 10 := ⟨_, rfl⟩
 obtain ⟨LI, hLI⟩ : ∃ L, L = insts10 t.ins.val := ⟨_, rfl⟩
 obtain ⟨LT, hLT⟩ : ∃ L, L = tabAssetN (fun x => decide (okA x)) t.ats.val 8 := ⟨_, rfl⟩
 obtain ⟨LC, hLC⟩ : ∃ L, L = tabAcctVN okAV t.acs.val 20 := ⟨_, rfl⟩
 have c1 := fun W (h : Below wx.heap.size wx W) => ref14Table (fun x => decide (okMbr x)) t.mem.val t.mem.A t.mem.c W (by have := HLX.out.lm; unfold maxLen; omega) (HLX.out.rm.keep h) (fun x _ W _ => ref14Is x W)
 have c2 := fun W (h : Below wx.heap.size wx W) => law20Insts t.ins.val t.ins.A t.ins.c W (by have h1 : t.ins.val.length ≤ 1000 := HLX.out.side.li; unfold maxLen; omega) (HLX.out.side.ri.keep h) (fun x hx => (HLX.out.side.gi x hx).2.keep h)
 have c3 := fun W (h : Below wx.heap.size wx W) => ref12Table (fun x => decide (okA x)) t.ats.val t.ats.A t.ats.c W (by have h1 : t.ats.val.length ≤ 1000 := HLX.out.side.la; unfold maxLen; omega) (HLX.out.side.ra.keep h) (fun x _ W _ => ref12Is x W)
 have c4 := fun W (h : Below wx.heap.size wx W) => ref15Table okAV t.acs.val t.acs.A t.acs.c W (by have := HLX.out.lc; unfold maxLen; omega) (HLX.out.rc.rd.keep h) (fun x hx W' h' => ref15IsV x W' (by have := (HLX.out.gc x hx).1; omega) ((HLX.out.gc x hx).2.keep (h.trans (h'.mono h.size))))
 rw [← hLM] at c1
 rw [← hLI] at c2
 rw [← hLT] at c3
 rw [← hLC] at c4
 have C1 := hid c1
 have C2 := hid c2
 have C3 := hid c3
 have C4 := hid c4
 have HLM := hid hLM
 have HLI := hid hLI
 have HLT := hid hLT
 have HLC := hid hLC
 clear c1 c2 c3 c4 hLM hLI hLT hLC
 refine wp_region_held_drew (S := fun _ => True) (by kernel_rfl) trivial (fun hHeld => ?_)
 refine tQ 0 ?_
 refine tS ?_
 refine tQ 3 ?_
 refine tS ?_
 refine tQ 6 ?_
 refine tS ?_
 refine tQ 9 ?_
 refine tS ?_
 refine wpAnyH_mergeU (k := 7) [(1, 6), (2, 7), (4, 9), (5, 10), (7, 12), (8, 13), (10, 15), (11, 16), (12, 17)] [12] (fewU w.heap.size) (FewR t w.heap.size wx.heap.size LM LI LT LC) fewDeps (by decide) (by decide) (by kernel_rfl) (by kernel_rfl) (by kernel_rfl) (by decide) (by kernel_rfl) (by kernel_rfl) (fun _ _ _ _ _ h => h) ?_ ?_ FewR.keep (fun _ _ _ _ => trivial) ?_ trivial ?_
 ·intro i hi f o ho
  simp only [List.mem_cons, List.not_mem_nil, or_false] at hi
  subst hi
  ·(simp only [List.getElem?_toArray, List.getElem?_cons_succ, List.getElem?_cons_zero, Option.some.injEq] at ho)
   subst ho
   (simp only [mkA, List.foldl_cons, List.foldl_nil, Act.put, List.setIfInBounds_toArray, List.set_cons_zero, List.set_cons_succ])
   refine Or.inl ⟨by rfl, ?_⟩
   intro wq hSw
   go_simp
   (try rfl)
 ·intro i hi wq
  simp only [List.mem_cons, List.not_mem_nil, or_false] at hi
  subst hi
  exact rfl
 ·intro p hp f wq hSw hbr hR o ho K' hK
  simp only [List.mem_cons, List.not_mem_nil, or_false] at hp
  rcases hp with rfl | rfl | rfl | rfl | rfl | rfl | rfl | rfl | rfl
  ·have hk0 := hK.out
   (simp only [mkA, List.foldl_cons, List.foldl_nil, Act.put, List.setIfInBounds_toArray, List.set_cons_zero, List.set_cons_succ] at hk0)
   have HKK := hid hk0
   clear hk0 hK
   (simp only [List.getElem?_toArray, List.getElem?_cons_succ, List.getElem?_cons_zero, Option.some.injEq] at ho)
   subst ho
   (simp only [mkA, List.foldl_cons, List.foldl_nil, Act.put, List.setIfInBounds_toArray, List.set_cons_zero, List.set_cons_succ])
   have hbq : Below wx.heap.size wx wq := Below.trans (Below.drew (Below.refl _ _)) (show Below wx.heap.size wx.drew wq from hbr)
   clear hR
   have y := (hbq.cell (p := ⟨w.heap.size, 1, none⟩) (by simp; omega)).trans y1
   clear y0 y1 y2 y3 y4 y5 y6 y7 y8 y9 y10 y11
   go_simp
   exact HKK.out _ _ rfl (Below.refl _ _)
  ·have hk0 := hK.out
   (simp only [mkA, List.foldl_cons, List.foldl_nil, Act.put, List.setIfInBounds_toArray, List.set_cons_zero, List.set_cons_succ] at hk0)
   have HKK := hid hk0
   clear hk0 hK
   (simp only [List.getElem?_toArray, List.getElem?_cons_succ, List.getElem?_cons_zero, Option.some.injEq] at ho)
   subst ho
   (simp only [mkA, List.foldl_cons, List.foldl_nil, Act.put, List.setIfInBounds_toArray, List.set_cons_zero, List.set_cons_succ])
   have hbq : Below wx.heap.size wx wq := Below.trans (Below.drew (Below.refl _ _)) (show Below wx.heap.size wx.drew wq from hbr)
   have e0 : f 1 = .slice t.mem.A t.mem.val.length t.mem.c := hR 1 (by decide)
   rw [e0]
   rw [e0] at HKK
   clear e0 hR y0 y1 y2 y3 y4 y5 y6 y7 y8 y9 y10 y11
   go_simp
   go_at_call 35
   with_reducible refine (C1.out _ hbq).mono ?_
   rintro e w9 ⟨v9, rfl, hown9, hb9⟩
   obtain ⟨A9, c9, hv9, _, _⟩ := hown9.rs
   rw [List.length_map] at hv9
   exact HKK.out _ _ ⟨A9, c9, hv9, hown9.mono hbq.size⟩ hb9
  ·have hk0 := hK.out
   (simp only [mkA, List.foldl_cons, List.foldl_nil, Act.put, List.setIfInBounds_toArray, List.set_cons_zero, List.set_cons_succ] at hk0)
   have HKK := hid hk0
   clear hk0 hK
   (simp only [List.getElem?_toArray, List.getElem?_cons_succ, List.getElem?_cons_zero, Option.some.injEq] at ho)
   subst ho
   (simp only [mkA, List.foldl_cons, List.foldl_nil, Act.put, List.setIfInBounds_toArray, List.set_cons_zero, List.set_cons_succ])
   have hbq : Below wx.heap.size wx wq := Below.trans (Below.drew (Below.refl _ _)) (show Below wx.heap.size wx.drew wq from hbr)
   clear hR
   have y := (hbq.cell (p := ⟨w.heap.size, 2, none⟩) (by simp; omega)).trans y2
   clear y0 y1 y2 y3 y4 y5 y6 y7 y8 y9 y10 y11
   go_simp
   exact HKK.out _ _ rfl (Below.refl _ _)
  ·have hk0 := hK.out
   (simp only [mkA, List.foldl_cons, List.foldl_nil, Act.put, List.setIfInBounds_toArray, List.set_cons_zero, List.set_cons_succ] at hk0)
   have HKK := hid hk0
   clear hk0 hK
   (simp only [List.getElem?_toArray, List.getElem?_cons_succ, List.getElem?_cons_zero, Option.some.injEq] at ho)
   subst ho
   (simp only [mkA, List.foldl_cons, List.foldl_nil, Act.put, List.setIfInBounds_toArray, List.set_cons_zero, List.set_cons_succ])
   have hbq : Below wx.heap.size wx wq := Below.trans (Below.drew (Below.refl _ _)) (show Below wx.heap.size wx.drew wq from hbr)
   have e0 : f 4 = .slice t.ins.A t.ins.val.length t.ins.c := hR 4 (by decide)
   rw [e0]
   rw [e0] at HKK
   clear e0 hR y0 y1 y2 y3 y4 y5 y6 y7 y8 y9 y10 y11
   go_simp
   go_at_call 36
   with_reducible refine (C2.out _ hbq).mono ?_
   rintro e w9 ⟨v9, rfl, hown9, hb9⟩
   obtain ⟨A9, c9, hv9, _, _⟩ := hown9.rs
   rw [List.length_map] at hv9
   exact HKK.out _ _ ⟨A9, c9, hv9, hown9.mono hbq.size⟩ hb9
  ·have hk0 := hK.out
   (simp only [mkA, List.foldl_cons, List.foldl_nil, Act.put, List.setIfInBounds_toArray, List.set_cons_zero, List.set_cons_succ] at hk0)
   have HKK := hid hk0
   clear hk0 hK
   (simp only [List.getElem?_toArray, List.getElem?_cons_succ, List.getElem?_cons_zero, Option.some.injEq] at ho)
   subst ho
   (simp only [mkA, List.foldl_cons, List.foldl_nil, Act.put, List.setIfInBounds_toArray, List.set_cons_zero, List.set_cons_succ])
   have hbq : Below wx.heap.size wx wq := Below.trans (Below.drew (Below.refl _ _)) (show Below wx.heap.size wx.drew wq from hbr)
   clear hR
   have y := (hbq.cell (p := ⟨w.heap.size, 3, none⟩) (by simp; omega)).trans y3
   clear y0 y1 y2 y3 y4 y5 y6 y7 y8 y9 y10 y11
   go_simp
   exact HKK.out _ _ rfl (Below.refl _ _)
  ·have hk0 := hK.out
   (simp only [mkA, List.foldl_cons, List.foldl_nil, Act.put, List.setIfInBounds_toArray, List.set_cons_zero, List.set_cons_succ] at hk0)
   have HKK := hid hk0
   clear hk0 hK
   (simp only [List.getElem?_toArray, List.getElem?_cons_succ, List.getElem?_cons_zero, Option.some.injEq] at ho)
   subst ho
   (simp only [mkA, List.foldl_cons, List.foldl_nil, Act.put, List.setIfInBounds_toArray, List.set_cons_zero, List.set_cons_succ])
   have hbq : Below wx.heap.size wx wq := Below.trans (Below.drew (Below.refl _ _)) (show Below wx.heap.size wx.drew wq from hbr)
   have e0 : f 7 = .slice t.ats.A t.ats.val.length t.ats.c := hR 7 (by decide)
   rw [e0]
   rw [e0] at HKK
   clear e0 hR y0 y1 y2 y3 y4 y5 y6 y7 y8 y9 y10 y11
   go_simp
   go_at_call 37
   with_reducible refine (C3.out _ hbq).mono ?_
   rintro e w9 ⟨v9, rfl, hown9, hb9⟩
   obtain ⟨A9, c9, hv9, _, _⟩ := hown9.rs
   rw [List.length_map] at hv9
   exact HKK.out _ _ ⟨A9, c9, hv9, hown9.mono hbq.size⟩ hb9
  ·have hk0 := hK.out
   (simp only [mkA, List.foldl_cons, List.foldl_nil, Act.put, List.setIfInBounds_toArray, List.set_cons_zero, List.set_cons_succ] at hk0)
   have HKK := hid hk0
   clear hk0 hK
   (simp only [List.getElem?_toArray, List.getElem?_cons_succ, List.getElem?_cons_zero, Option.some.injEq] at ho)
   subst ho
   (simp only [mkA, List.foldl_cons, List.foldl_nil, Act.put, List.setIfInBounds_toArray, List.set_cons_zero, List.set_cons_succ])
   have hbq : Below wx.heap.size wx wq := Below.trans (Below.drew (Below.refl _ _)) (show Below wx.heap.size wx.drew wq from hbr)
   clear hR
   have y := (hbq.cell (p := ⟨w.heap.size, 4, none⟩) (by simp; omega)).trans y4
   clear y0 y1 y2 y3 y4 y5 y6 y7 y8 y9 y10 y11
   go_simp
   exact HKK.out _ _ rfl (Below.refl _ _)
  ·have hk0 := hK.out
   (simp only [mkA, List.foldl_cons, List.foldl_nil, Act.put, List.setIfInBounds_toArray, List.set_cons_zero, List.set_cons_succ] at hk0)
   have HKK := hid hk0
   clear hk0 hK
   (simp only [List.getElem?_toArray, List.getElem?_cons_succ, List.getElem?_cons_zero, Option.some.injEq] at ho)
   subst ho
   (simp only [mkA, List.foldl_cons, List.foldl_nil, Act.put, List.setIfInBounds_toArray, List.set_cons_zero, List.set_cons_succ])
   have hbq : Below wx.heap.size wx wq := Below.trans (Below.drew (Below.refl _ _)) (show Below wx.heap.size wx.drew wq from hbr)
   have e0 : f 10 = .slice t.acs.A t.acs.val.length t.acs.c := hR 10 (by decide)
   rw [e0]
   rw [e0] at HKK
   clear e0 hR y0 y1 y2 y3 y4 y5 y6 y7 y8 y9 y10 y11
   go_simp
   go_at_call 38
   with_reducible refine (C4.out _ hbq).mono ?_
   rintro e w9 ⟨v9, rfl, hown9, hb9⟩
   obtain ⟨A9, c9, hv9, _, _⟩ := hown9.rs
   rw [List.length_map] at hv9
   exact HKK.out _ _ ⟨A9, c9, hv9, hown9.mono hbq.size⟩ hb9
  ·have hk0 := hK.out
   (simp only [mkA, List.foldl_cons, List.foldl_nil, Act.put, List.setIfInBounds_toArray, List.set_cons_zero, List.set_cons_succ] at hk0)
   have HKK := hid hk0
   clear hk0 hK
   (simp only [List.getElem?_toArray, List.getElem?_cons_succ, List.getElem?_cons_zero, Option.some.injEq] at ho)
   subst ho
   (simp only [mkA, List.foldl_cons, List.foldl_nil, Act.put, List.setIfInBounds_toArray, List.set_cons_zero, List.set_cons_succ])
   have hbq : Below wx.heap.size wx wq := Below.trans (Below.drew (Below.refl _ _)) (show Below wx.heap.size wx.drew wq from hbr)
   clear hR y0 y1 y2 y3 y4 y5 y6 y7 y8 y9 y10 y11
   go_simp
   exact HKK.out _ _ rfl (Below.refl _ _)
 ·intro f wq hSw hbr hR
  obtain ⟨A1, c1, e1, o1⟩ := hR (2, 7) (by decide)
  obtain ⟨A2, c2, e2, o2⟩ := hR (5, 10) (by decide)
  obtain ⟨A3, c3, e3, o3⟩ := hR (8, 13) (by decide)
  obtain ⟨A4, c4, e4, o4⟩ := hR (11, 16) (by decide)
  have q1 : f 1 = .slice t.mem.A t.mem.val.length t.mem.c := hR (1, 6) (by decide)
  have q4 : f 4 = .slice t.ins.A t.ins.val.length t.ins.c := hR (4, 9) (by decide)
  have q7 : f 7 = .slice t.ats.A t.ats.val.length t.ats.c := hR (7, 12) (by decide)
  have q10 : f 10 = .slice t.acs.A t.acs.val.length t.acs.c := hR (10, 15) (by decide)
  have q12 : f 12 = .pointer (some ⟨w.heap.size, 1, none⟩) := hR (12, 17) (by decide)
  have e1 : f 2 = .slice A1 LM.length c1 := e1
  have e2 : f 5 = .slice A2 LI.length c2 := e2
  have e3 : f 8 = .slice A3 LT.length c3 := e3
  have e4 : f 11 = .slice A4 LC.length c4 := e4
  have O1 : Own wq wx.heap.size 49 4 (f 2) (LM.map encMb) := o1
  have O2 : Own wq wx.heap.size 58 5 (f 5) (LI.map encInstV) := o2
  have O3 : Own wq wx.heap.size 51 3 (f 8) (LT.map encAsset) := o3
  have O4 : Own wq wx.heap.size 54 4 (f 11) (LC.map encAcctV) := o4
  rw [e1] at O1
  rw [e2] at O2
  rw [e3] at O3
  rw [e4] at O4
  have H1 := hid O1
  have H2 := hid O2
  have H3 := hid O3
  have H4 := hid O4
  (simp only [mkA, List.foldl_cons, List.foldl_nil, Act.put, List.setIfInBounds_toArray, List.set_cons_zero, List.set_cons_succ])
  rw [q1, q4, q7, q10, q12, e1, e2, e3, e4]
  have hbq : Below wx.heap.size wx wq := Below.trans (Below.drew (Below.refl _ _)) (show Below wx.heap.size wx.drew wq from hbr)
  have HBQ := hid hbq
  have hbkq := HBK.out.below hbq (by omega)
  have x1 := hbkq.cell 1
  have x2 := hbkq.cell 2
  have x3 := hbkq.cell 3
  have x4 := hbkq.cell 4
  (simp only [List.getElem?_toArray, List.getElem?_cons_zero, List.getElem?_cons_succ] at x1 x2 x3 x4)
  have z1 := hbkq.frozen 1
  have z2 := hbkq.frozen 2
  have z3 := hbkq.frozen 3
  have z4 := hbkq.frozen 4
  have HKQ := hid hbkq
  have hzq := hbq.size
  clear hbkq hbq hbr hR q1 q4 q7 q10 q12 e1 e2 e3 e4 o1 o2 o3 o4 O1 O2 O3 O4 y0 y1 y2 y3 y4 y5 y6 y7 y8 y9 y10 y11 C1 C2 C3 C4
  refine tR (.cons (i := 13) rfl (fun K hK => ?_) .nil)
  refine tG ?_
  go_simp
  skip
  refine hK.out _ _ ?_ (fun hHeld => ?_)
  focus ((exact tK); done)
  refine tS ?_
  refine tQ 14 ?_
  refine tS ?_
  refine tR (.cons (i := 15) rfl (fun K hK => ?_) .nil)
  refine tG ?_
  go_simp
  skip
  refine hK.out _ _ ?_ (fun hHeld => ?_)
  focus ((exact tK); done)
  refine tS ?_
  refine tQ 16 ?_
  refine tS ?_
  refine tR (.cons (i := 17) rfl (fun K hK => ?_) .nil)
  refine tG ?_
  go_simp
  skip
  refine hK.out _ _ ?_ (fun hHeld => ?_)
  focus ((exact tK); done)
  refine tS ?_
  refine tQ 18 ?_
  refine tS ?_
  refine tR (.cons (i := 19) rfl (fun K hK => ?_) .nil)
  refine tG ?_
  go_simp
  skip
  refine hK.out _ _ ?_ (fun hHeld => ?_)
  focus ((exact tK); done)
  refine tS ?_
  refine wpAnyH_done (by kernel_rfl) ?_ _
  obtain ⟨wz, hwz⟩ : ∃ wz, wz = (((wq.setCell ⟨w.heap.size, 1, none⟩ (.slice A1 LM.length c1)).setCell ⟨w.heap.size, 2, none⟩ (.slice A2 LI.length c2)).setCell ⟨w.heap.size, 3, none⟩ (.slice A3 LT.length c3)).setCell ⟨w.heap.size, 4, none⟩ (.slice A4 LC.length c4) := ⟨_, rfl⟩
  have hbz := ((((HKQ.out.set 1 (.slice A1 LM.length c1)).set 2 (.slice A2 LI.length c2)).set 3 (.slice A3 LT.length c3)).set 4 (.slice A4 LC.length c4))
  simp only [List.setIfInBounds_toArray, List.set_cons_zero, List.set_cons_succ] at hbz
  have honz := ((((Only.refl w.heap.size wq).set (p := ⟨w.heap.size, 1, none⟩) (.inl rfl) (.slice A1 LM.length c1)).set (p := ⟨w.heap.size, 2, none⟩) (.inl rfl) (.slice A2 LI.length c2)).set (p := ⟨w.heap.size, 3, none⟩) (.inl rfl) (.slice A3 LT.length c3)).set (p := ⟨w.heap.size, 4, none⟩) (.inl rfl) (.slice A4 LC.length c4)
  rw [← hwz] at hbz honz
  have hb2q : Blk wq (w.heap.size + 1) 33 #[.int .i64 0, .slice none 0 0, .slice none 0 0, .slice none 0 0, .slice none 0 0, .slice none 0 0, .slice none 0 0, .slice none 0 0, .slice none 0 0, .slice none 0 0, .slice none 0 0, .slice none 0 0] := HB2.out.below HBQ.out (by omega)
  have hb2z : Blk wz (w.heap.size + 1) 33 #[.int .i64 0, .slice none 0 0, .slice none 0 0, .slice none 0 0, .slice none 0 0, .slice none 0 0, .slice none 0 0, .slice none 0 0, .slice none 0 0, .slice none 0 0, .slice none 0 0, .slice none 0 0] := (honz.block _ hb2q.lt (by omega)).trans hb2q
  have HZ := hid honz
  have HBZ := hid hb2z
  have b0 := (hbz).cell 0; have b1 := (hbz).cell 1; have b2 := (hbz).cell 2; have b3 := (hbz).cell 3; have b4 := (hbz).cell 4; have b5 := (hbz).cell 5; have b6 := (hbz).cell 6; have b7 := (hbz).cell 7; have b8 := (hbz).cell 8; have b9 := (hbz).cell 9; have b10 := (hbz).cell 10; have b11 := (hbz).cell 11; (simp only [List.getElem?_toArray, List.getElem?_cons_zero, List.getElem?_cons_succ] at b0 b1 b2 b3 b4 b5 b6 b7 b8 b9 b10 b11)
  have r0 := (hb2z).cell 0; have r1 := (hb2z).cell 1; have r2 := (hb2z).cell 2; have r3 := (hb2z).cell 3; have r4 := (hb2z).cell 4; have r5 := (hb2z).cell 5; have r6 := (hb2z).cell 6; have r7 := (hb2z).cell 7; have r8 := (hb2z).cell 8; have r9 := (hb2z).cell 9; have r10 := (hb2z).cell 10; have r11 := (hb2z).cell 11; (simp only [List.getElem?_toArray, List.getElem?_cons_zero, List.getElem?_cons_succ] at r0 r1 r2 r3 r4 r5 r6 r7 r8 r9 r10 r11)
  have hfz := hb2z.frozen
  rw [← hwz]
  clear hwz hbz hb2q hb2z honz x1 x2 x3 x4 z1 z2 z3 z4 hHeld hSw
  go_wp2_with fail
  refine bodyPost_ret (v := .agg #[.int .i64 t.day, .slice A1 LM.length c1, .slice A2 LI.length c2, .slice A3 LT.length c3, .slice A4 LC.length c4, .slice t.cho.A t.cho.val.length t.cho.c, .slice t.grp.A t.grp.val.length t.grp.c, .slice t.giv.A t.giv.val.length t.giv.c, .slice t.bk.A t.bk.val.length t.bk.c, .slice t.sale.A t.sale.val.length t.sale.c, .slice t.pu.A t.pu.val.length t.pu.c, .slice t.ho.A t.ho.val.length t.ho.c]) (by simp [results, Tryz.results10, go_sem, r0, r1, r2, r3, r4, r5, r6, r7, r8, r9, r10, r11]; try rfl) rfl ⟨⟨t.day, ⟨A1, c1, LM⟩, ⟨A2, c2, LI⟩, ⟨A3, c3, LT⟩, ⟨A4, c4, LC⟩, t.cho, t.grp, t.giv, t.bk, t.sale, t.pu, t.ho⟩, rfl, ?_, ?_, ?_, ?_⟩
  ·have l1 : Late (w.heap.size + 2) wq wz := late_only HZ.out (by omega)
   refine few_tab (FewSt.mono (FewSt.late HFX.out ?_) (by omega)) ((H1.out.late (Late.trans l1 ?_) (by omega)).mono (by omega)) ((H2.out.late (Late.trans l1 ?_) (by omega)).mono (by omega)) ((H3.out.late (Late.trans l1 ?_) (by omega)).mono (by omega)) ((H4.out.late (Late.trans l1 ?_) (by omega)).mono (by omega)) HLM.out HLI.out HLT.out HLC.out
   ·refine (((Late.refl _ _).below HBQ.out).trans l1).trans ?_
    (repeat' (first | (with_reducible exact Late.refl _ _) | (with_reducible refine Late.set ?_ ?_ _) | (exact .inl (by simp)) | (exact .inl (by simp; omega))))
   all_goals (repeat' (first | (with_reducible exact Late.refl _ _) | (with_reducible refine Late.set ?_ ?_ _) | (exact .inl (by simp)) | (exact .inl (by simp; omega))))
  ·intro a ha
   have ha : a ∈ LT := ha
   rw [HLT.out] at ha
   exact tab_okAs _ _ a ha
  ·show SortedMb LM
   rw [HLM.out]
   exact sorted_tabMbN _ _ _
  ·have h1 := HBX.out
   have h2 := below_only (h1.trans (HBQ.out.mono hzx)) HZ.out (by omega) (Nat.le_refl _)
   exact tB
theorem dgs_dec : ∀ (f m : Nat), m < 10 ^ f → 0 < f → (dgs f m).reverse.map (fun b : Int => UInt8.ofNat b.toNat) = Lib.decDigits m
 | 0, _, _, h => absurd h (by omega)
 | f + 1, m, hm, _ => by
  rw [Lib.decDigits]
  simp only [dgs, List.reverse_cons, List.map_append, List.map_cons, List.map_nil]
  by_cases h : m < 10
  ·have h1 : m / 10 = 0 := by omega
   have h2 : m % 10 = m := by omega
   rw [if_pos h1, dif_pos h, h2]
   simp only [List.reverse_nil, List.map_nil, List.nil_append, Int.toNat_natCast]
  ·have h1 : ¬ m / 10 = 0 := by omega
   rw [if_neg h1, dif_neg h]
   rw [Nat.pow_succ] at hm
   have hf : 0 < f := by
    rcases Nat.eq_zero_or_pos f with h0 | h0
    ·subst h0; omega
    ·exact h0
   rw [dgs_dec f (m / 10) (Nat.div_lt_of_lt_mul (by omega)) hf]
   simp only [Int.toNat_natCast]
theorem text_itoa {n : Int} (h : In64 n) : textB n = ⟨(Lib.itoa n).toArray⟩ := by
 have hb : n.natAbs < 10 ^ 40 := by unfold In64 at h; omega
 have hd := dgs_dec 40 n.natAbs hb (by omega)
 unfold textB str back Lib.itoa
 congr 2
 by_cases hn : n < 0
 ·rw [if_pos hn, if_pos hn, List.reverse_append, List.map_append, hd]
  rfl
 ·rw [if_neg hn, if_neg hn, List.append_nil, hd]
  congr 1
  omega
theorem ref36Num (n : Int) (w : World) (hn : In64 n) :
  Calls Tryz.prog 42 #[.int .i64 n] w fun e w' => e = .returned (strV (Lib.itoa n)) ∧ Below w.heap.size w w' := by
 go_enter Tryz.func42, Tryz.ntmps42
 go_wp2_with (first | (go_at_call 80; (with_reducible refine (bigOf n _ hn).mono ?_); rintro e w1 ⟨s1, A1, l1, c1, rfl, hB1, hl1, hb1⟩; have HB1 := hid hB1; clear hB1; obtain ⟨fc1, fg1, hc1, hf1, hz1⟩ := bget hb1; (try simp at hz1)) | (go_at_call 79; (with_reducible refine cM (bigDigits n s1 l1 A1 c1 _ (by unfold In128; unfold In64 at hn; omega) (by omega) (HB1.out.keep tB)) fun w2 hb2 fc2 fg2 hc2 hf2 hz2 => ?_); (try simp at hz2)) | fail)
 go_ret
 exact ⟨by rw [text_itoa hn]; rfl, tB⟩
theorem ref36Maybe (n c : Int) (w : World) (hn : In64 n) :
  Calls Tryz.prog 44 #[.int .i64 n, .int .i64 c] w fun e w' => e = .returned (strV (maybeL n c)) ∧ Below w.heap.size w w' := by
 have CI := hid (fun W => ref36Num n W hn)
 by_cases h0 : c = 0
 ·subst h0
  rw [show maybeL n 0 = Lib.itoa n from rfl]
  generalize Lib.itoa n = J at *
  go_enter Tryz.func44, Tryz.ntmps44
  go_wp2_with (first | (go_at_call 42; (with_reducible refine cM (CI.out _) fun w1 hb1 fc1 fg1 hc1 hf1 hz1 => ?_); (try simp at hz1)) | fail)
  go_ret
  exact ⟨rfl, tB⟩
 ·rw [show maybeL n c = [110, 111, 110, 101] from if_neg h0]
  have n0 : (c != 0) = true := by simpa using h0
  clear CI
  go_enter Tryz.func44, Tryz.ntmps44
  go_wp2_with fail
  go_ret
  exact ⟨rfl, tB⟩
theorem ref36Place (u : Un) (w : World) (hu : In64 u.acc ∧ In64 u.cli) :
  Calls Tryz.prog 84 #[.agg #[.int .i64 u.acc, .int .i64 u.cli]] w fun e w' => e = .returned (strV (placeL u)) ∧ Below w.heap.size w w' := by
 have CA := hid (fun W => ref36Num u.acc W hu.1)
 have CB := hid (fun W => ref36Num u.cli W hu.2)
 have hJ := itoa_le hu.1
 have hK := itoa_le hu.2
 unfold placeL
 generalize Lib.itoa u.acc = J at *
 generalize Lib.itoa u.cli = K at *
 have q1 : ¬ 9223372036854775807 < J.length + 1 := by omega
 have q2 : ¬ 9223372036854775807 < J.length + 1 + K.length := by omega
 clear hu
 go_enter Tryz.func84, Tryz.ntmps84
 go_wp2_with fail
 go_region_held3 (fun w' => w'.cell? ⟨w.heap.size, 0, none⟩ = some (.int .i64 u.acc) ∧ w'.cell? ⟨w.heap.size, 1, none⟩ = some (.int .i64 u.cli)) (exact tK) (first | (go_at_call 42; (with_reducible refine cM (CA.out _) fun w1 hb1 fc1 fg1 hc1 hf1 hz1 => ?_); (try simp at hz1)) | (go_at_call 42; (with_reducible refine cM (CB.out _) fun w2 hb2 fc2 fg2 hc2 hf2 hz2 => ?_); (try simp at hz2)) | fail)
 all_goals
  go_wp2_with fail
  go_ret
  exact ⟨by
   rw [show (⟨#[46]⟩ : ByteArray) = ⟨([46] : Str).toArray⟩ from rfl, str_app, str_app, List.append_assoc]
   rfl, tB⟩
def wordL (l : List Str) (n first : Int) : Str := if n < first ∨ (l.length : Int) ≤ n - first then [63] else l.getD (n - first).toNat []
theorem ref36Word (l : List Str) (n f : Int) (A : Option Addr) (c : Nat) (w : World) (hn : In64 n) (hf : 0 ≤ f ∧ f ≤ 1) (hl : l.length ≤ 10) (hr : Rd w A 1 (l.map encStr)) :
  Calls Tryz.prog 43 #[.slice A l.length c, .int .i64 n, .int .i64 f] w fun e w' => e = .returned (strV (wordL l n f)) ∧ Below w.heap.size w w' := by
 have HR := hid hr
 clear hr
 by_cases h1 : n < f
 ·have d1 : decide (n < f) = true := by simpa using h1
  have HW := hid (show wordL l n f = [63] from if_pos (.inl h1))
  go_enter Tryz.func43, Tryz.ntmps43
  go_wp2_with fail
  go_ret
  exact ⟨by rw [HW.out]; rfl, tB⟩
 have d1 : decide (n < f) = false := by simpa using h1
 have wr : IntKind.i64.wrap (n - f) = n - f := IntWalk.i64_in _ (by unfold In64 at hn; omega)
 by_cases h2 : (l.length : Int) ≤ n - f
 ·have d2 : decide ((l.length : Int) ≤ n - f) = true := by simpa using h2
  have HW := hid (show wordL l n f = [63] from if_pos (.inr h2))
  go_enter Tryz.func43, Tryz.ntmps43
  go_wp2_with fail
  go_ret
  exact ⟨by rw [HW.out]; rfl, tB⟩
 ·have d2 : decide ((l.length : Int) ≤ n - f) = false := by simpa using h2
  obtain ⟨k, hk⟩ : ∃ k : Nat, n - f = k := ⟨(n - f).toNat, by omega⟩
  have hkl : k < l.length := by omega
  have HW := hid (show wordL l n f = l[k] from by
   unfold wordL
   rw [if_neg (by omega), hk]
   simp [List.getD_eq_getElem?_getD, hkl])
  have kl : (k : Int) < (l.length : Int) := by omega
  obtain ⟨b, o, rfl, hb, hc⟩ := HR.out k (encStr l[k]) (by simp [hkl])
  have e0 := hc 0 _ rfl
  simp only [Nat.add_zero, Nat.mul_one] at e0
  rw [hk] at wr d2
  clear hc
  go_enter Tryz.func43, Tryz.ntmps43
  go_wp2_with fail
  all_goals (first | (exfalso; omega) | (go_ret; exact ⟨by rw [HW.out]; rfl, tB⟩) | fail)
theorem rowsStr (l : List Str) : ∀ r ∈ l.map encStr, r.length = 1 ∧ ∀ u ∈ r, u.oneCell' = true := by
 intro r hr
 obtain ⟨m, _, rfl⟩ := List.mem_map.1 hr
 exact ⟨rfl, by simp [encStr]; rfl⟩
theorem cat_eq {b : ByteArray} {l m : Str} (h : b = ⟨l.toArray⟩) : b ++ (⟨m.toArray⟩ : ByteArray) = ⟨(l ++ m).toArray⟩ := by rw [h, str_app]
theorem cat_legs (a b c d : Str) : (⟨a.toArray⟩ : ByteArray) ++ ⟨#[32]⟩ ++ ⟨b.toArray⟩ ++ ⟨#[32]⟩ ++ ⟨c.toArray⟩ ++ ⟨#[32]⟩ ++ ⟨d.toArray⟩ = ⟨(lnL [a, b, c, d]).toArray⟩ := by
 refine (cat_eq (cat_eq (m := [32]) (cat_eq (cat_eq (m := [32]) (cat_eq (cat_eq (l := a) (m := [32]) rfl)))))).trans ?_
 simp [lnL, Lib.join, List.intercalate]
theorem ref36Legs (word : Str) (u : Un) (l : List Leg) (A : Option Addr) (c : Nat) (w : World) (hw : word.length ≤ 43) (hu : In64 u.acc ∧ In64 u.cli) (hin : ∀ x ∈ l, In64 x.inst ∧ In64 x.qty) (hl : l.length ≤ 1000000) (hr : Rd w A 2 (l.map encLeg)) :
  Calls Tryz.prog 86 #[strV word, .agg #[.int .i64 u.acc, .int .i64 u.cli], .slice A l.length c] w fun e w' => ∃ v, e = .returned v ∧ Own w' w.heap.size 9 1 v ((legsL word u l).map encStr) ∧ Below w.heap.size w w' := by
 have CP := hid (fun W => ref36Place u W hu)
 have CN := hid (fun n W (hn : In64 n) => ref36Num n W hn)
 have HIN := hid hin
 have HR := hid hr
 have hp := place_le hu
 clear hr hin hu
 go_enter Tryz.func86, Tryz.ntmps86
 go_wp2_with fail
 go_loopw [7, 8] (fun v i wr => ∃ k : Nat, k ≤ l.length ∧ i = .int .i64 k ∧ Own wr (w.heap.size + 1) 9 1 v ((legsL word u (l.take k)).map encStr) ∧ Below w.heap.size w wr ∧ w.heap.size < wr.heap.size ∧ wr.cell? ⟨w.heap.size, 0, none⟩ = some (.int .i64 u.acc) ∧ wr.cell? ⟨w.heap.size, 1, none⟩ = some (.int .i64 u.cli)) (fun _ i _ => l.length - (intOf i).toNat)
 case atStart => exact ⟨0, Nat.zero_le _, rfl, Own.nil _ _ _ _, tB, by simp, by simp [go_sem], by simp [go_sem]⟩
 case round =>
  obtain ⟨k, hk, rfl, hown, hbl, hsz, g0, g1⟩ := hrel
  have Hown := hid hown
  have Hbl := hid hbl
  have hz := hbl.size
  clear hown hbl
  by_cases hlt : k < l.length
  ·have kl : (k : Int) < (l.length : Int) := by omega
   have dl := @dT k l.length hlt
   obtain ⟨b, o, rfl, hb, hc⟩ := HR.out k (encLeg l[k]) (by simp [hlt])
   have e0 := tC Hbl hb (hc 0 _ rfl)
   have e1 := tC Hbl hb (hc 1 _ rfl)
   simp only [Nat.add_zero] at e0
   clear hc
   have hbw : b < wr.heap.size := by omega
   have hink := HIN.out l[k] (List.getElem_mem hlt)
   have CN1 := hid (fun W => CN.out l[k].inst W hink.1)
   have CN2 := hid (fun W => CN.out l[k].qty W hink.2)
   have hj1 := itoa_le hink.1
   have hj2 := itoa_le hink.2
   have HM := hid (show (legsL word u (l.take (k + 1))).map encStr = (legsL word u (l.take k)).map encStr ++ [encStr (lnL (legW word u l[k]))] from by unfold legsL; rw [map_snoc hlt, List.map_append]; rfl)
   have HE0 := cat_legs word (placeL u) (Lib.itoa l[k].inst) (Lib.itoa l[k].qty)
   have hlen : ((legsL word u (l.take k)).map encStr).length ≤ 1000000 := by unfold legsL; simp; omega
   generalize hLe : lnL (legW word u l[k]) = L at HM
   rw [show lnL [word, placeL u, Lib.itoa l[k].inst, Lib.itoa l[k].qty] = L from hLe] at HE0
   generalize placeL u = J0 at *
   generalize Lib.itoa l[k].inst = J1 at *
   generalize Lib.itoa l[k].qty = J2 at *
   generalize (legsL word u (l.take k)).map encStr = R at *
   have HE := hid HE0
   have q1 : ¬ 9223372036854775807 < word.length + 1 := by omega
   have q2 : ¬ 9223372036854775807 < word.length + 1 + J0.length := by omega
   have q3 : ¬ 9223372036854775807 < word.length + 1 + J0.length + 1 := by omega
   have q4 : ¬ 9223372036854775807 < word.length + 1 + J0.length + 1 + J1.length := by omega
   have q5 : ¬ 9223372036854775807 < word.length + 1 + J0.length + 1 + J1.length + 1 := by omega
   have q6 : ¬ 9223372036854775807 < word.length + 1 + J0.length + 1 + J1.length + 1 + J2.length := by omega
   have k0 : (0 : Int) ≤ (k : Int) := by omega
   clear HE0 hLe
   go_wp2_with fail
   go_region_held3 (fun w' => (w'.cell? ⟨w.heap.size, 0, none⟩ = some (.int .i64 u.acc) ∧ w'.cell? ⟨w.heap.size, 1, none⟩ = some (.int .i64 u.cli)) ∧ w'.cell? ⟨b, o + k * 2, none⟩ = some (.int .i64 l[k].inst) ∧ w'.cell? ⟨b, o + k * 2 + 1, none⟩ = some (.int .i64 l[k].qty)) (exact tK) (first | (go_at_call 84; (with_reducible refine cM (CP.out _) fun w1 hb1 fc1 fg1 hc1 hf1 hz1 => ?_); (try simp at hz1)) | (go_at_call 42; (with_reducible refine cM (CN1.out _) fun w2 hb2 fc2 fg2 hc2 hf2 hz2 => ?_); (try simp at hz2)) | (go_at_call 42; (with_reducible refine cM (CN2.out _) fun w3 hb3 fc3 fg3 hc3 hf3 hz3 => ?_); (try simp at hz3)) | (refine step_app rfl _ _ _ rfl elStr (w.heap.size + 1) _ _ rfl (Hown.out.keep tB) (some ⟨_, 0, none⟩) 1 1 rfl [encStr L] rfl (fun h => by cases h) (rd_strs (ws := [L]) (by simp) (congrArg (fun b => [Value.string b]) HE.out)) (rowsStr [L]) (by unfold maxLen; exact tE) tE tZ ?_; intro v4 w4 hown4 hb4; have HO4 := hid hown4; clear hown4; obtain ⟨fc4, fg4, hc4, hf4, hz4⟩ := bget hb4; (try simp at hz4)) | fail)
   all_goals
    go_wp2_with fail
    go_roundw
    case rel => exact ⟨k + 1, by omega, by go_num, by rw [HM.out]; exact HO4.out, by have h1 := Hbl.out; exact tB, by omega, by rename_i hh; exact hh.1.1, by rename_i hh; exact hh.1.2⟩
    case measure => simp [intOf]; omega
  ·have dl := @dF k l.length hlt
   have HT := hid (show l.take k = l from List.take_of_length_le (by omega))
   go_wp2_with (fail)
   go_ret
   have := Hown.out
   rw [HT.out] at this
   exact ⟨_, rfl, this.mono (by omega), Hbl.out⟩
end Go.Proofs.YtalgfpegaobacaaGreatDoor
