/- Joined. -/
import Derived.Test.YtalgfpegaobacaaGreatDoorQa4
import Derived.Test.YtalgfpegaobacaaGreatDoorQa9
import Derived.Laws.Concat
namespace Go.Proofs.YtalgfpegaobacaaGreatDoor
set_option linter.all false
set_option maxHeartbeats 8000000
set_option maxRecDepth 100000
open Go.RowKit
open Lib (hid)
def DivPost (w : World) (q r : Int) (L : Nat) (e : Ending) (w' : World) : Prop :=
 ∃ s A l c, e = .returned (.tuple #[.agg #[.bool s, .slice A l.length c], .int .u64 r]) ∧ IsBig w' q s A l c ∧ l.length ≤ L ∧ Below w.heap.size w w'
theorem divs_of {q d r m : Int} (h : q * d + r = m) (h0 : 0 ≤ r) (h1 : r < d) : m / d = q ∧ m % d = r := by
 have e : m / d = q := div_is (by omega) (by rw [Int.add_mul]; omega) (by omega)
 refine ⟨e, ?_⟩
 rw [Int.emod_def, e, Int.mul_comm]; omega
theorem bigDiv (a d : Int) (sa : Bool) (la : List Int) (A : Option Addr) (c L : Nat) (w : World) (hd : 0 < d) (hd1 : d ≤ 9223372036854775807) (hL : L ≤ 400000) (hla : la.length ≤ L) (ha : IsBig w a sa A la c) :
  Calls Tryz.prog 121 #[.agg #[.bool sa, .slice A la.length c], .int .u64 d] w (DivPost w (a / d) (a % d) (L + 65)) := by
 have HA := hid ha
 clear ha
 go_enter Tryz.func121, Tryz.ntmps121
 go_wp2_with fail
 go_loopw [6, 7, 8] (fun rv qv i wr => ∃ (k : Nat) (Q : List Int) (R : Int), k ≤ la.length ∧ i = .int .i64 k ∧ rv = .int .u64 R ∧ 0 ≤ R ∧ R < d ∧ Own wr (w.heap.size + 2) 5 1 qv (Q.map encB) ∧ Q.length + k ≤ la.length ∧ Bit Q ∧ val Q * d + R = val (la.drop k) ∧ Below (w.heap.size + 2) ((w.alloc (.cells #[.bool sa, .slice A la.length c] 141)).alloc (.cells #[.bool false, .slice none 0 0] 141)) wr) (fun _ _ i _ => (intOf i).toNat)
 case atStart => exact ⟨la.length, [], 0, Nat.le_refl _, rfl, rfl, by omega, hd, Own.nil _ _ _ _, by simp, bit_nil, by simp [val], Below.refl _ _⟩
 case round =>
  obtain ⟨k, Q, R, hk, rfl, rfl, R0, R1, hoQ, hlQ, hbQ, hvQ, hbl⟩ := hrel
  have hz := hbl.size
  simp at hz
  have a0 := (hbl.cell (p := ⟨w.heap.size, 0, none⟩) (by simp))
  have a1 := (hbl.cell (p := ⟨w.heap.size, 1, none⟩) (by simp))
  have r0 := (hbl.cell (p := ⟨w.heap.size + 1, 0, none⟩) (by simp))
  have r1 := (hbl.cell (p := ⟨w.heap.size + 1, 1, none⟩) (by simp))
  have f0 := (hbl.frozen (p := ⟨w.heap.size + 1, 0, none⟩) (by simp))
  have f1 := (hbl.frozen (p := ⟨w.heap.size + 1, 1, none⟩) (by simp))
  simp [go_sem] at a0 a1 r0 r1 f0 f1
  have hbw : Below w.heap.size w wr := by exact tB
  have Hbl := hid hbl
  have Hbw := hid hbw
  have HBQ := hid hbQ
  have HVQ := hid hvQ
  obtain ⟨AQ, cQ, rfl, hcQ, hmQ, hrQ, _⟩ := hoQ.shape
  have HRQ := hid hrQ
  have HCQ := hid hcQ
  have HOQ := hid hoQ
  rw [List.length_map] at HOQ ⊢
  rw [List.length_map] at HCQ
  clear hbl hbw hbQ hvQ hoQ hrQ hcQ
  by_cases h0 : k = 0
  ·subst h0
   have hdv := divs_of HVQ.out R0 R1
   rw [List.drop_zero, HA.out.val] at hdv
   have hs := HA.out.sgn
   have hq0 := val_nonneg HBQ.out
   cases sa
   ·have ha0 : 0 ≤ a := by simpa using hs
    rw [iabs_pos ha0] at hdv
    have HQ := hid (show val Q = iabs (a / d) from by rw [hdv.1, iabs_pos hq0])
    have HSN := hid (show (false && decide (0 < val Q)) = decide (a / d < 0) from by rw [hdv.1]; simp; exact hq0)
    have HMOD := hid hdv.2
    clear hdv hs hq0 ha0
    go_wp2_with (go_at_call 145; (with_reducible refine (bigTrim false Q AQ cQ _ (by omega) (HRQ.out.keep tB) HBQ.out HCQ.out hmQ).mono ?_); rintro e w2 ⟨l2, rfl, hk2, ht2, hv2, hb2⟩; generalize hsg : (false && decide (0 < val Q)) = sg; have HSG := hid hsg; clear hsg; have Hv2 := hid hv2; clear hv2; have Hk2 := hid hk2; clear hk2; obtain ⟨fc2, fg2, hc2, hf2, hz2⟩ := bget hb2; (try simp at hz2))
    have hB := trim_big ((HRQ.out.keep tB).keep hb2) HBQ.out Hk2.out ht2 Hv2.out HQ.out HCQ.out hmQ (HSG.out.symm.trans HSN.out)
    have hl2 := trim_len Hk2.out
    have k0 : (w2.alloc (.cells #[.bool sg, .slice AQ l2.length cQ] 141)).cell? ⟨w.heap.size + 1, 0, none⟩ = some (.bool false) := (by simp [go_sem, hc2, r0, ↓IntWalk.iteOmega])
    have k1 : (w2.alloc (.cells #[.bool sg, .slice AQ l2.length cQ] 141)).cell? ⟨w.heap.size + 1, 1, none⟩ = some (.slice none 0 0) := (by simp [go_sem, hc2, r1, ↓IntWalk.iteOmega])
    have hB2 := hB.keep ((Below.refl w2.heap.size w2).alloc (Nat.le_refl _) (.cells #[.bool sg, .slice AQ l2.length cQ] 141))
    refine bodyPost_ret (v := .tuple #[.agg #[.bool sg, .slice AQ l2.length cQ], .int .u64 R]) (by simp [results, Tryz.results121, go_sem, k0, k1]; try rfl) rfl ⟨_, AQ, l2, cQ, by rw [HMOD.out], (hB2.far k0 (by simp) _).far ((World.cell?_setCell_other _ _ _ _ (by simp)).trans k1) (by simp) _, by omega, ?_⟩
    (have hbw := Hbw.out; exact tB)
   ·have ha0 : a < 0 := by simpa using hs.symm
    rcases (show R = 0 ∨ 0 < R by omega) with hR | hR
    ·subst hR
     have hf := floor_neg0 (iabs_neg ha0) hd hdv.2
     rw [hdv.1] at hf
     have HQ := hid (show val Q = iabs (a / d) from by rw [hf.1]; unfold iabs; split <;> omega)
     have HSN := hid (show (true && decide (0 < val Q)) = decide (a / d < 0) from by rw [hf.1, Bool.true_and, decide_eq_decide]; omega)
     have HMOD := hid hf.2
     clear hdv hs hq0 ha0 hf
     go_wp2_with (go_at_call 145; (with_reducible refine (bigTrim true Q AQ cQ _ (by omega) (HRQ.out.keep tB) HBQ.out HCQ.out hmQ).mono ?_); rintro e w2 ⟨l2, rfl, hk2, ht2, hv2, hb2⟩; generalize hsg : (true && decide (0 < val Q)) = sg; have HSG := hid hsg; clear hsg; have Hv2 := hid hv2; clear hv2; have Hk2 := hid hk2; clear hk2; obtain ⟨fc2, fg2, hc2, hf2, hz2⟩ := bget hb2; (try simp at hz2))
     have hB := trim_big ((HRQ.out.keep tB).keep hb2) HBQ.out Hk2.out ht2 Hv2.out HQ.out HCQ.out hmQ (HSG.out.symm.trans HSN.out)
     have hl2 := trim_len Hk2.out
     have k0 : (w2.alloc (.cells #[.bool sg, .slice AQ l2.length cQ] 141)).cell? ⟨w.heap.size + 1, 0, none⟩ = some (.bool false) := (by simp [go_sem, hc2, r0, ↓IntWalk.iteOmega])
     have k1 : (w2.alloc (.cells #[.bool sg, .slice AQ l2.length cQ] 141)).cell? ⟨w.heap.size + 1, 1, none⟩ = some (.slice none 0 0) := (by simp [go_sem, hc2, r1, ↓IntWalk.iteOmega])
     have hB2 := hB.keep ((Below.refl w2.heap.size w2).alloc (Nat.le_refl _) (.cells #[.bool sg, .slice AQ l2.length cQ] 141))
     refine bodyPost_ret (v := .tuple #[.agg #[.bool sg, .slice AQ l2.length cQ], .int .u64 0]) (by simp [results, Tryz.results121, go_sem, k0, k1]; try rfl) rfl ⟨_, AQ, l2, cQ, by rw [HMOD.out], (hB2.far k0 (by simp) _).far ((World.cell?_setCell_other _ _ _ _ (by simp)).trans k1) (by simp) _, by omega, ?_⟩
     (have hbw := Hbw.out; exact tB)
    ·have hf := floor_neg1 (iabs_neg ha0) hd (show 0 < iabs a % d by rw [hdv.2]; exact hR)
     rw [hdv.1, hdv.2] at hf
     have HQ := hid (show val Q = iabs (- (val Q)) from by unfold iabs; split <;> omega)
     have HSN := hid (show (true && decide (0 < val Q)) = decide (- (val Q) < 0) from by rw [Bool.true_and, decide_eq_decide]; omega)
     have HMOD := hid hf.2
     have HDIV := hid hf.1
     clear hdv hs hq0 ha0 hf
     go_wp2_with (go_at_call 145; (with_reducible refine (bigTrim true Q AQ cQ _ (by omega) (HRQ.out.keep tB) HBQ.out HCQ.out hmQ).mono ?_); rintro e w2 ⟨l2, rfl, hk2, ht2, hv2, hb2⟩; generalize hsg : (true && decide (0 < val Q)) = sg; have HSG := hid hsg; clear hsg; have Hv2 := hid hv2; clear hv2; have Hk2 := hid hk2; clear hk2; obtain ⟨fc2, fg2, hc2, hf2, hz2⟩ := bget hb2; (try simp at hz2))
     have hB := trim_big ((HRQ.out.keep tB).keep hb2) HBQ.out Hk2.out ht2 Hv2.out HQ.out HCQ.out hmQ (HSG.out.symm.trans HSN.out)
     have hl2 := trim_len Hk2.out
     have hB2 := hB.keep ((Below.refl w2.heap.size w2).alloc (Nat.le_refl _) (.cells #[.bool sg, .slice AQ l2.length cQ] 141))
     have HB2 := hid hB2
     clear hB hB2
     go_region_with (first | (go_at_call 122; (with_reducible refine (bigNat 1 _ (by omega) (by omega)).mono ?_); rintro e w5 ⟨A5, l5, c5, rfl, hB5, hl5, hb5⟩; have HB5 := hid hB5; clear hB5; obtain ⟨fc5, fg5, hc5, hf5, hz5⟩ := bget hb5; (try simp at hz5)) | (go_at_call 149; (with_reducible refine (bigSub (- (val Q)) 1 sg false l2 l5 AQ A5 cQ c5 (L + 64) _ (by omega) (by omega) (by omega) (HB2.out.keep tB) (HB5.out.keep tB)).mono ?_); rintro e w6 ⟨s6, A6, l6, c6, rfl, hB6, hl6, hb6⟩; have HB6 := hid hB6; clear hB6; obtain ⟨fc6, fg6, hc6, hf6, hz6⟩ := bget hb6; (try simp at hz6)) | fail)
     all_goals
      go_wp2_with fail
      have k0 : w6.cell? ⟨w.heap.size + 1, 0, none⟩ = some (.bool false) := by simp [go_sem, hc6, hc5, hc2, r0, ↓IntWalk.iteOmega]
      have k1 : w6.cell? ⟨w.heap.size + 1, 1, none⟩ = some (.slice none 0 0) := by simp [go_sem, hc6, hc5, hc2, r1, ↓IntWalk.iteOmega]
      have o0 : w6.cell? ⟨w2.heap.size, 0, none⟩ = some (.bool sg) := by simp [go_sem, hc6, hc5, ↓IntWalk.iteOmega]
      have o1 : w6.cell? ⟨w2.heap.size, 1, none⟩ = some (.slice AQ l2.length cQ) := by simp [go_sem, hc6, hc5, ↓IntWalk.iteOmega]
      have hB7 : IsBig w6 (a / d) s6 A6 l6 c6 := by rw [HDIV.out, show -(val Q + 1) = -(val Q) - 1 by omega]; exact HB6.out
      refine bodyPost_ret (v := .tuple #[.agg #[.bool s6, .slice A6 l6.length c6], .int .u64 (d - R)]) (by simp [results, Tryz.results121, go_sem, k0, k1]; try rfl) rfl ⟨_, A6, l6, c6, by rw [HMOD.out], (((hB7.far o0 (by simp) _).far ((World.cell?_setCell_other _ _ _ _ (by simp)).trans o1) (by simp) _).far ((World.cell?_setCell_other _ _ _ _ (by simp)).trans ((World.cell?_setCell_other _ _ _ _ (by simp)).trans k0)) (by simp) _).far ((World.cell?_setCell_other _ _ _ _ (by simp)).trans ((World.cell?_setCell_other _ _ _ _ (by simp)).trans ((World.cell?_setCell_other _ _ _ _ (by simp)).trans k1))) (by simp) _, by omega, ?_⟩
      (have hbw := Hbw.out; exact tB)
  ·have k0 : 0 < k := by omega
   have d0 : decide ((0 : Int) < (k : Int)) = true := by simpa using (show (0 : Int) < k from by omega)
   obtain ⟨bb, bo, rfl, hbb, q1⟩ := bit_cell HA.out.rd Hbw.out (Nat.le_refl _) (show k - 1 < la.length from by omega)
   have hx := bit_get HA.out.bit (k - 1)
   have HP := hid (val_drop_pred k0 hk)
   obtain ⟨x, hxe⟩ : ∃ x, x = la.getD (k - 1) 0 := ⟨_, rfl⟩
   rw [← hxe] at q1 hx HP
   clear hxe
   by_cases hge : d ≤ 2 * R + x
   ·have g1 : decide (d ≤ 2 * R + x) = true := by simpa using hge
    go_wp2_with (first | ((at_builtin; refine wpList_app rfl _ _ _ rfl elB wr.heap.size _ _ rfl ((Own.nil wr wr.heap.size 5 1).alloc _) (some ⟨wr.heap.size, 0, none⟩) 1 1 rfl [encB 1] rfl (fun h => by cases h) rd_one ((by simp [encB]; rfl)) (by unfold maxLen; exact tE) tE tZ ?_; intro v' w3 hown3 hb3); obtain ⟨fc3, fg3, hc3, hf3, hz3⟩ := bget hb3; (try simp at hz3)) | (at_builtin; refine wpList_any rfl _ _ _ rfl elB wr.heap.size _ _ rfl hown3 AQ Q.length cQ rfl (Q.map encB) (by simp) (HRQ.out.keep tB) (encB_one Q) (by unfold maxLen; exact tE) tE (by have := hb3.size; simp at this; omega) ?_; intro v4 w4 hown4 hb4; have hown5 : Own w4 wr.heap.size 5 1 v4 ((1 :: Q).map encB) := (by simpa [encB] using hown4); have HO5 := hid hown5; have Hb4 := hid (show Below wr.heap.size wr w4 from tB); clear hown4 hown5 hb3 hb4) | fail)
    go_roundw
    case rel => exact ⟨k - 1, 1 :: Q, 2 * R + x - d, by omega, by go_num, by go_num, by omega, by omega, HO5.out.mono (by omega), by simp; omega, bit_cons HBQ.out (by omega) (by omega), quo_step HVQ.out HP.out (by omega), Hbl.out.trans (Hb4.out.mono (by omega))⟩
    case measure => simp [intOf]; omega
   ·have g1 : decide (d ≤ 2 * R + x) = false := by simpa using hge
    go_wp2_with (first | ((at_builtin; refine wpList_app rfl _ _ _ rfl elB wr.heap.size _ _ rfl ((Own.nil wr wr.heap.size 5 1).alloc _) (some ⟨wr.heap.size, 0, none⟩) 1 1 rfl [encB 0] rfl (fun h => by cases h) rd_one ((by simp [encB]; rfl)) (by unfold maxLen; exact tE) tE tZ ?_; intro v' w3 hown3 hb3); obtain ⟨fc3, fg3, hc3, hf3, hz3⟩ := bget hb3; (try simp at hz3)) | (at_builtin; refine wpList_any rfl _ _ _ rfl elB wr.heap.size _ _ rfl hown3 AQ Q.length cQ rfl (Q.map encB) (by simp) (HRQ.out.keep tB) (encB_one Q) (by unfold maxLen; exact tE) tE (by have := hb3.size; simp at this; omega) ?_; intro v4 w4 hown4 hb4; have hown5 : Own w4 wr.heap.size 5 1 v4 ((0 :: Q).map encB) := (by simpa [encB] using hown4); have HO5 := hid hown5; have Hb4 := hid (show Below wr.heap.size wr w4 from tB); clear hown4 hown5 hb3 hb4) | fail)
    go_roundw
    case rel => exact ⟨k - 1, 0 :: Q, 2 * R + x, by omega, by go_num, by go_num, by omega, by omega, HO5.out.mono (by omega), by simp; omega, bit_cons HBQ.out (by omega) (by omega), quo_step HVQ.out HP.out (by omega), Hbl.out.trans (Hb4.out.mono (by omega))⟩
    case measure => simp [intOf]; omega
theorem isBig_nil2 {w : World} : IsBig w 0 false none [] 0 := ⟨fun i r hr => by simp at hr, bit_nil, top_nil, rfl, by simp, by simp, rfl⟩
theorem ref13ShockNo (x : Inst) (q s : Int) (A : Option Addr) (c : Nat) (w : World) (hl : x.moves.length ≤ 1099511627776) (hr : Rd w A 1 (x.moves.map encI)) (h : ¬ okS x s) :
  Calls Tryz.prog 199 #[.agg #[.int .i64 (x).id, .int .i64 (x).mult, .int .i64 (x).price, .int .i64 (x).next, .slice A (x).moves.length c], .int .i64 q, .int .i64 s] w (BigPost w 0 300) := by
 have c1 := fun W h => ref13Is x A c W hl h
 have HR := hid hr
 clear hr
 by_cases h1 : okI x
 ·rw [decide_eq_true h1] at c1
  have C1 := hid c1
  clear c1
  generalize hn : x.moves.length = n at *
  by_cases h2 : s < 0
  ·have d2 : decide (s < 0) = true := by simpa using h2
   clear h h1 hn
   go_enter Tryz.func199, Tryz.ntmps199
   go_wp2_with (first | (go_at_call 50; (with_reducible refine cM (C1.out _ (HR.out.keep tB)) fun w1 hb1 fc1 fg1 hc1 hf1 hz1 => ?_); (try simp at hz1)) | fail)
   all_goals
    refine bigRet (s := false) (A := none) (l := []) (c := 0) rfl rfl rfl ?_ ?_ isBig_nil2 (by simp) ?_
    ·(first | (simp [go_sem, *]; done) | (simp [go_sem, *, ↓IntWalk.iteOmega]; done))
    ·(first | (simp [go_sem, *]; done) | (simp [go_sem, *, ↓IntWalk.iteOmega]; done))
    ·exact tB
  ·have d2 : decide (s < 0) = false := by simpa using h2
   have d3 : decide ((n : Int) ≤ s) = true := by
    rw [← hn]
    rw [decide_eq_true_iff]
    by_cases h3 : s < (x.moves.length : Int)
    ·exact absurd ⟨h1, by omega, h3⟩ h
    ·omega
   clear h h1 hn
   go_enter Tryz.func199, Tryz.ntmps199
   go_wp2_with (first | (go_at_call 50; (with_reducible refine cM (C1.out _ (HR.out.keep tB)) fun w1 hb1 fc1 fg1 hc1 hf1 hz1 => ?_); (try simp at hz1)) | fail)
   all_goals
    refine bigRet (s := false) (A := none) (l := []) (c := 0) rfl rfl rfl ?_ ?_ isBig_nil2 (by simp) ?_
    ·(first | (simp [go_sem, *]; done) | (simp [go_sem, *, ↓IntWalk.iteOmega]; done))
    ·(first | (simp [go_sem, *]; done) | (simp [go_sem, *, ↓IntWalk.iteOmega]; done))
    ·exact tB
 ·rw [decide_eq_false h1] at c1
  have C1 := hid c1
  clear c1 h h1
  go_enter Tryz.func199, Tryz.ntmps199
  go_wp2_with (first | (go_at_call 50; (with_reducible refine cM (C1.out _ (HR.out.keep tB)) fun w1 hb1 fc1 fg1 hc1 hf1 hz1 => ?_); (try simp at hz1)) | fail)
  all_goals
   refine bigRet (s := false) (A := none) (l := []) (c := 0) rfl rfl rfl ?_ ?_ isBig_nil2 (by simp) ?_
   ·(first | (simp [go_sem, *]; done) | (simp [go_sem, *, ↓IntWalk.iteOmega]; done))
   ·(first | (simp [go_sem, *]; done) | (simp [go_sem, *, ↓IntWalk.iteOmega]; done))
   ·exact tB
theorem ref13ShockYes (x : Inst) (q : Int) (k : Nat) (A : Option Addr) (c : Nat) (w : World) (hq : In64 q) (hr : Rd w A 1 (x.moves.map encI)) (hk : k < x.moves.length) (h : okI x) :
  Calls Tryz.prog 199 #[.agg #[.int .i64 (x).id, .int .i64 (x).mult, .int .i64 (x).price, .int .i64 (x).next, .slice A (x).moves.length c], .int .i64 q, .int .i64 k] w (BigPost w (q * x.mult * x.moves[k]) 300) := by
 have hl8 := h.2.2.2.2.2.2.1
 have c1 := fun W h => ref13Is x A c W (by omega) h
 have HR := hid hr
 rw [decide_eq_true h] at c1
 have C1 := hid c1
 have hm := h.2.2
 obtain ⟨b, o, rfl, hb, hcm⟩ := hr k (encI x.moves[k]) (by simp [hk])
 have e0 := hcm 0 _ rfl
 have hmv := okI_move h hk
 generalize x.moves[k] = m at *
 have i1 : In64 m := by unfold In64; omega
 have i2 : In64 x.mult := by unfold In64; omega
 have d2 : decide ((k : Int) < 0) = false := by simp
 have hkn : (k : Int) < (x.moves.length : Int) := by omega
 have d3 : decide ((x.moves.length : Int) ≤ (k : Int)) = false := by simp; omega
 simp at e0
 generalize x.moves.length = n at *
 clear c1 h hm hr hcm hmv
 go_enter Tryz.func199, Tryz.ntmps199
 go_wp2_with (first | (go_at_call 50; (with_reducible refine cM (C1.out _ (HR.out.keep tB)) fun w1 hb1 fc1 fg1 hc1 hf1 hz1 => ?_); (try simp at hz1)) | fail)
 go_region_held3 (fun w' => (w'.cell? ⟨w.heap.size, 1, none⟩ = some (.int .i64 x.mult) ∧ w'.cell? ⟨w.heap.size, 4, none⟩ = some (.slice (some ⟨b, o, none⟩) n c)) ∧ w'.cell? ⟨b, o + k, none⟩ = some (.int .i64 m)) (exact tK) (first | (go_at_call 80; (with_reducible refine (bigOf q _ hq).mono ?_); rintro e w2 ⟨s2, A2, l2, c2, rfl, hB2, hl2, hb2⟩; have HB2 := hid hB2; clear hB2; obtain ⟨fc2, fg2, hc2, hf2, hz2⟩ := bget hb2; (try simp at hz2)) | (go_at_call 80; (with_reducible refine (bigOf x.mult _ i2).mono ?_); rintro e w3 ⟨s3, A3, l3, c3, rfl, hB3, hl3, hb3⟩; have HB3 := hid hB3; clear hB3; obtain ⟨fc3, fg3, hc3, hf3, hz3⟩ := bget hb3; (try simp at hz3)) | (go_at_call 181; (with_reducible refine (bigMul q x.mult s2 s3 l2 l3 A2 A3 c2 c3 65 _ (by omega) hl2 hl3 (HB2.out.keep tB) (HB3.out.keep tB)).mono ?_); rintro e w4 ⟨s4, A4, l4, c4, rfl, hB4, hl4, hb4⟩; have HB4 := hid hB4; clear hB4; obtain ⟨fc4, fg4, hc4, hf4, hz4⟩ := bget hb4; (try simp at hz4)) | (go_at_call 80; (with_reducible refine (bigOf m _ i1).mono ?_); rintro e w5 ⟨s5, A5, l5, c5, rfl, hB5, hl5, hb5⟩; have HB5 := hid hB5; clear hB5; obtain ⟨fc5, fg5, hc5, hf5, hz5⟩ := bget hb5; (try simp at hz5)) | (go_at_call 181; (with_reducible refine (bigMul (q * x.mult) m s4 s5 l4 l5 A4 A5 c4 c5 130 _ (by omega) (by omega) (by omega) (HB4.out.keep tB) (HB5.out.keep tB)).mono ?_); rintro e w6 ⟨s6, A6, l6, c6, rfl, hB6, hl6, hb6⟩; have HB6 := hid hB6; clear hB6; obtain ⟨fc6, fg6, hc6, hf6, hz6⟩ := bget hb6; (try simp at hz6)) | fail)
 all_goals
  go_wp2_with fail
  refine bigRet rfl rfl rfl ?_ ?_ ?_ (by omega) ?_
  ·(first | (simp [go_sem, *]; done) | (simp [go_sem, *, ↓IntWalk.iteOmega]; done))
  ·(first | (simp [go_sem, *]; done) | (simp [go_sem, *, ↓IntWalk.iteOmega]; done))
  ·(repeat' (first | (focus ((refine (HB6.out).keep ?_); exact tB; done)) | (refine IsBig.far (v0 := .slice none 0 0) ?_ ?_ ?_ _; rotate_left; (focus (simp [go_sem, *]; done)); (focus (simp; done))) | (refine IsBig.far (v0 := .bool false) ?_ ?_ ?_ _; rotate_left; (focus (simp [go_sem, *]; done)); (focus (simp; done))) | fail))
  ·exact tB
theorem ref13Shock (x : Inst) (q s : Int) (A : Option Addr) (c : Nat) (w : World) (hq : In64 q) (hl : x.moves.length ≤ 1099511627776) (hr : Rd w A 1 (x.moves.map encI)) :
  Calls Tryz.prog 199 #[.agg #[.int .i64 (x).id, .int .i64 (x).mult, .int .i64 (x).price, .int .i64 (x).next, .slice A (x).moves.length c], .int .i64 q, .int .i64 s] w (BigPost w (shockI x q s) 300) := by
 by_cases h : okS x s
 ·obtain ⟨k, rfl, hk⟩ := okS_nat h
  rw [shock_yes h.1 hk]
  have e : x.moves[k] * x.mult * q = q * x.mult * x.moves[k] := by rw [Int.mul_comm _ q, Int.mul_comm x.moves[k], Int.mul_assoc]
  rw [e]
  exact ref13ShockYes x q k A c w hq hr hk h.1
 ·rw [shock_no h]
  exact ref13ShockNo x q s A c w hl hr h
theorem ref12Worth (x : Asset) (q : Int) (w : World) (hq : In64 q) (hp : In64 x.price) : Calls Tryz.prog 152 #[.agg #[.int .i64 x.id, .int .i64 x.price, .int .i64 x.hair], .int .i64 q] w (BigPost w (q * x.price) 130) := by
 go_enter Tryz.func152, Tryz.ntmps152
 go_wp2_with fail
 go_region_held3 (fun w' => w'.cell? ⟨w.heap.size, 1, none⟩ = some (.int .i64 x.price)) (exact tK) (first | (go_at_call 80; (with_reducible refine (bigOf q _ hq).mono ?_); rintro e w1 ⟨s1, A1, l1, c1, rfl, hB1, hl1, hb1⟩; have HB1 := hid hB1; clear hB1; obtain ⟨fc1, fg1, hc1, hf1, hz1⟩ := bget hb1; (try simp at hz1)) | (go_at_call 80; (with_reducible refine (bigOf x.price _ hp).mono ?_); rintro e w2 ⟨s2, A2, l2, c2, rfl, hB2, hl2, hb2⟩; have HB2 := hid hB2; clear hB2; obtain ⟨fc2, fg2, hc2, hf2, hz2⟩ := bget hb2; (try simp at hz2)) | (go_at_call 181; (with_reducible refine (bigMul q x.price s1 s2 l1 l2 A1 A2 c1 c2 65 _ (by omega) hl1 hl2 (HB1.out.keep tB) (HB2.out.keep tB)).mono ?_); rintro e w3 ⟨s3, A3, l3, c3, rfl, hB3, hl3, hb3⟩; have HB3 := hid hB3; clear hB3; obtain ⟨fc3, fg3, hc3, hf3, hz3⟩ := bget hb3; (try simp at hz3)) | fail)
 all_goals
  go_wp2_with fail
  refine bigRet rfl rfl rfl ?_ ?_ ?_ (by omega) ?_
  ·(first | (simp [go_sem, *]; done) | (simp [go_sem, *, ↓IntWalk.iteOmega]; done))
  ·(first | (simp [go_sem, *]; done) | (simp [go_sem, *, ↓IntWalk.iteOmega]; done))
  ·(repeat' (first | (focus ((refine (HB3.out).keep ?_); (repeat' (first | (with_reducible exact Below.refl _ _) | (with_reducible assumption) | (with_reducible refine Below.alloc ?_ ?_ _) | (with_reducible refine Below.setCell ?_ ?_ _) | (with_reducible refine Below.drew ?_) | (with_reducible refine below_drewN ?_ _) | (with_reducible refine below_via ?_ (by with_reducible assumption) ?_) | omega | (simp; done) | (simp; omega))); done)) | (refine IsBig.far (v0 := .slice none 0 0) ?_ ?_ ?_ _; rotate_left; (focus (simp [go_sem, *]; done)); (focus (simp; done))) | (refine IsBig.far (v0 := .bool false) ?_ ?_ ?_ _; rotate_left; (focus (simp [go_sem, *]; done)); (focus (simp; done))) | fail))
  ·exact tB
theorem ref12Count (x : Asset) (q : Int) (w : World) (hq : In64 q) (h : okA x) : Calls Tryz.prog 153 #[.agg #[.int .i64 x.id, .int .i64 x.price, .int .i64 x.hair], .int .i64 q] w (BigPost w (countA x q) 400) := by
 have hok := okA_in h
 have hh : 0 ≤ x.hair ∧ x.hair ≤ 10000 := ⟨h.2.2.2.2.1, h.2.2.2.2.2⟩
 have HE := hid (show q * x.price * (10000 - x.hair) / 10000 = countA x q from rfl)
 have hw : IntKind.i64.wrap (10000 - x.hair) = 10000 - x.hair := by rw [IntKind.wrap_i64]; omega
 clear h
 go_enter Tryz.func153, Tryz.ntmps153
 go_wp2_with fail
 go_region_held3 (fun w' => w'.cell? ⟨w.heap.size, 0, none⟩ = some (.int .i64 x.id) ∧ w'.cell? ⟨w.heap.size, 1, none⟩ = some (.int .i64 x.price) ∧ w'.cell? ⟨w.heap.size, 2, none⟩ = some (.int .i64 x.hair)) (exact tK) (first | (go_at_call 152; (with_reducible refine (ref12Worth x q _ hq hok.1).mono ?_); rintro e w1 ⟨s1, A1, l1, c1, rfl, hB1, hl1, hb1⟩; have HB1 := hid hB1; clear hB1; obtain ⟨fc1, fg1, hc1, hf1, hz1⟩ := bget hb1; (try simp at hz1)) | (go_at_call 80; (with_reducible refine (bigOf (10000 - x.hair) _ hok.2).mono ?_); rintro e w2 ⟨s2, A2, l2, c2, rfl, hB2, hl2, hb2⟩; have HB2 := hid hB2; clear hB2; obtain ⟨fc2, fg2, hc2, hf2, hz2⟩ := bget hb2; (try simp at hz2)) | (go_at_call 181; (with_reducible refine (bigMul (q * x.price) (10000 - x.hair) s1 s2 l1 l2 A1 A2 c1 c2 130 _ (by omega) hl1 (by omega) (HB1.out.keep tB) (HB2.out.keep tB)).mono ?_); rintro e w3 ⟨s3, A3, l3, c3, rfl, hB3, hl3, hb3⟩; have HB3 := hid hB3; clear hB3; obtain ⟨fc3, fg3, hc3, hf3, hz3⟩ := bget hb3; (try simp at hz3)) | (go_at_call 121; (with_reducible refine (bigDiv (q * x.price * (10000 - x.hair)) 10000 s3 l3 A3 c3 260 _ (by omega) (by omega) (by omega) (by omega) (HB3.out.keep tB)).mono ?_); rw [HE.out]; rintro e w4 ⟨s4, A4, l4, c4, rfl, hB4, hl4, hb4⟩; have HB4 := hid hB4; clear hB4; obtain ⟨fc4, fg4, hc4, hf4, hz4⟩ := bget hb4; (try simp at hz4)) | fail)
 all_goals
  go_wp2_with fail
  refine bigRet rfl rfl rfl ?_ ?_ ?_ (by omega) ?_
  ·(first | (simp [go_sem, *]; done) | (simp [go_sem, *, ↓IntWalk.iteOmega]; done))
  ·(first | (simp [go_sem, *]; done) | (simp [go_sem, *, ↓IntWalk.iteOmega]; done))
  ·(repeat' (first | (focus ((refine (HB4.out).keep ?_); (repeat' (first | (with_reducible exact Below.refl _ _) | (with_reducible assumption) | (with_reducible refine Below.alloc ?_ ?_ _) | (with_reducible refine Below.setCell ?_ ?_ _) | (with_reducible refine Below.drew ?_) | (with_reducible refine below_drewN ?_ _) | (with_reducible refine below_via ?_ (by with_reducible assumption) ?_) | omega | (simp; done) | (simp; omega))); done)) | (refine IsBig.far (v0 := .slice none 0 0) ?_ ?_ ?_ _; rotate_left; (focus (simp [go_sem, *]; done)); (focus (simp; done))) | (refine IsBig.far (v0 := .bool false) ?_ ?_ ?_ _; rotate_left; (focus (simp [go_sem, *]; done)); (focus (simp; done))) | fail))
  ·exact tB
theorem str_size (l : List Int) : (str l).size = l.length := by simp [str, ByteArray.size]
theorem str_toList (l : List Int) : (str l).toList = l.map fun b => UInt8.ofNat b.toNat := by rw [Lib.toList_data]; simp [str]
theorem conv1 (W : World) (g : Nat) (x : Int) (h0 : 0 ≤ x) (h1 : x ≤ 255) (hg : W.cell? ⟨g, 0, none⟩ = some (.int .u8 x)) : (convert 139 9 (.slice (some ⟨g, 0, none⟩) 1 1)).run Tryz.prog W = .ok (.string (str [x])) W := by
 have h := run_convert_bytes_back (P := Tryz.prog) W 139 9 5 ⟨g, 0, none⟩ 1 [UInt8.ofNat x.toNat] Tryz.underlying139 Tryz.underlying5 Tryz.underlying9 (fun j hj => by
  have hj0 : j = 0 := by simpa using hj
  subst hj0
  simp only [List.getElem_cons_zero]
  rw [addr_plain, u8_back h0 h1]
  exact hg)
 exact h
def vsize : Value → Nat
 | .string b => b.size
 | _ => 0
theorem left_pos {w : World} {k : Nat} {s : Bool} {A : Option Addr} {l : List Int} {c : Nat} (h : IsBig w (k : Int) s A l c) : (0 < l.length) ↔ k ≠ 0 := by
 constructor
 ·intro hl hk
  subst hk
  have := big_zero h
  rw [this] at hl; simp at hl
 ·intro hk
  exact big_len_pos h (by omega)
theorem bigDigits (n : Int) (s : Bool) (l : List Int) (A : Option Addr) (c : Nat) (w : World) (hn : In128 n) (hl : l.length ≤ 200) (hB : IsBig w n s A l c) :
  Calls Tryz.prog 79 #[.agg #[.bool s, .slice A l.length c]] w fun e w' => e = .returned (.string (textB n)) ∧ Below w.heap.size w w' := by
 have hmn : iabs n = (n.natAbs : Nat) := iabs_nat n
 have hm : iabs n ≤ 170141183460469231731687303715884105728 := by unfold In128 at hn; unfold iabs; split <;> omega
 obtain ⟨M, hM⟩ : ∃ M, M = n.natAbs := ⟨_, rfl⟩
 rw [← hM] at hmn
 rw [hmn] at hm
 have h40 : M < 10 ^ 40 := by omega
 have HM := hid hM
 have HS := hid hB.sgn
 have HB := hid (show IsBig w (M : Int) false A l c from ⟨hB.rd, hB.bit, hB.top, by rw [hB.val, hmn, iabs_pos (by omega)], hB.cap, hB.room, by simp⟩)
 clear hB hM hmn
 go_enter Tryz.func79, Tryz.ntmps79
 go_wp2_with fail
 go_loopw [3] (fun v wr => ∃ (o : List Int) (f k : Nat) (s2 : Bool) (A2 : Option Addr) (l2 : List Int) (c2 : Nat), v = .string (str o.reverse) ∧ f + o.length = 40 ∧ k < 10 ^ f ∧ o ++ left o f k = dgs 40 M ∧ IsBig wr (k : Int) s2 A2 l2 c2 ∧ l2.length ≤ 200 + 65 * o.length ∧ Blk wr (w.heap.size + 1) 141 #[.bool s2, .slice A2 l2.length c2] ∧ Below (w.heap.size + 1) (w.alloc (.cells #[.bool s, .slice A l.length c] 141)) wr) (fun v _ => 40 - vsize v)
 case atStart => exact ⟨[], 40, M, false, A, l, c, rfl, rfl, h40, left_start M, HB.out.keep tB, by simpa using hl, Blk.here (by simp), tB⟩
 case round =>
  obtain ⟨o, f, k, s2, A2, l2, c2, rfl, hfo, hkf, hleft, hB2, hl2, hbk, hbl⟩ := hrel
  have hz := hbl.size
  simp at hz
  have n0 := (hbl.cell (p := ⟨w.heap.size, 0, none⟩) (by simp))
  have n1 := (hbl.cell (p := ⟨w.heap.size, 1, none⟩) (by simp))
  simp at n0 n1
  have x0 := hbk.cell 0
  have x1 := hbk.cell 1
  have z0 := hbk.frozen 0
  have z1 := hbk.frozen 1
  have ug := hbk.lt
  simp at x0 x1
  have ho40 : o.length ≤ 40 := by omega
  have HF := hid hfo
  have HK := hid hkf
  have HL := hid hleft
  have HB2 := hid hB2
  have Hbk := hid hbk
  have Hbl := hid hbl
  obtain ⟨S, hS⟩ : ∃ S, S = str o.reverse := ⟨_, rfl⟩
  rw [← hS]
  have HSo := hid hS
  have hSs : S.size = o.length := by rw [hS, str_size, List.length_reverse]
  have hSl : S.size ≤ 40 := by omega
  have HSs := hid hSs
  clear hS hSs hfo hkf hleft hB2 hbk hbl
  have hST : S.toList = o.reverse.map fun b => UInt8.ofNat b.toNat := by rw [HSo.out, str_toList]
  by_cases hgo : o = [] ∨ k ≠ 0
  ·obtain ⟨g, hg, hst, hkg⟩ := left_step HF.out HK.out hgo
   have HST := hid hst
   have HG := hid hg
   have HKG := hid hkg
   clear hst hg hkg
   have ho39 : o.length ≤ 39 := by have h1 := HF.out; have h2 := HG.out; omega
   have hq : 0 ≤ (k : Int) % 10 ∧ (k : Int) % 10 ≤ 9 := by omega
   have hcond : S.toList = [] ∨ (¬ S.toList = [] ∧ S.toList.isEmpty = false ∧ decide (0 < l2.length) = true) := by
    by_cases h : o = []
    ·exact .inl (by rw [hST, h]; rfl)
    ·have h2 : ¬ S.toList = [] := by rw [hST]; simpa using h
     exact .inr ⟨h2, by rw [List.isEmpty_eq_false_iff]; exact h2, by simpa using (left_pos HB2.out).2 (hgo.resolve_left h)⟩
   clear hgo hST
   rcases hcond with he | ⟨he, he2, he3⟩
   all_goals
    go_wp2_with (first | (go_at_call 121; (with_reducible refine (bigDiv k 10 s2 l2 A2 c2 (200 + 65 * o.length) _ (by omega) (by omega) (by omega) hl2 (HB2.out.keep tB)).mono ?_); rintro e w3 ⟨s3, A3, l3, c3, rfl, hB3, hl3, hb3⟩; have HB3 := hid hB3; clear hB3; obtain ⟨fc3, fg3, hc3, hf3, hz3⟩ := bget hb3; (try simp at hz3); have hconv := conv1 ((w3.alloc (.cells #[.bool s3, .slice A3 l3.length c3] 141)).alloc (.cells #[.int .u8 (48 + (k : Int) % 10)] 5)) (w3.heap.size + 1) (48 + (k : Int) % 10) (by omega) (by omega) (by simp [go_sem]); have hadd := run_string_add_sum (P := Tryz.prog) (w := (w3.alloc (.cells #[.bool s3, .slice A3 l3.length c3] 141)).alloc (.cells #[.int .u8 (48 + (k : Int) % 10)] 5)) (str [48 + (k : Int) % 10]) S (by rw [str_size]; simp; omega); rw [show str [48 + (k : Int) % 10] ++ S = str (o ++ [48 + (k : Int) % 10]).reverse from (by rw [HSo.out, str_cons, List.reverse_append]; rfl)] at hadd) | fail)
    go_roundw
    case rel =>
     have hx : ((48 + k % 10 : Nat) : Int) = 48 + (k : Int) % 10 := by omega
     have hkd : ((k / 10 : Nat) : Int) = (k : Int) / 10 := by omega
     have h3 : Below wr.heap.size wr w3 := by exact tB
     have t0 : ((w3.alloc (.cells #[.bool s3, .slice A3 l3.length c3] 141)).alloc (.cells #[.int .u8 (48 + (k : Int) % 10)] 5)).cell? ⟨w.heap.size + 1, 0, none⟩ = some (.bool s2) := by simp [go_sem, hc3, x0, ↓IntWalk.iteOmega]
     have t1 : ((w3.alloc (.cells #[.bool s3, .slice A3 l3.length c3] 141)).alloc (.cells #[.int .u8 (48 + (k : Int) % 10)] 5)).cell? ⟨w.heap.size + 1, 1, none⟩ = some (.slice A2 l2.length c2) := by simp [go_sem, hc3, x1, ↓IntWalk.iteOmega]
     refine ⟨o ++ [((48 + k % 10 : Nat) : Int)], g, k / 10, s3, A3, l3, c3, ?_, ?_, HKG.out, ?_, ?_, ?_, ?_, ?_⟩
     ·rw [hx]; simp
     ·have h1 := HF.out; have h2 := HG.out; simp; omega
     ·rw [← HST.out]; exact HL.out
     ·rw [hkd]
      exact ((HB3.out.keep (((Below.refl w3.heap.size w3).alloc (Nat.le_refl _) _).alloc (by simp) _)).far t0 (by simp) _).far ((World.cell?_setCell_other _ _ _ _ (by simp)).trans t1) (by simp) _
     ·simp; omega
     ·have h5 := ((((Hbk.out.below h3 ug).alloc (.cells #[.bool s3, .slice A3 l3.length c3] 141)).alloc (.cells #[.int .u8 (48 + (k : Int) % 10)] 5)).set 0 (.bool s3)).set 1 (.slice A3 l3.length c3)
      simpa using h5
     ·have hbl := Hbl.out
      exact tB
    case measure =>
     have h1 := HSs.out
     simp [vsize, str_size]
     omega
  ·have hne : ¬ o = [] := fun h => hgo (.inl h)
   have hk0 : k = 0 := Decidable.byContradiction fun h => hgo (.inr h)
   have hoe : o = dgs 40 M := by rw [← HL.out]; exact (left_end hgo).symm
   have he : ¬ S.toList = [] := by rw [hST]; simpa using hne
   have he2 : S.toList.isEmpty = false := by rw [List.isEmpty_eq_false_iff]; exact he
   have he3 : decide (0 < l2.length) = false := by
    have := left_pos HB2.out
    simp; exact Decidable.byContradiction fun h => (this.1 (by have := List.length_pos_iff.2 h; omega)) hk0
   have HOE := hid hoe
   have hs := HS.out
   clear hgo hne hk0 hoe hST
   have HTX : Hid ((if n < 0 then 45 :: o.reverse else o.reverse) = (back n).reverse) := hid (by unfold back; rw [← HM.out, ← HOE.out]; split <;> simp)
   cases s
   ·have hn0 : ¬ n < 0 := by simpa using hs
    clear hs
    have HR := hid (show S = textB n from by rw [HSo.out]; unfold textB; rw [← HTX.out, if_neg hn0])
    go_wp2_with fail
    go_ret
    exact ⟨by rw [← HR.out]; first | done | rfl, by have hbl := Hbl.out.mono (show w.heap.size ≤ w.heap.size + 1 by omega); exact tB⟩
   ·have hn0 : n < 0 := by simpa using hs.symm
    clear hs
    have HR := hid (show (⟨#[45]⟩ : ByteArray) ++ S = textB n from by rw [HSo.out, show (⟨#[45]⟩ : ByteArray) = str [45] from rfl, str_cons]; unfold textB; rw [← HTX.out, if_pos hn0])
    have hadd := run_string_add_sum (P := Tryz.prog) (w := wr) ⟨#[45]⟩ S (by show 1 + S.size ≤ _; omega)
    rw [HR.out] at hadd
    go_wp2_with fail
    go_ret
    exact ⟨rfl, by have hbl := Hbl.out.mono (show w.heap.size ≤ w.heap.size + 1 by omega); exact tB⟩
end Go.Proofs.YtalgfpegaobacaaGreatDoor
