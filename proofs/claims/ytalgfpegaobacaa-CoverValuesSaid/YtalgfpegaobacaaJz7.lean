/- Joined: Big10, LawF3, LawF5, Asset2, Store. -/
import Derived.Test.YtalgfpegaobacaaJz6
import Derived.Test.YtalgfpegaobacaaJz3
import Derived.Test.YtalgfpegaobacaaJz1
/- The contract of the reference's Div. -/
namespace Go.Proofs.Ytalgfpegaobacaa
open Go.RowKit
def DivPost (w : World) (q r : Int) (L : Nat) (e : Ending) (w' : World) : Prop :=
  ∃ s A l c, e = .returned (.tuple #[.agg #[.bool s, .slice A l.length c], .int .u64 r]) ∧ IsBig w' q s A l c ∧ l.length ≤ L ∧ Below w.heap.size w w'
theorem divs_of {q d r m : Int} (h : q * d + r = m) (h0 : 0 ≤ r) (h1 : r < d) : m / d = q ∧ m % d = r := by
  have e : m / d = q := div_is (by omega) (by rw [Int.add_mul]; omega) (by omega)
  refine ⟨e, ?_⟩
  rw [Int.emod_def, e, Int.mul_comm]; omega
set_option maxRecDepth 100000 in
set_option maxHeartbeats 4000000 in
theorem bigDiv (a d : Int) (sa : Bool) (la : List Int) (A : Option Addr) (c L : Nat) (w : World) (hd : 0 < d) (hd1 : d ≤ 9223372036854775807) (hL : L ≤ 400000) (hla : la.length ≤ L) (ha : IsBig w a sa A la c) :
    Calls Try.prog 37 #[.agg #[.bool sa, .slice A la.length c], .int .u64 d] w (DivPost w (a / d) (a % d) (L + 65)) := by
  have HA := Lib.hid ha
  clear ha
  go_enter Try.func37, Try.ntmps37
  go_wp2_with fail
  go_loopw [6, 7, 8] (fun rv qv i wr => ∃ (k : Nat) (Q : List Int) (R : Int), k ≤ la.length ∧ i = .int .i64 k ∧ rv = .int .u64 R ∧ 0 ≤ R ∧ R < d ∧ Own wr (w.heap.size + 2) 5 1 qv (Q.map encB) ∧ Q.length + k ≤ la.length ∧ Bit Q ∧ val Q * d + R = val (la.drop k) ∧ Below (w.heap.size + 2) ((w.alloc (.cells #[.bool sa, .slice A la.length c] 46)).alloc (.cells #[.bool false, .slice none 0 0] 46)) wr) (fun _ _ i _ => (intOf i).toNat)
  case atStart => exact ⟨la.length, [], 0, Nat.le_refl _, rfl, rfl, by omega, hd, Own.nil _ _ _ _, by simp, bit_nil, by simp [val], Below.refl _ _⟩
  case round =>
    obtain ⟨k, Q, R, hk, rfl, rfl, R0, R1, hoQ, hlQ, hbQ, hvQ, hbl⟩ := hrel
    have hz := hbl.size
    simp at hz
    have a0 := (hbl.cell (p := ⟨w.heap.size, 0, none⟩) (by simp))
    have a1 := (hbl.cell (p := ⟨w.heap.size, 1, none⟩) (by simp))
    have r0 := (hbl.cell (p := ⟨w.heap.size + 1, 0, none⟩) (by simp))
    have r1 := (hbl.cell (p := ⟨w.heap.size + 1, 1, none⟩) (by simp))
    have f0 := (hbl.frozen (p := ⟨w.heap.size + 1, 0, none⟩) (by simp))
    have f1 := (hbl.frozen (p := ⟨w.heap.size + 1, 1, none⟩) (by simp))
    simp [go_sem] at a0 a1 r0 r1 f0 f1
    have hbw : Below w.heap.size w wr := by (repeat' (first | (with_reducible exact Below.refl _ _) | (with_reducible assumption) | (with_reducible refine Below.alloc ?_ ?_ _) | (with_reducible refine Below.setCell ?_ ?_ _) | (with_reducible refine Below.drew ?_) | (with_reducible refine below_drewN ?_ _) | (with_reducible refine below_via ?_ (by with_reducible assumption) ?_) | omega | (simp; done) | (simp; omega)))
    have Hbl := Lib.hid hbl
    have Hbw := Lib.hid hbw
    have HBQ := Lib.hid hbQ
    have HVQ := Lib.hid hvQ
    obtain ⟨AQ, cQ, rfl, hcQ, hmQ, hrQ, _⟩ := hoQ.shape
    have HRQ := Lib.hid hrQ
    have HCQ := Lib.hid hcQ
    have HOQ := Lib.hid hoQ
    rw [List.length_map] at HOQ ⊢
    rw [List.length_map] at HCQ
    clear hbl hbw hbQ hvQ hoQ hrQ hcQ
    by_cases h0 : k = 0
    · subst h0
      have hdv := divs_of HVQ.out R0 R1
      rw [List.drop_zero, HA.out.val] at hdv
      have hs := HA.out.sgn
      have hq0 := val_nonneg HBQ.out
      cases sa
      · have ha0 : 0 ≤ a := by simpa using hs
        rw [iabs_pos ha0] at hdv
        have HQ := Lib.hid (show val Q = iabs (a / d) from by rw [hdv.1, iabs_pos hq0])
        have HSN := Lib.hid (show (false && decide (0 < val Q)) = decide (a / d < 0) from by rw [hdv.1]; simp; exact hq0)
        have HMOD := Lib.hid hdv.2
        clear hdv hs hq0 ha0
        go_wp2_with (go_at_call 38; (with_reducible refine (bigTrim false Q AQ cQ _ (by omega) (HRQ.out.keep (by (repeat' (first | (with_reducible exact Below.refl _ _) | (with_reducible assumption) | (with_reducible refine Below.alloc ?_ ?_ _) | (with_reducible refine Below.setCell ?_ ?_ _) | (with_reducible refine Below.drew ?_) | (with_reducible refine below_drewN ?_ _) | (with_reducible refine below_via ?_ (by with_reducible assumption) ?_) | omega | (simp; done) | (simp; omega))))) HBQ.out HCQ.out hmQ).mono ?_); rintro e w2 ⟨l2, rfl, hk2, ht2, hv2, hb2⟩; generalize hsg : (false && decide (0 < val Q)) = sg; have HSG := Lib.hid hsg; clear hsg; have Hv2 := Lib.hid hv2; clear hv2; have Hk2 := Lib.hid hk2; clear hk2; obtain ⟨fc2, fg2, hc2, hf2, hz2⟩ := bget hb2; (try simp at hz2))
        have hB := trim_big ((HRQ.out.keep (by (repeat' (first | (with_reducible exact Below.refl _ _) | (with_reducible assumption) | (with_reducible refine Below.alloc ?_ ?_ _) | (with_reducible refine Below.setCell ?_ ?_ _) | (with_reducible refine Below.drew ?_) | (with_reducible refine below_drewN ?_ _) | (with_reducible refine below_via ?_ (by with_reducible assumption) ?_) | omega | (simp; done) | (simp; omega))))).keep hb2) HBQ.out Hk2.out ht2 Hv2.out HQ.out HCQ.out hmQ (HSG.out.symm.trans HSN.out)
        have hl2 := trim_len Hk2.out
        have k0 : (w2.alloc (.cells #[.bool sg, .slice AQ l2.length cQ] 46)).cell? ⟨w.heap.size + 1, 0, none⟩ = some (.bool false) := (by simp [go_sem, hc2, r0, ↓IntWalk.iteOmega])
        have k1 : (w2.alloc (.cells #[.bool sg, .slice AQ l2.length cQ] 46)).cell? ⟨w.heap.size + 1, 1, none⟩ = some (.slice none 0 0) := (by simp [go_sem, hc2, r1, ↓IntWalk.iteOmega])
        have hB2 := hB.keep ((Below.refl w2.heap.size w2).alloc (Nat.le_refl _) (.cells #[.bool sg, .slice AQ l2.length cQ] 46))
        refine bodyPost_ret (v := .tuple #[.agg #[.bool sg, .slice AQ l2.length cQ], .int .u64 R]) (by simp [results, Try.results37, go_sem, k0, k1]; try rfl) rfl ⟨_, AQ, l2, cQ, by rw [HMOD.out], (hB2.far k0 (by simp) _).far ((World.cell?_setCell_other _ _ _ _ (by simp)).trans k1) (by simp) _, by omega, ?_⟩
        (have hbw := Hbw.out; (repeat' (first | (with_reducible exact Below.refl _ _) | (with_reducible assumption) | (with_reducible refine Below.alloc ?_ ?_ _) | (with_reducible refine Below.setCell ?_ ?_ _) | (with_reducible refine Below.drew ?_) | (with_reducible refine below_drewN ?_ _) | (with_reducible refine below_via ?_ (by with_reducible assumption) ?_) | omega | (simp; done) | (simp; omega))))
      · have ha0 : a < 0 := by simpa using hs.symm
        rcases (show R = 0 ∨ 0 < R by omega) with hR | hR
        · subst hR
          have hf := floor_neg0 (iabs_neg ha0) hd hdv.2
          rw [hdv.1] at hf
          have HQ := Lib.hid (show val Q = iabs (a / d) from by rw [hf.1]; unfold iabs; split <;> omega)
          have HSN := Lib.hid (show (true && decide (0 < val Q)) = decide (a / d < 0) from by rw [hf.1, Bool.true_and, decide_eq_decide]; omega)
          have HMOD := Lib.hid hf.2
          clear hdv hs hq0 ha0 hf
          go_wp2_with (go_at_call 38; (with_reducible refine (bigTrim true Q AQ cQ _ (by omega) (HRQ.out.keep (by (repeat' (first | (with_reducible exact Below.refl _ _) | (with_reducible assumption) | (with_reducible refine Below.alloc ?_ ?_ _) | (with_reducible refine Below.setCell ?_ ?_ _) | (with_reducible refine Below.drew ?_) | (with_reducible refine below_drewN ?_ _) | (with_reducible refine below_via ?_ (by with_reducible assumption) ?_) | omega | (simp; done) | (simp; omega))))) HBQ.out HCQ.out hmQ).mono ?_); rintro e w2 ⟨l2, rfl, hk2, ht2, hv2, hb2⟩; generalize hsg : (true && decide (0 < val Q)) = sg; have HSG := Lib.hid hsg; clear hsg; have Hv2 := Lib.hid hv2; clear hv2; have Hk2 := Lib.hid hk2; clear hk2; obtain ⟨fc2, fg2, hc2, hf2, hz2⟩ := bget hb2; (try simp at hz2))
          have hB := trim_big ((HRQ.out.keep (by (repeat' (first | (with_reducible exact Below.refl _ _) | (with_reducible assumption) | (with_reducible refine Below.alloc ?_ ?_ _) | (with_reducible refine Below.setCell ?_ ?_ _) | (with_reducible refine Below.drew ?_) | (with_reducible refine below_drewN ?_ _) | (with_reducible refine below_via ?_ (by with_reducible assumption) ?_) | omega | (simp; done) | (simp; omega))))).keep hb2) HBQ.out Hk2.out ht2 Hv2.out HQ.out HCQ.out hmQ (HSG.out.symm.trans HSN.out)
          have hl2 := trim_len Hk2.out
          have k0 : (w2.alloc (.cells #[.bool sg, .slice AQ l2.length cQ] 46)).cell? ⟨w.heap.size + 1, 0, none⟩ = some (.bool false) := (by simp [go_sem, hc2, r0, ↓IntWalk.iteOmega])
          have k1 : (w2.alloc (.cells #[.bool sg, .slice AQ l2.length cQ] 46)).cell? ⟨w.heap.size + 1, 1, none⟩ = some (.slice none 0 0) := (by simp [go_sem, hc2, r1, ↓IntWalk.iteOmega])
          have hB2 := hB.keep ((Below.refl w2.heap.size w2).alloc (Nat.le_refl _) (.cells #[.bool sg, .slice AQ l2.length cQ] 46))
          refine bodyPost_ret (v := .tuple #[.agg #[.bool sg, .slice AQ l2.length cQ], .int .u64 0]) (by simp [results, Try.results37, go_sem, k0, k1]; try rfl) rfl ⟨_, AQ, l2, cQ, by rw [HMOD.out], (hB2.far k0 (by simp) _).far ((World.cell?_setCell_other _ _ _ _ (by simp)).trans k1) (by simp) _, by omega, ?_⟩
          (have hbw := Hbw.out; (repeat' (first | (with_reducible exact Below.refl _ _) | (with_reducible assumption) | (with_reducible refine Below.alloc ?_ ?_ _) | (with_reducible refine Below.setCell ?_ ?_ _) | (with_reducible refine Below.drew ?_) | (with_reducible refine below_drewN ?_ _) | (with_reducible refine below_via ?_ (by with_reducible assumption) ?_) | omega | (simp; done) | (simp; omega))))
        · have hf := floor_neg1 (iabs_neg ha0) hd (show 0 < iabs a % d by rw [hdv.2]; exact hR)
          rw [hdv.1, hdv.2] at hf
          have HQ := Lib.hid (show val Q = iabs (- (val Q)) from by unfold iabs; split <;> omega)
          have HSN := Lib.hid (show (true && decide (0 < val Q)) = decide (- (val Q) < 0) from by rw [Bool.true_and, decide_eq_decide]; omega)
          have HMOD := Lib.hid hf.2
          have HDIV := Lib.hid hf.1
          clear hdv hs hq0 ha0 hf
          go_wp2_with (go_at_call 38; (with_reducible refine (bigTrim true Q AQ cQ _ (by omega) (HRQ.out.keep (by (repeat' (first | (with_reducible exact Below.refl _ _) | (with_reducible assumption) | (with_reducible refine Below.alloc ?_ ?_ _) | (with_reducible refine Below.setCell ?_ ?_ _) | (with_reducible refine Below.drew ?_) | (with_reducible refine below_drewN ?_ _) | (with_reducible refine below_via ?_ (by with_reducible assumption) ?_) | omega | (simp; done) | (simp; omega))))) HBQ.out HCQ.out hmQ).mono ?_); rintro e w2 ⟨l2, rfl, hk2, ht2, hv2, hb2⟩; generalize hsg : (true && decide (0 < val Q)) = sg; have HSG := Lib.hid hsg; clear hsg; have Hv2 := Lib.hid hv2; clear hv2; have Hk2 := Lib.hid hk2; clear hk2; obtain ⟨fc2, fg2, hc2, hf2, hz2⟩ := bget hb2; (try simp at hz2))
          have hB := trim_big ((HRQ.out.keep (by (repeat' (first | (with_reducible exact Below.refl _ _) | (with_reducible assumption) | (with_reducible refine Below.alloc ?_ ?_ _) | (with_reducible refine Below.setCell ?_ ?_ _) | (with_reducible refine Below.drew ?_) | (with_reducible refine below_drewN ?_ _) | (with_reducible refine below_via ?_ (by with_reducible assumption) ?_) | omega | (simp; done) | (simp; omega))))).keep hb2) HBQ.out Hk2.out ht2 Hv2.out HQ.out HCQ.out hmQ (HSG.out.symm.trans HSN.out)
          have hl2 := trim_len Hk2.out
          have hB2 := hB.keep ((Below.refl w2.heap.size w2).alloc (Nat.le_refl _) (.cells #[.bool sg, .slice AQ l2.length cQ] 46))
          have HB2 := Lib.hid hB2
          clear hB hB2
          go_region_with (first | (go_at_call 33; (with_reducible refine (bigNat 1 _ (by omega) (by omega)).mono ?_); rintro e w5 ⟨A5, l5, c5, rfl, hB5, hl5, hb5⟩; have HB5 := Lib.hid hB5; clear hB5; obtain ⟨fc5, fg5, hc5, hf5, hz5⟩ := bget hb5; (try simp at hz5)) | (go_at_call 50; (with_reducible refine (bigSub (- (val Q)) 1 sg false l2 l5 AQ A5 cQ c5 (L + 64) _ (by omega) (by omega) (by omega) (HB2.out.keep (by (repeat' (first | (with_reducible exact Below.refl _ _) | (with_reducible assumption) | (with_reducible refine Below.alloc ?_ ?_ _) | (with_reducible refine Below.setCell ?_ ?_ _) | (with_reducible refine Below.drew ?_) | (with_reducible refine below_drewN ?_ _) | (with_reducible refine below_via ?_ (by with_reducible assumption) ?_) | omega | (simp; done) | (simp; omega))))) (HB5.out.keep (by (repeat' (first | (with_reducible exact Below.refl _ _) | (with_reducible assumption) | (with_reducible refine Below.alloc ?_ ?_ _) | (with_reducible refine Below.setCell ?_ ?_ _) | (with_reducible refine Below.drew ?_) | (with_reducible refine below_drewN ?_ _) | (with_reducible refine below_via ?_ (by with_reducible assumption) ?_) | omega | (simp; done) | (simp; omega)))))).mono ?_); rintro e w6 ⟨s6, A6, l6, c6, rfl, hB6, hl6, hb6⟩; have HB6 := Lib.hid hB6; clear hB6; obtain ⟨fc6, fg6, hc6, hf6, hz6⟩ := bget hb6; (try simp at hz6)) | fail)
          all_goals
            go_wp2_with fail
            have k0 : w6.cell? ⟨w.heap.size + 1, 0, none⟩ = some (.bool false) := by simp [go_sem, hc6, hc5, hc2, r0, ↓IntWalk.iteOmega]
            have k1 : w6.cell? ⟨w.heap.size + 1, 1, none⟩ = some (.slice none 0 0) := by simp [go_sem, hc6, hc5, hc2, r1, ↓IntWalk.iteOmega]
            have o0 : w6.cell? ⟨w2.heap.size, 0, none⟩ = some (.bool sg) := by simp [go_sem, hc6, hc5, ↓IntWalk.iteOmega]
            have o1 : w6.cell? ⟨w2.heap.size, 1, none⟩ = some (.slice AQ l2.length cQ) := by simp [go_sem, hc6, hc5, ↓IntWalk.iteOmega]
            have hB7 : IsBig w6 (a / d) s6 A6 l6 c6 := by rw [HDIV.out, show -(val Q + 1) = -(val Q) - 1 by omega]; exact HB6.out
            refine bodyPost_ret (v := .tuple #[.agg #[.bool s6, .slice A6 l6.length c6], .int .u64 (d - R)]) (by simp [results, Try.results37, go_sem, k0, k1]; try rfl) rfl ⟨_, A6, l6, c6, by rw [HMOD.out], (((hB7.far o0 (by simp) _).far ((World.cell?_setCell_other _ _ _ _ (by simp)).trans o1) (by simp) _).far ((World.cell?_setCell_other _ _ _ _ (by simp)).trans ((World.cell?_setCell_other _ _ _ _ (by simp)).trans k0)) (by simp) _).far ((World.cell?_setCell_other _ _ _ _ (by simp)).trans ((World.cell?_setCell_other _ _ _ _ (by simp)).trans ((World.cell?_setCell_other _ _ _ _ (by simp)).trans k1))) (by simp) _, by omega, ?_⟩
            (have hbw := Hbw.out; (repeat' (first | (with_reducible exact Below.refl _ _) | (with_reducible assumption) | (with_reducible refine Below.alloc ?_ ?_ _) | (with_reducible refine Below.setCell ?_ ?_ _) | (with_reducible refine Below.drew ?_) | (with_reducible refine below_drewN ?_ _) | (with_reducible refine below_via ?_ (by with_reducible assumption) ?_) | omega | (simp; done) | (simp; omega))))
    · have k0 : 0 < k := by omega
      have d0 : decide ((0 : Int) < (k : Int)) = true := by simpa using (show (0 : Int) < k from by omega)
      obtain ⟨bb, bo, rfl, hbb, q1⟩ := bit_cell HA.out.rd Hbw.out (Nat.le_refl _) (show k - 1 < la.length from by omega)
      have hx := bit_get HA.out.bit (k - 1)
      have HP := Lib.hid (val_drop_pred k0 hk)
      obtain ⟨x, hxe⟩ : ∃ x, x = la.getD (k - 1) 0 := ⟨_, rfl⟩
      rw [← hxe] at q1 hx HP
      clear hxe
      by_cases hge : d ≤ 2 * R + x
      · have g1 : decide (d ≤ 2 * R + x) = true := by simpa using hge
        go_wp2_with (first | ((at_builtin; refine wpList_app rfl _ _ _ rfl elB wr.heap.size _ _ rfl ((Own.nil wr wr.heap.size 5 1).alloc _) (some ⟨wr.heap.size, 0, none⟩) 1 1 rfl [encB 1] rfl (fun h => by cases h) rd_one ((by simp [encB]; rfl)) (by unfold maxLen; first | (simp; done) | omega | (simp; omega)) (by first | (simp; done) | omega | (simp; omega)) (by first | omega | (simp; done) | (simp; omega)) ?_; intro v' w3 hown3 hb3); obtain ⟨fc3, fg3, hc3, hf3, hz3⟩ := bget hb3; (try simp at hz3)) | (at_builtin; refine wpList_any rfl _ _ _ rfl elB wr.heap.size _ _ rfl hown3 AQ Q.length cQ rfl (Q.map encB) (by simp) (HRQ.out.keep (by (repeat' (first | (with_reducible exact Below.refl _ _) | (with_reducible assumption) | (with_reducible refine Below.alloc ?_ ?_ _) | (with_reducible refine Below.setCell ?_ ?_ _) | (with_reducible refine Below.drew ?_) | (with_reducible refine below_drewN ?_ _) | (with_reducible refine below_via ?_ (by with_reducible assumption) ?_) | omega | (simp; done) | (simp; omega))))) (encB_one Q) (by unfold maxLen; first | (simp; done) | omega | (simp; omega)) (by first | (simp; done) | omega | (simp; omega)) (by have := hb3.size; simp at this; omega) ?_; intro v4 w4 hown4 hb4; have hown5 : Own w4 wr.heap.size 5 1 v4 ((1 :: Q).map encB) := (by simpa [encB] using hown4); have HO5 := Lib.hid hown5; have Hb4 := Lib.hid (show Below wr.heap.size wr w4 from (by (repeat' (first | (with_reducible exact Below.refl _ _) | (with_reducible assumption) | (with_reducible refine Below.alloc ?_ ?_ _) | (with_reducible refine Below.setCell ?_ ?_ _) | (with_reducible refine Below.drew ?_) | (with_reducible refine below_drewN ?_ _) | (with_reducible refine below_via ?_ (by with_reducible assumption) ?_) | omega | (simp; done) | (simp; omega))))); clear hown4 hown5 hb3 hb4) | fail)
        go_roundw
        case rel => exact ⟨k - 1, 1 :: Q, 2 * R + x - d, by omega, by go_num, by go_num, by omega, by omega, HO5.out.mono (by omega), by simp; omega, bit_cons HBQ.out (by omega) (by omega), quo_step HVQ.out HP.out (by omega), Hbl.out.trans (Hb4.out.mono (by omega))⟩
        case measure => simp [intOf]; omega
      · have g1 : decide (d ≤ 2 * R + x) = false := by simpa using hge
        go_wp2_with (first | ((at_builtin; refine wpList_app rfl _ _ _ rfl elB wr.heap.size _ _ rfl ((Own.nil wr wr.heap.size 5 1).alloc _) (some ⟨wr.heap.size, 0, none⟩) 1 1 rfl [encB 0] rfl (fun h => by cases h) rd_one ((by simp [encB]; rfl)) (by unfold maxLen; first | (simp; done) | omega | (simp; omega)) (by first | (simp; done) | omega | (simp; omega)) (by first | omega | (simp; done) | (simp; omega)) ?_; intro v' w3 hown3 hb3); obtain ⟨fc3, fg3, hc3, hf3, hz3⟩ := bget hb3; (try simp at hz3)) | (at_builtin; refine wpList_any rfl _ _ _ rfl elB wr.heap.size _ _ rfl hown3 AQ Q.length cQ rfl (Q.map encB) (by simp) (HRQ.out.keep (by (repeat' (first | (with_reducible exact Below.refl _ _) | (with_reducible assumption) | (with_reducible refine Below.alloc ?_ ?_ _) | (with_reducible refine Below.setCell ?_ ?_ _) | (with_reducible refine Below.drew ?_) | (with_reducible refine below_drewN ?_ _) | (with_reducible refine below_via ?_ (by with_reducible assumption) ?_) | omega | (simp; done) | (simp; omega))))) (encB_one Q) (by unfold maxLen; first | (simp; done) | omega | (simp; omega)) (by first | (simp; done) | omega | (simp; omega)) (by have := hb3.size; simp at this; omega) ?_; intro v4 w4 hown4 hb4; have hown5 : Own w4 wr.heap.size 5 1 v4 ((0 :: Q).map encB) := (by simpa [encB] using hown4); have HO5 := Lib.hid hown5; have Hb4 := Lib.hid (show Below wr.heap.size wr w4 from (by (repeat' (first | (with_reducible exact Below.refl _ _) | (with_reducible assumption) | (with_reducible refine Below.alloc ?_ ?_ _) | (with_reducible refine Below.setCell ?_ ?_ _) | (with_reducible refine Below.drew ?_) | (with_reducible refine below_drewN ?_ _) | (with_reducible refine below_via ?_ (by with_reducible assumption) ?_) | omega | (simp; done) | (simp; omega))))); clear hown4 hown5 hb3 hb4) | fail)
        go_roundw
        case rel => exact ⟨k - 1, 0 :: Q, 2 * R + x, by omega, by go_num, by go_num, by omega, by omega, HO5.out.mono (by omega), by simp; omega, bit_cons HBQ.out (by omega) (by omega), quo_step HVQ.out HP.out (by omega), Hbl.out.trans (Hb4.out.mono (by omega))⟩
        case measure => simp [intOf]; omega
end Go.Proofs.Ytalgfpegaobacaa

/- The law FixScales: its walk. -/
namespace Go.Proofs.Ytalgfpegaobacaa
open Go.RowKit
/-- The least number whose product is not below. -/
def upOf (p d : Int) : Int := if 0 < p % d then p / d + 1 else p / d
theorem narrowOk (u : Int) (w : World) (h : In128 u) : Calls Try.prog 29 #[(.agg #[.int .i64 (whi (u)), .int .u64 (wlo (u))]), .int .i64 0] w fun e w' => e = .returned (.tuple #[.int .i64 (okN u), .int .i64 (okE u)]) ∧ Below w.heap.size w w' := by
  by_cases h64 : In64 u
  · have hk := okN_yes h64
    rw [hk.1, hk.2]
    exact narrowYes u w h64
  · have hk := okN_no h64
    rw [hk.1, hk.2]
    exact narrowNo u w h h64
end Go.Proofs.Ytalgfpegaobacaa

/- Layer 2: the reference's Sum, Product; fix.Product. -/
namespace Go.Proofs.Ytalgfpegaobacaa
open Go.RowKit
theorem isBig_nil2 {w : World} : IsBig w 0 false none [] 0 := ⟨fun i r hr => by simp at hr, bit_nil, top_nil, rfl, by simp, by simp, rfl⟩
theorem sum_take1 (l : List Int) (k : Nat) (h : k < l.length) : (l.take (k + 1)).sum = (l.take k).sum + l[k] := by
  rw [List.take_succ_eq_append_getElem h, List.sum_append]; simp
def prodF : Int → List Int → Option Int
  | a, [] => some a
  | a, x :: l => if in64 (a * x) then prodF (a * x) l else none
theorem prodF_step {l : List Int} {k : Nat} (h : k < l.length) (p : Int) : prodF p (l.drop k) = if in64 (p * l[k]) then prodF (p * l[k]) (l.drop (k + 1)) else none := by
  rw [List.drop_eq_getElem_cons h]; rfl
theorem prodF_end {l : List Int} {k : Nat} (h : ¬ k < l.length) (p : Int) : prodF p (l.drop k) = some p := by
  rw [List.drop_eq_nil_of_le (by omega)]; rfl
theorem big64_len {w : World} {p : Int} {s : Bool} {A : Option Addr} {l : List Int} {c : Nat} (h : IsBig w p s A l c) (hp : In64 p) : l.length ≤ 64 := by
  refine len_le h.bit h.top (k := 64) ?_
  rw [h.val]
  have : pw 64 = 18446744073709551616 := by decide
  rw [this]
  unfold In64 at hp
  unfold iabs; split <;> omega
def prN (l : List Int) : Int := (prodF 1 l).getD 0
def prE (l : List Int) : Int := if (prodF 1 l).isSome then 0 else 7
set_option maxRecDepth 100000 in
set_option maxHeartbeats 8000000 in
theorem fixProduct (l : List Int) (A : Option Addr) (c : Nat) (w : World) (h40 : l.length ≤ 40) (hin : ∀ n ∈ l, In64 n) (hr : Rd w A 1 (l.map encI)) :
    Calls Try.prog 41 #[.slice A l.length c] w fun e w' => e = .returned (.tuple #[.int .i64 (prN l), .int .i64 (prE l)]) ∧ Below w.heap.size w w' := by
  have HR := Lib.hid hr
  have HIN := Lib.hid hin
  clear hr hin
  go_enter Try.func41, Try.ntmps41
  go_wp2_with fail
  go_loopw [4, 11] (fun v i wr => ∃ (k : Nat) (p : Int), k ≤ l.length ∧ i = .int .i64 k ∧ v = .int .i64 p ∧ In64 p ∧ prodF 1 l = prodF p (l.drop k) ∧ Below w.heap.size w wr) (fun _ i _ => l.length - (intOf i).toNat)
  case atStart => exact ⟨0, 1, Nat.zero_le _, rfl, rfl, by unfold In64; omega, rfl, by (repeat' (first | (with_reducible exact Below.refl _ _) | (with_reducible assumption) | (with_reducible refine Below.alloc ?_ ?_ _) | (with_reducible refine Below.setCell ?_ ?_ _) | (with_reducible refine Below.drew ?_) | (with_reducible refine below_drewN ?_ _) | (with_reducible refine below_via ?_ (by with_reducible assumption) ?_) | omega | (simp; done) | (simp; omega)))⟩
  case round =>
    obtain ⟨k, p, hk, rfl, rfl, hp, hpr, hbl⟩ := hrel
    have hz := hbl.size
    have Hbl := Lib.hid hbl
    clear hbl
    by_cases hlt : k < l.length
    · have d2 : decide ((k : Int) < (l.length : Int)) = true := by simpa using hlt
      rw [prodF_step hlt] at hpr
      obtain ⟨b, o, hA, hb, q⟩ := HR.out k (encI l[k]) (by simp [hlt])
      have q0 := (Hbl.out.cell (p := ⟨b, o + k * 1 + 0, none⟩) (hb)).trans (q 0 _ rfl)
      have hx := HIN.out l[k] (List.getElem_mem hlt)
      obtain ⟨x, hxe⟩ : ∃ x, x = l[k] := ⟨_, rfl⟩
      rw [← hxe] at q0 hx
      have hbw : b < wr.heap.size := (by omega)
      simp at q0
      clear q
      cases hA
      rw [← hxe] at hpr
      clear hxe
      have h128 := mul64_128 hp hx
      by_cases h64 : In64 (p * x)
      · rw [in64_iff.2 h64, if_pos rfl] at hpr
        have HPR := Lib.hid hpr
        clear hpr
        go_wp2_with (first | (go_at_call 46; (with_reducible refine (wideMul p x _ hp hx).mono ?_); rintro e w1 ⟨rfl, hb1⟩; obtain ⟨fc1, fg1, hc1, hf1, hz1⟩ := bget hb1; (try simp at hz1)) | (go_at_call 47; (with_reducible refine (wideIntYes (p * x) _ h64).mono ?_); rintro e w2 ⟨rfl, hb2⟩; obtain ⟨fc2, fg2, hc2, hf2, hz2⟩ := bget hb2; (try simp at hz2)) | fail)
        go_roundw
        case rel => exact ⟨k + 1, p * x, by omega, by go_num, rfl, h64, HPR.out, by (have hbl := Hbl.out; (repeat' (first | (with_reducible exact Below.refl _ _) | (with_reducible assumption) | (with_reducible refine Below.alloc ?_ ?_ _) | (with_reducible refine Below.setCell ?_ ?_ _) | (with_reducible refine Below.drew ?_) | (with_reducible refine below_drewN ?_ _) | (with_reducible refine below_via ?_ (by with_reducible assumption) ?_) | omega | (simp; done) | (simp; omega))))⟩
        case measure => (simp [intOf]; omega)
      · rw [in64_not' h64, if_neg (by simp)] at hpr
        have HPN := Lib.hid (show prN l = 0 from by unfold prN; rw [hpr]; rfl)
        have HPE := Lib.hid (show prE l = 7 from by unfold prE; rw [hpr]; rfl)
        clear hpr
        go_wp2_with (first | (go_at_call 46; (with_reducible refine (wideMul p x _ hp hx).mono ?_); rintro e w1 ⟨rfl, hb1⟩; obtain ⟨fc1, fg1, hc1, hf1, hz1⟩ := bget hb1; (try simp at hz1)) | (go_at_call 47; (with_reducible refine (wideIntNo (p * x) _ h128 h64).mono ?_); rintro e w2 ⟨rfl, hb2⟩; obtain ⟨fc2, fg2, hc2, hf2, hz2⟩ := bget hb2; (try simp at hz2)) | fail)
        go_ret2
        exact ⟨by rw [HPN.out, HPE.out]; first | done | rfl, by (have hbl := Hbl.out; (repeat' (first | (with_reducible exact Below.refl _ _) | (with_reducible assumption) | (with_reducible refine Below.alloc ?_ ?_ _) | (with_reducible refine Below.setCell ?_ ?_ _) | (with_reducible refine Below.drew ?_) | (with_reducible refine below_drewN ?_ _) | (with_reducible refine below_via ?_ (by with_reducible assumption) ?_) | omega | (simp; done) | (simp; omega))))⟩
    · have d2 : decide ((k : Int) < (l.length : Int)) = false := by simpa using hlt
      rw [prodF_end hlt] at hpr
      have HPN := Lib.hid (show prN l = p from by unfold prN; rw [hpr]; rfl)
      have HPE := Lib.hid (show prE l = 0 from by unfold prE; rw [hpr]; rfl)
      clear hpr
      go_wp2_with fail
      go_ret2
      exact ⟨by rw [HPN.out, HPE.out]; first | done | rfl, by (have hbl := Hbl.out; (repeat' (first | (with_reducible exact Below.refl _ _) | (with_reducible assumption) | (with_reducible refine Below.alloc ?_ ?_ _) | (with_reducible refine Below.setCell ?_ ?_ _) | (with_reducible refine Below.drew ?_) | (with_reducible refine below_drewN ?_ _) | (with_reducible refine below_via ?_ (by with_reducible assumption) ?_) | omega | (simp; done) | (simp; omega))))⟩
end Go.Proofs.Ytalgfpegaobacaa

/- Assets: asset.Worth, Count, Sell, and the reference's. -/
namespace Go.Proofs.Ytalgfpegaobacaa
open Go.RowKit
theorem rd_ints2 {w : World} {g : Nat} {x y : Int} (hg : g < w.heap.size) (h0 : w.cell? ⟨g, 0, none⟩ = some (.int .i64 x)) (h1 : w.cell? ⟨g, 1, none⟩ = some (.int .i64 y)) : Rd w (some ⟨g, 0, none⟩) 1 ([x, y].map encI) := by
  intro i r hr
  match i, hr with
  | 0, hr =>
    simp at hr
    subst hr
    refine ⟨g, 0, rfl, hg, fun j v hv => ?_⟩
    match j, hv with
    | 0, hv => simp [encI] at hv; subst hv; simpa using h0
  | 1, hr =>
    simp at hr
    subst hr
    refine ⟨g, 0, rfl, hg, fun j v hv => ?_⟩
    match j, hv with
    | 0, hv => simp [encI] at hv; subst hv; simpa using h1
theorem pr2 {x y : Int} (hx : In64 x) : prN [x, y] = okN (x * y) ∧ prE [x, y] = okE (x * y) := by
  have e : prodF 1 [x, y] = if in64 (x * y) then some (x * y) else none := by
    have h1 : in64 (1 * x) = true := in64_iff.2 (by rw [Int.one_mul]; exact hx)
    unfold prodF
    rw [if_pos h1, Int.one_mul]
    rfl
  unfold prN prE okN okE
  rw [e]
  by_cases h : in64 (x * y) = true
  · rw [if_pos h, if_pos h, if_pos h]; exact ⟨rfl, rfl⟩
  · rw [if_neg h, if_neg h, if_neg h]; exact ⟨rfl, rfl⟩
theorem fixProd2 (x y : Int) (g : Nat) (w : World) (hx : In64 x) (hy : In64 y) (hg : g < w.heap.size) (h0 : w.cell? ⟨g, 0, none⟩ = some (.int .i64 x)) (h1 : w.cell? ⟨g, 1, none⟩ = some (.int .i64 y)) :
    Calls Try.prog 41 #[.slice (some ⟨g, 0, none⟩) 2 2] w fun e w' => e = .returned (.tuple #[.int .i64 (okN (x * y)), .int .i64 (okE (x * y))]) ∧ Below w.heap.size w w' := by
  have h := fixProduct [x, y] (some ⟨g, 0, none⟩) 2 w (by simp) (by intro n hn; simp at hn; rcases hn with rfl | rfl <;> assumption) (rd_ints2 hg h0 h1)
  rw [(pr2 hx).1, (pr2 hx).2] at h
  exact h
theorem okA_in {x : Asset} (h : okA x) : In64 x.price ∧ In64 (10000 - x.hair) := by
  unfold okA at h; unfold In64; omega
def worthN (x : Asset) (q : Int) : Int := if okA x then okN (q * x.price) else 0
def worthE (x : Asset) (q : Int) : Int := if okA x then okE (q * x.price) else 2
set_option maxRecDepth 100000 in
set_option maxHeartbeats 4000000 in
theorem assetWorth (x : Asset) (q : Int) (w : World) (hq : In64 q) : Calls Try.prog 22 #[.agg #[.int .i64 x.id, .int .i64 x.price, .int .i64 x.hair], .int .i64 q] w fun e w' => e = .returned (.tuple #[.int .i64 (worthN x q), .int .i64 (worthE x q)]) ∧ Below w.heap.size w w' := by
  have c1 := fun W => assetCheck x W
  by_cases h : okA x
  · rw [show worthN x q = okN (q * x.price) from if_pos h, show worthE x q = okE (q * x.price) from if_pos h]
    rw [codeA_yes h] at c1
    have hp := (okA_in h).1
    have C1 := Lib.hid c1
    clear c1 h
    go_enter Try.func22, Try.ntmps22
    go_wp2_with (first | (go_at_call 26; (with_reducible refine (C1.out _).mono ?_); rintro e w1 ⟨rfl, hb1⟩; obtain ⟨fc1, fg1, hc1, hf1, hz1⟩ := bget hb1; (try simp at hz1)) | (go_at_call 41; (with_reducible refine (fixProd2 q x.price _ _ hq hp ?_ ?_ ?_).mono ?_); (focus (first | (simp; done) | (simp; omega))); (focus (first | (simp [go_sem]; done) | (simp [go_sem, ↓IntWalk.iteOmega]; done))); (focus (first | (simp [go_sem]; done) | (simp [go_sem, ↓IntWalk.iteOmega]; done))); rintro e w2 ⟨rfl, hb2⟩; obtain ⟨fc2, fg2, hc2, hf2, hz2⟩ := bget hb2; (try simp at hz2)) | fail)
    all_goals
      go_ret2
      exact ⟨rfl, by (repeat' (first | (with_reducible exact Below.refl _ _) | (with_reducible assumption) | (with_reducible refine Below.alloc ?_ ?_ _) | (with_reducible refine Below.setCell ?_ ?_ _) | (with_reducible refine Below.drew ?_) | (with_reducible refine below_drewN ?_ _) | (with_reducible refine below_via ?_ (by with_reducible assumption) ?_) | omega | (simp; done) | (simp; omega)))⟩
  · rw [show worthN x q = 0 from if_neg h, show worthE x q = 2 from if_neg h]
    rw [codeA_no h] at c1
    have C1 := Lib.hid c1
    clear c1 h
    go_enter Try.func22, Try.ntmps22
    go_wp2_with (first | (go_at_call 26; (with_reducible refine (C1.out _).mono ?_); rintro e w1 ⟨rfl, hb1⟩; obtain ⟨fc1, fg1, hc1, hf1, hz1⟩ := bget hb1; (try simp at hz1)) | fail)
    go_ret2
    exact ⟨rfl, by (repeat' (first | (with_reducible exact Below.refl _ _) | (with_reducible assumption) | (with_reducible refine Below.alloc ?_ ?_ _) | (with_reducible refine Below.setCell ?_ ?_ _) | (with_reducible refine Below.drew ?_) | (with_reducible refine below_drewN ?_ _) | (with_reducible refine below_via ?_ (by with_reducible assumption) ?_) | omega | (simp; done) | (simp; omega)))⟩
def countN (x : Asset) (q : Int) : Int := if okA x ∧ 0 ≤ q ∧ in64 (q * x.price) = true then countA x q else 0
def countE (x : Asset) (q : Int) : Int := if okA x then (if q < 0 then 2 else okE (q * x.price)) else 2
set_option maxRecDepth 100000 in
set_option maxHeartbeats 4000000 in
theorem assetCount (x : Asset) (q : Int) (w : World) (hq : In64 q) : Calls Try.prog 12 #[.agg #[.int .i64 x.id, .int .i64 x.price, .int .i64 x.hair], .int .i64 q] w fun e w' => e = .returned (.tuple #[.int .i64 (countN x q), .int .i64 (countE x q)]) ∧ Below w.heap.size w w' := by
  have c1 := fun W => assetCheck x W
  have c2 := fun W => assetWorth x q W hq
  by_cases h : okA x
  · rw [codeA_yes h] at c1
    rw [show worthN x q = okN (q * x.price) from if_pos h, show worthE x q = okE (q * x.price) from if_pos h] at c2
    by_cases h0 : q < 0
    · rw [show countN x q = 0 from if_neg (fun k => absurd k.2.1 (by omega)), show countE x q = 2 from (if_pos h).trans (if_pos h0)]
      have d0 : decide (q < 0) = true := by simpa using h0
      generalize okN (q * x.price) = wn at c2
      generalize okE (q * x.price) = we at c2
      have C1 := Lib.hid c1
      have C2 := Lib.hid c2
      clear c1 c2 h
      go_enter Try.func12, Try.ntmps12
      go_wp2_with (first | (go_at_call 26; (with_reducible refine (C1.out _).mono ?_); rintro e w1 ⟨rfl, hb1⟩; obtain ⟨fc1, fg1, hc1, hf1, hz1⟩ := bget hb1; (try simp at hz1)) | (go_at_call 22; (with_reducible refine (C2.out _).mono ?_); rintro e w2 ⟨rfl, hb2⟩; obtain ⟨fc2, fg2, hc2, hf2, hz2⟩ := bget hb2; (try simp at hz2)) | fail)
      all_goals
        go_ret2
        exact ⟨rfl, by (repeat' (first | (with_reducible exact Below.refl _ _) | (with_reducible assumption) | (with_reducible refine Below.alloc ?_ ?_ _) | (with_reducible refine Below.setCell ?_ ?_ _) | (with_reducible refine Below.drew ?_) | (with_reducible refine below_drewN ?_ _) | (with_reducible refine below_via ?_ (by with_reducible assumption) ?_) | omega | (simp; done) | (simp; omega)))⟩
    · have d0 : decide (q < 0) = false := by simpa using h0
      by_cases h64 : In64 (q * x.price)
      · have hok := okA_in h
        have hcl := count_le h (show 0 ≤ q by omega)
        rw [show countN x q = countA x q from if_pos ⟨h, by omega, in64_iff.2 h64⟩, show countE x q = 0 from (if_pos h).trans ((if_neg h0).trans (okN_yes h64).2)]
        rw [(okN_yes h64).1, (okN_yes h64).2] at c2
        have c3 := fun W => fixScaleYes (q * x.price) (10000 - x.hair) 10000 W h64 hok.2 (by omega) (by omega) (by unfold countA at hcl; unfold In64 at h64 ⊢; omega)
        rw [show q * x.price * (10000 - x.hair) / 10000 = countA x q from rfl] at c3
        generalize q * x.price * (10000 - x.hair) % 10000 = r at c3
        have hh : 0 ≤ x.hair ∧ x.hair ≤ 10000 := ⟨h.2.2.2.2.1, h.2.2.2.2.2⟩
        clear hcl hok
        generalize countA x q = n at c3 ⊢
        generalize q * x.price = wn at c2 c3
        have C1 := Lib.hid c1
        have C2 := Lib.hid c2
        have C3 := Lib.hid c3
        clear c1 c2 c3 h h64
        go_enter Try.func12, Try.ntmps12
        go_wp2_with (first | (go_at_call 26; (with_reducible refine (C1.out _).mono ?_); rintro e w1 ⟨rfl, hb1⟩; obtain ⟨fc1, fg1, hc1, hf1, hz1⟩ := bget hb1; (try simp at hz1)) | (go_at_call 22; (with_reducible refine (C2.out _).mono ?_); rintro e w2 ⟨rfl, hb2⟩; obtain ⟨fc2, fg2, hc2, hf2, hz2⟩ := bget hb2; (try simp at hz2)) | (go_at_call 27; (with_reducible refine (C3.out _).mono ?_); rintro e w3 ⟨rfl, hb3⟩; obtain ⟨fc3, fg3, hc3, hf3, hz3⟩ := bget hb3; (try simp at hz3)) | fail)
        all_goals
          go_ret2
          exact ⟨rfl, by (repeat' (first | (with_reducible exact Below.refl _ _) | (with_reducible assumption) | (with_reducible refine Below.alloc ?_ ?_ _) | (with_reducible refine Below.setCell ?_ ?_ _) | (with_reducible refine Below.drew ?_) | (with_reducible refine below_drewN ?_ _) | (with_reducible refine below_via ?_ (by with_reducible assumption) ?_) | omega | (simp; done) | (simp; omega)))⟩
      · rw [show countN x q = 0 from if_neg (fun k => h64 (in64_iff.1 k.2.2)), show countE x q = 7 from (if_pos h).trans ((if_neg h0).trans (okN_no h64).2)]
        rw [(okN_no h64).1, (okN_no h64).2] at c2
        have C1 := Lib.hid c1
        have C2 := Lib.hid c2
        clear c1 c2 h h64
        go_enter Try.func12, Try.ntmps12
        go_wp2_with (first | (go_at_call 26; (with_reducible refine (C1.out _).mono ?_); rintro e w1 ⟨rfl, hb1⟩; obtain ⟨fc1, fg1, hc1, hf1, hz1⟩ := bget hb1; (try simp at hz1)) | (go_at_call 22; (with_reducible refine (C2.out _).mono ?_); rintro e w2 ⟨rfl, hb2⟩; obtain ⟨fc2, fg2, hc2, hf2, hz2⟩ := bget hb2; (try simp at hz2)) | fail)
        all_goals
          go_ret2
          exact ⟨rfl, by (repeat' (first | (with_reducible exact Below.refl _ _) | (with_reducible assumption) | (with_reducible refine Below.alloc ?_ ?_ _) | (with_reducible refine Below.setCell ?_ ?_ _) | (with_reducible refine Below.drew ?_) | (with_reducible refine below_drewN ?_ _) | (with_reducible refine below_via ?_ (by with_reducible assumption) ?_) | omega | (simp; done) | (simp; omega)))⟩
  · rw [codeA_no h] at c1
    rw [show worthN x q = 0 from if_neg h, show worthE x q = 2 from if_neg h] at c2
    rw [show countN x q = 0 from if_neg (fun k => h k.1), show countE x q = 2 from if_neg h]
    have C1 := Lib.hid c1
    have C2 := Lib.hid c2
    clear c1 c2 h
    go_enter Try.func12, Try.ntmps12
    go_wp2_with (first | (go_at_call 26; (with_reducible refine (C1.out _).mono ?_); rintro e w1 ⟨rfl, hb1⟩; obtain ⟨fc1, fg1, hc1, hf1, hz1⟩ := bget hb1; (try simp at hz1)) | (go_at_call 22; (with_reducible refine (C2.out _).mono ?_); rintro e w2 ⟨rfl, hb2⟩; obtain ⟨fc2, fg2, hc2, hf2, hz2⟩ := bget hb2; (try simp at hz2)) | fail)
    all_goals
      go_ret2
      exact ⟨rfl, by (repeat' (first | (with_reducible exact Below.refl _ _) | (with_reducible assumption) | (with_reducible refine Below.alloc ?_ ?_ _) | (with_reducible refine Below.setCell ?_ ?_ _) | (with_reducible refine Below.drew ?_) | (with_reducible refine below_drewN ?_ _) | (with_reducible refine below_via ?_ (by with_reducible assumption) ?_) | omega | (simp; done) | (simp; omega)))⟩
def sellN (x : Asset) (a : Int) : Int := if okA x ∧ 0 < a ∧ 0 < x.price then upOf a x.price else 0
def sellE (x : Asset) (a : Int) : Int := if okA x then (if 0 < a then (if 0 < x.price then 0 else 8) else 0) else 2
theorem upOf_in {a p : Int} (ha : In64 a) (h0 : 0 < a) (hp : 0 < p) : In64 (upOf a p) := by
  unfold In64 at ha
  unfold upOf In64
  have h1 : 0 ≤ a / p := Int.ediv_nonneg (by omega) (by omega)
  have h2 := Int.ediv_le_self p (show 0 ≤ a by omega)
  by_cases e : p = 1
  · subst e; rw [Int.emod_one]; simp; omega
  · have h3 : a / p < a := Int.ediv_lt_of_lt_mul hp (by
      have : a * 1 < a * p := Int.mul_lt_mul_of_pos_left (by omega) h0
      omega)
    split <;> omega
end Go.Proofs.Ytalgfpegaobacaa

/- A store into a slice of the call's own. No program in sight. -/
namespace Go.Proofs.Ytalgfpegaobacaa
open Go.RowKit
theorem flatten_set {k : Nat} : ∀ {rows : List (List Value)} (_ : ∀ r ∈ rows, r.length = k) {i : Nat} {r : List Value} (_ : rows[i]? = some r) {j : Nat} (_ : j < k) (u : Value), rows.flatten.set (i * k + j) u = (rows.set i (r.set j u)).flatten
  | [], _, i, r, hi, j, _, u => by simp at hi
  | a :: rows, hl, 0, r, hi, j, hj, u => by
    simp at hi; subst hi
    have : j < a.length := by rw [hl a (by simp)]; exact hj
    simp [List.set_append_left _ _ this]
  | a :: rows, hl, i + 1, r, hi, j, hj, u => by
    have ha := hl a (by simp)
    have := flatten_set (rows := rows) (fun r hr => hl r (by simp [hr])) (i := i) (r := r) (by simpa using hi) hj u
    rw [List.flatten_cons, List.set_append_right _ _ (by rw [ha, Nat.add_mul]; omega), ha, List.set_cons_succ, List.flatten_cons, ← this]
    congr 2
    rw [Nat.add_mul]; omega
theorem Own.put {w : World} {base E k : Nat} {v : Value} {rows : List (List Value)} (h : Own w base E k v rows) {g n c : Nat} (hv : v = .slice (some ⟨g, 0, none⟩) n c) {i : Nat} {r : List Value} (hi : rows[i]? = some r) {j : Nat} (hj : j < k) (u : Value) :
    Own (w.setCell ⟨g, i * k + j, none⟩ u) base E k v (rows.set i (r.set j u)) := by
  have hrl := h.1 r (List.mem_of_getElem? hi)
  have hall : ∀ x ∈ rows.set i (r.set j u), x.length = k := fun x hx => by
    rcases List.mem_or_eq_of_mem_set hx with h1 | h1
    · exact h.1 x h1
    · rw [h1, List.length_set]; exact hrl
  refine ⟨hall, ?_, ?_⟩
  · rw [flatten_length hall]
  · rcases h.2.2 with ⟨h1, _⟩ | ⟨g', cap, cur, h1, hg, hh, hc, hm, hs, ht⟩
    · rw [hv] at h1; cases h1
    · rw [hv] at h1
      injection h1 with e1 e2 e3
      injection e1 with e1
      injection e1 with e1 _ _
      subst e1
      refine .inr ⟨g, cap, cur.setIfInBounds (i * k + j) u, by rw [hv, List.length_set, ← e2, e3], hg, Blk.set (t := E) hh _ u, by rw [List.length_set]; exact hc, hm, by simpa using hs, ?_⟩
      rw [← flatten_set h.1 hi hj u, ← ht, List.length_set, Array.toList_setIfInBounds, List.take_set]
theorem Own.put4 {w : World} {base E : Nat} {v : Value} {rows : List (List Value)} (h : Own w base E 4 v rows) {g n c : Nat} (hv : v = .slice (some ⟨g, 0, none⟩) n c) {i : Nat} (hi : i < rows.length) (a b x d : Value) :
    Own ((((w.setCell ⟨g, i * 4, none⟩ a).setCell ⟨g, i * 4 + 1, none⟩ b).setCell ⟨g, i * 4 + 2, none⟩ x).setCell ⟨g, i * 4 + 3, none⟩ d) base E 4 v (rows.set i [a, b, x, d]) := by
  have hr := h.1 _ (List.getElem_mem hi)
  obtain ⟨p, q, r, t, he⟩ : ∃ p q r t, rows[i] = [p, q, r, t] := by
    match h4 : rows[i], hr with
    | [p, q, r, t], _ => exact ⟨p, q, r, t, rfl⟩
  have h1 := h.put hv (List.getElem?_eq_getElem hi) (show 0 < 4 from by omega) a
  have h2 := h1.put hv (List.getElem?_set_self (by simpa using hi)) (show 1 < 4 from by omega) b
  have h3 := h2.put hv (List.getElem?_set_self (by simpa using hi)) (show 2 < 4 from by omega) x
  have h4 := h3.put hv (List.getElem?_set_self (by simpa using hi)) (show 3 < 4 from by omega) d
  simp only [List.set_set, he, List.set_cons_zero, List.set_cons_succ, Nat.add_zero] at h4
  exact h4
theorem Own.blk {w : World} {base E k : Nat} {v : Value} {rows : List (List Value)} (h : Own w base E k v rows) {g n c : Nat} (hv : v = .slice (some ⟨g, 0, none⟩) n c) : ∃ cur, Blk w g E cur := by
  rcases h.2.2 with ⟨h1, _⟩ | ⟨g', cap, cur, h1, hg, hh, _⟩
  · rw [hv] at h1; cases h1
  · rw [hv] at h1
    injection h1 with e1 e2 e3
    injection e1 with e1
    injection e1 with e1 _ _
    subst e1
    exact ⟨cur, hh⟩
end Go.Proofs.Ytalgfpegaobacaa
