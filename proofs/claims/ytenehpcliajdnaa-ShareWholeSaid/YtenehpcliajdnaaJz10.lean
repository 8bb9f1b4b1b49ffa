/- Joined: Big10, Grown. -/
import Derived.Test.YtenehpcliajdnaaJz7
import Derived.Test.YtenehpcliajdnaaJz5
import Derived.Test.YtenehpcliajdnaaJz8
/- The contract of the reference's Div. -/
namespace Go.Proofs.Ytenehpcliajdnaa
open Go.RowKit
def DivPost (w : World) (q r : Int) (L : Nat) (e : Ending) (w' : World) : Prop :=
  ∃ s A l c, e = .returned (.tuple #[.agg #[.bool s, .slice A l.length c], .int .u64 r]) ∧ IsBig w' q s A l c ∧ l.length ≤ L ∧ Below w.heap.size w w'
theorem divs_of {q d r m : Int} (h : q * d + r = m) (h0 : 0 ≤ r) (h1 : r < d) : m / d = q ∧ m % d = r := by
  have e : m / d = q := div_is (by omega) (by rw [Int.add_mul]; omega) (by omega)
  refine ⟨e, ?_⟩
  rw [Int.emod_def, e, Int.mul_comm]; omega
set_option maxRecDepth 100000 in
set_option maxHeartbeats 4000000 in
theorem bigDiv (a d : Int) (sa : Bool) (la : List Int) (A : Option Addr) (c L : Nat) (w : World) (hd : 0 < d) (hd1 : d ≤ 9223372036854775807) (hL : L ≤ 400000) (hla : la.length ≤ L) (ha : IsBig w a sa A la c) :
    Calls Try.prog 52 #[.agg #[.bool sa, .slice A la.length c], .int .u64 d] w (DivPost w (a / d) (a % d) (L + 65)) := by
  have HA := Lib.hid ha
  clear ha
  go_enter Try.func52, Try.ntmps52
  go_wp2_with fail
  go_loopw [6, 7, 8] (fun rv qv i wr => ∃ (k : Nat) (Q : List Int) (R : Int), k ≤ la.length ∧ i = .int .i64 k ∧ rv = .int .u64 R ∧ 0 ≤ R ∧ R < d ∧ Own wr (w.heap.size + 2) 5 1 qv (Q.map encB) ∧ Q.length + k ≤ la.length ∧ Bit Q ∧ val Q * d + R = val (la.drop k) ∧ Below (w.heap.size + 2) ((w.alloc (.cells #[.bool sa, .slice A la.length c] 30)).alloc (.cells #[.bool false, .slice none 0 0] 30)) wr) (fun _ _ i _ => (intOf i).toNat)
  case atStart => exact ⟨la.length, [], 0, Nat.le_refl _, rfl, rfl, by omega, hd, Own.nil _ _ _ _, by simp, bit_nil, by simp [val], Below.refl _ _⟩
  case round =>
    obtain ⟨k, Q, R, hk, rfl, rfl, R0, R1, hoQ, hlQ, hbQ, hvQ, hbl⟩ := hrel
    have hz := hbl.size
    simp at hz
    have a0 := (hbl.cell (p := ⟨w.heap.size, 0, none⟩) (by simp))
    have a1 := (hbl.cell (p := ⟨w.heap.size, 1, none⟩) (by simp))
    have r0 := (hbl.cell (p := ⟨w.heap.size + 1, 0, none⟩) (by simp))
    have r1 := (hbl.cell (p := ⟨w.heap.size + 1, 1, none⟩) (by simp))
    have f0 := (hbl.frozen (p := ⟨w.heap.size + 1, 0, none⟩) (by simp))
    have f1 := (hbl.frozen (p := ⟨w.heap.size + 1, 1, none⟩) (by simp))
    simp [go_sem] at a0 a1 r0 r1 f0 f1
    have hbw : Below w.heap.size w wr := by (repeat' (first | (with_reducible exact Below.refl _ _) | (with_reducible assumption) | (with_reducible refine Below.alloc ?_ ?_ _) | (with_reducible refine Below.setCell ?_ ?_ _) | (with_reducible refine Below.drew ?_) | (with_reducible refine below_drewN ?_ _) | (with_reducible refine below_via ?_ (by with_reducible assumption) ?_) | omega | (simp; done) | (simp; omega)))
    have Hbl := Lib.hid hbl
    have Hbw := Lib.hid hbw
    have HBQ := Lib.hid hbQ
    have HVQ := Lib.hid hvQ
    obtain ⟨AQ, cQ, rfl, hcQ, hmQ, hrQ, _⟩ := hoQ.shape
    have HRQ := Lib.hid hrQ
    have HCQ := Lib.hid hcQ
    have HOQ := Lib.hid hoQ
    rw [List.length_map] at HOQ ⊢
    rw [List.length_map] at HCQ
    clear hbl hbw hbQ hvQ hoQ hrQ hcQ
    by_cases h0 : k = 0
    · subst h0
      have hdv := divs_of HVQ.out R0 R1
      rw [List.drop_zero, HA.out.val] at hdv
      have hs := HA.out.sgn
      have hq0 := val_nonneg HBQ.out
      cases sa
      · have ha0 : 0 ≤ a := by simpa using hs
        rw [iabs_pos ha0] at hdv
        have HQ := Lib.hid (show val Q = iabs (a / d) from by rw [hdv.1, iabs_pos hq0])
        have HSN := Lib.hid (show (false && decide (0 < val Q)) = decide (a / d < 0) from by rw [hdv.1]; simp; exact hq0)
        have HMOD := Lib.hid hdv.2
        clear hdv hs hq0 ha0
        go_wp2_with (go_at_call 46; (with_reducible refine (bigTrim false Q AQ cQ _ (by omega) (HRQ.out.keep (by (repeat' (first | (with_reducible exact Below.refl _ _) | (with_reducible assumption) | (with_reducible refine Below.alloc ?_ ?_ _) | (with_reducible refine Below.setCell ?_ ?_ _) | (with_reducible refine Below.drew ?_) | (with_reducible refine below_drewN ?_ _) | (with_reducible refine below_via ?_ (by with_reducible assumption) ?_) | omega | (simp; done) | (simp; omega))))) HBQ.out HCQ.out hmQ).mono ?_); rintro e w2 ⟨l2, rfl, hk2, ht2, hv2, hb2⟩; generalize hsg : (false && decide (0 < val Q)) = sg; have HSG := Lib.hid hsg; clear hsg; have Hv2 := Lib.hid hv2; clear hv2; have Hk2 := Lib.hid hk2; clear hk2; obtain ⟨fc2, fg2, hc2, hf2, hz2⟩ := bget hb2; (try simp at hz2))
        have hB := trim_big ((HRQ.out.keep (by (repeat' (first | (with_reducible exact Below.refl _ _) | (with_reducible assumption) | (with_reducible refine Below.alloc ?_ ?_ _) | (with_reducible refine Below.setCell ?_ ?_ _) | (with_reducible refine Below.drew ?_) | (with_reducible refine below_drewN ?_ _) | (with_reducible refine below_via ?_ (by with_reducible assumption) ?_) | omega | (simp; done) | (simp; omega))))).keep hb2) HBQ.out Hk2.out ht2 Hv2.out HQ.out HCQ.out hmQ (HSG.out.symm.trans HSN.out)
        have hl2 := trim_len Hk2.out
        have k0 : (w2.alloc (.cells #[.bool sg, .slice AQ l2.length cQ] 30)).cell? ⟨w.heap.size + 1, 0, none⟩ = some (.bool false) := (by simp [go_sem, hc2, r0, ↓IntWalk.iteOmega])
        have k1 : (w2.alloc (.cells #[.bool sg, .slice AQ l2.length cQ] 30)).cell? ⟨w.heap.size + 1, 1, none⟩ = some (.slice none 0 0) := (by simp [go_sem, hc2, r1, ↓IntWalk.iteOmega])
        have hB2 := hB.keep ((Below.refl w2.heap.size w2).alloc (Nat.le_refl _) (.cells #[.bool sg, .slice AQ l2.length cQ] 30))
        refine bodyPost_ret (v := .tuple #[.agg #[.bool sg, .slice AQ l2.length cQ], .int .u64 R]) (by simp [results, Try.results52, go_sem, k0, k1]; try rfl) rfl ⟨_, AQ, l2, cQ, by rw [HMOD.out], (hB2.far k0 (by simp) _).far ((World.cell?_setCell_other _ _ _ _ (by simp)).trans k1) (by simp) _, by omega, ?_⟩
        (have hbw := Hbw.out; (repeat' (first | (with_reducible exact Below.refl _ _) | (with_reducible assumption) | (with_reducible refine Below.alloc ?_ ?_ _) | (with_reducible refine Below.setCell ?_ ?_ _) | (with_reducible refine Below.drew ?_) | (with_reducible refine below_drewN ?_ _) | (with_reducible refine below_via ?_ (by with_reducible assumption) ?_) | omega | (simp; done) | (simp; omega))))
      · have ha0 : a < 0 := by simpa using hs.symm
        rcases (show R = 0 ∨ 0 < R by omega) with hR | hR
        · subst hR
          have hf := floor_neg0 (iabs_neg ha0) hd hdv.2
          rw [hdv.1] at hf
          have HQ := Lib.hid (show val Q = iabs (a / d) from by rw [hf.1]; unfold iabs; split <;> omega)
          have HSN := Lib.hid (show (true && decide (0 < val Q)) = decide (a / d < 0) from by rw [hf.1, Bool.true_and, decide_eq_decide]; omega)
          have HMOD := Lib.hid hf.2
          clear hdv hs hq0 ha0 hf
          go_wp2_with (go_at_call 46; (with_reducible refine (bigTrim true Q AQ cQ _ (by omega) (HRQ.out.keep (by (repeat' (first | (with_reducible exact Below.refl _ _) | (with_reducible assumption) | (with_reducible refine Below.alloc ?_ ?_ _) | (with_reducible refine Below.setCell ?_ ?_ _) | (with_reducible refine Below.drew ?_) | (with_reducible refine below_drewN ?_ _) | (with_reducible refine below_via ?_ (by with_reducible assumption) ?_) | omega | (simp; done) | (simp; omega))))) HBQ.out HCQ.out hmQ).mono ?_); rintro e w2 ⟨l2, rfl, hk2, ht2, hv2, hb2⟩; generalize hsg : (true && decide (0 < val Q)) = sg; have HSG := Lib.hid hsg; clear hsg; have Hv2 := Lib.hid hv2; clear hv2; have Hk2 := Lib.hid hk2; clear hk2; obtain ⟨fc2, fg2, hc2, hf2, hz2⟩ := bget hb2; (try simp at hz2))
          have hB := trim_big ((HRQ.out.keep (by (repeat' (first | (with_reducible exact Below.refl _ _) | (with_reducible assumption) | (with_reducible refine Below.alloc ?_ ?_ _) | (with_reducible refine Below.setCell ?_ ?_ _) | (with_reducible refine Below.drew ?_) | (with_reducible refine below_drewN ?_ _) | (with_reducible refine below_via ?_ (by with_reducible assumption) ?_) | omega | (simp; done) | (simp; omega))))).keep hb2) HBQ.out Hk2.out ht2 Hv2.out HQ.out HCQ.out hmQ (HSG.out.symm.trans HSN.out)
          have hl2 := trim_len Hk2.out
          have k0 : (w2.alloc (.cells #[.bool sg, .slice AQ l2.length cQ] 30)).cell? ⟨w.heap.size + 1, 0, none⟩ = some (.bool false) := (by simp [go_sem, hc2, r0, ↓IntWalk.iteOmega])
          have k1 : (w2.alloc (.cells #[.bool sg, .slice AQ l2.length cQ] 30)).cell? ⟨w.heap.size + 1, 1, none⟩ = some (.slice none 0 0) := (by simp [go_sem, hc2, r1, ↓IntWalk.iteOmega])
          have hB2 := hB.keep ((Below.refl w2.heap.size w2).alloc (Nat.le_refl _) (.cells #[.bool sg, .slice AQ l2.length cQ] 30))
          refine bodyPost_ret (v := .tuple #[.agg #[.bool sg, .slice AQ l2.length cQ], .int .u64 0]) (by simp [results, Try.results52, go_sem, k0, k1]; try rfl) rfl ⟨_, AQ, l2, cQ, by rw [HMOD.out], (hB2.far k0 (by simp) _).far ((World.cell?_setCell_other _ _ _ _ (by simp)).trans k1) (by simp) _, by omega, ?_⟩
          (have hbw := Hbw.out; (repeat' (first | (with_reducible exact Below.refl _ _) | (with_reducible assumption) | (with_reducible refine Below.alloc ?_ ?_ _) | (with_reducible refine Below.setCell ?_ ?_ _) | (with_reducible refine Below.drew ?_) | (with_reducible refine below_drewN ?_ _) | (with_reducible refine below_via ?_ (by with_reducible assumption) ?_) | omega | (simp; done) | (simp; omega))))
        · have hf := floor_neg1 (iabs_neg ha0) hd (show 0 < iabs a % d by rw [hdv.2]; exact hR)
          rw [hdv.1, hdv.2] at hf
          have HQ := Lib.hid (show val Q = iabs (- (val Q)) from by unfold iabs; split <;> omega)
          have HSN := Lib.hid (show (true && decide (0 < val Q)) = decide (- (val Q) < 0) from by rw [Bool.true_and, decide_eq_decide]; omega)
          have HMOD := Lib.hid hf.2
          have HDIV := Lib.hid hf.1
          clear hdv hs hq0 ha0 hf
          go_wp2_with (go_at_call 46; (with_reducible refine (bigTrim true Q AQ cQ _ (by omega) (HRQ.out.keep (by (repeat' (first | (with_reducible exact Below.refl _ _) | (with_reducible assumption) | (with_reducible refine Below.alloc ?_ ?_ _) | (with_reducible refine Below.setCell ?_ ?_ _) | (with_reducible refine Below.drew ?_) | (with_reducible refine below_drewN ?_ _) | (with_reducible refine below_via ?_ (by with_reducible assumption) ?_) | omega | (simp; done) | (simp; omega))))) HBQ.out HCQ.out hmQ).mono ?_); rintro e w2 ⟨l2, rfl, hk2, ht2, hv2, hb2⟩; generalize hsg : (true && decide (0 < val Q)) = sg; have HSG := Lib.hid hsg; clear hsg; have Hv2 := Lib.hid hv2; clear hv2; have Hk2 := Lib.hid hk2; clear hk2; obtain ⟨fc2, fg2, hc2, hf2, hz2⟩ := bget hb2; (try simp at hz2))
          have hB := trim_big ((HRQ.out.keep (by (repeat' (first | (with_reducible exact Below.refl _ _) | (with_reducible assumption) | (with_reducible refine Below.alloc ?_ ?_ _) | (with_reducible refine Below.setCell ?_ ?_ _) | (with_reducible refine Below.drew ?_) | (with_reducible refine below_drewN ?_ _) | (with_reducible refine below_via ?_ (by with_reducible assumption) ?_) | omega | (simp; done) | (simp; omega))))).keep hb2) HBQ.out Hk2.out ht2 Hv2.out HQ.out HCQ.out hmQ (HSG.out.symm.trans HSN.out)
          have hl2 := trim_len Hk2.out
          have hB2 := hB.keep ((Below.refl w2.heap.size w2).alloc (Nat.le_refl _) (.cells #[.bool sg, .slice AQ l2.length cQ] 30))
          have HB2 := Lib.hid hB2
          clear hB hB2
          go_region_with (first | (go_at_call 50; (with_reducible refine (bigNat 1 _ (by omega) (by omega)).mono ?_); rintro e w5 ⟨A5, l5, c5, rfl, hB5, hl5, hb5⟩; have HB5 := Lib.hid hB5; clear hB5; obtain ⟨fc5, fg5, hc5, hf5, hz5⟩ := bget hb5; (try simp at hz5)) | (go_at_call 39; (with_reducible refine (bigSub (- (val Q)) 1 sg false l2 l5 AQ A5 cQ c5 (L + 64) _ (by omega) (by omega) (by omega) (HB2.out.keep (by (repeat' (first | (with_reducible exact Below.refl _ _) | (with_reducible assumption) | (with_reducible refine Below.alloc ?_ ?_ _) | (with_reducible refine Below.setCell ?_ ?_ _) | (with_reducible refine Below.drew ?_) | (with_reducible refine below_drewN ?_ _) | (with_reducible refine below_via ?_ (by with_reducible assumption) ?_) | omega | (simp; done) | (simp; omega))))) (HB5.out.keep (by (repeat' (first | (with_reducible exact Below.refl _ _) | (with_reducible assumption) | (with_reducible refine Below.alloc ?_ ?_ _) | (with_reducible refine Below.setCell ?_ ?_ _) | (with_reducible refine Below.drew ?_) | (with_reducible refine below_drewN ?_ _) | (with_reducible refine below_via ?_ (by with_reducible assumption) ?_) | omega | (simp; done) | (simp; omega)))))).mono ?_); rintro e w6 ⟨s6, A6, l6, c6, rfl, hB6, hl6, hb6⟩; have HB6 := Lib.hid hB6; clear hB6; obtain ⟨fc6, fg6, hc6, hf6, hz6⟩ := bget hb6; (try simp at hz6)) | fail)
          all_goals
            go_wp2_with fail
            have k0 : w6.cell? ⟨w.heap.size + 1, 0, none⟩ = some (.bool false) := by simp [go_sem, hc6, hc5, hc2, r0, ↓IntWalk.iteOmega]
            have k1 : w6.cell? ⟨w.heap.size + 1, 1, none⟩ = some (.slice none 0 0) := by simp [go_sem, hc6, hc5, hc2, r1, ↓IntWalk.iteOmega]
            have o0 : w6.cell? ⟨w2.heap.size, 0, none⟩ = some (.bool sg) := by simp [go_sem, hc6, hc5, ↓IntWalk.iteOmega]
            have o1 : w6.cell? ⟨w2.heap.size, 1, none⟩ = some (.slice AQ l2.length cQ) := by simp [go_sem, hc6, hc5, ↓IntWalk.iteOmega]
            have hB7 : IsBig w6 (a / d) s6 A6 l6 c6 := by rw [HDIV.out, show -(val Q + 1) = -(val Q) - 1 by omega]; exact HB6.out
            refine bodyPost_ret (v := .tuple #[.agg #[.bool s6, .slice A6 l6.length c6], .int .u64 (d - R)]) (by simp [results, Try.results52, go_sem, k0, k1]; try rfl) rfl ⟨_, A6, l6, c6, by rw [HMOD.out], (((hB7.far o0 (by simp) _).far ((World.cell?_setCell_other _ _ _ _ (by simp)).trans o1) (by simp) _).far ((World.cell?_setCell_other _ _ _ _ (by simp)).trans ((World.cell?_setCell_other _ _ _ _ (by simp)).trans k0)) (by simp) _).far ((World.cell?_setCell_other _ _ _ _ (by simp)).trans ((World.cell?_setCell_other _ _ _ _ (by simp)).trans ((World.cell?_setCell_other _ _ _ _ (by simp)).trans k1))) (by simp) _, by omega, ?_⟩
            (have hbw := Hbw.out; (repeat' (first | (with_reducible exact Below.refl _ _) | (with_reducible assumption) | (with_reducible refine Below.alloc ?_ ?_ _) | (with_reducible refine Below.setCell ?_ ?_ _) | (with_reducible refine Below.drew ?_) | (with_reducible refine below_drewN ?_ _) | (with_reducible refine below_via ?_ (by with_reducible assumption) ?_) | omega | (simp; done) | (simp; omega))))
    · have k0 : 0 < k := by omega
      have d0 : decide ((0 : Int) < (k : Int)) = true := by simpa using (show (0 : Int) < k from by omega)
      obtain ⟨bb, bo, rfl, hbb, q1⟩ := bit_cell HA.out.rd Hbw.out (Nat.le_refl _) (show k - 1 < la.length from by omega)
      have hx := bit_get HA.out.bit (k - 1)
      have HP := Lib.hid (val_drop_pred k0 hk)
      obtain ⟨x, hxe⟩ : ∃ x, x = la.getD (k - 1) 0 := ⟨_, rfl⟩
      rw [← hxe] at q1 hx HP
      clear hxe
      by_cases hge : d ≤ 2 * R + x
      · have g1 : decide (d ≤ 2 * R + x) = true := by simpa using hge
        go_wp2_with (first | ((at_builtin; refine wpList_app rfl _ _ _ rfl elB wr.heap.size _ _ rfl ((Own.nil wr wr.heap.size 5 1).alloc _) (some ⟨wr.heap.size, 0, none⟩) 1 1 rfl [encB 1] rfl (fun h => by cases h) rd_one ((by simp [encB]; rfl)) (by unfold maxLen; first | (simp; done) | omega | (simp; omega)) (by first | (simp; done) | omega | (simp; omega)) (by first | omega | (simp; done) | (simp; omega)) ?_; intro v' w3 hown3 hb3); obtain ⟨fc3, fg3, hc3, hf3, hz3⟩ := bget hb3; (try simp at hz3)) | (at_builtin; refine wpList_any rfl _ _ _ rfl elB wr.heap.size _ _ rfl hown3 AQ Q.length cQ rfl (Q.map encB) (by simp) (HRQ.out.keep (by (repeat' (first | (with_reducible exact Below.refl _ _) | (with_reducible assumption) | (with_reducible refine Below.alloc ?_ ?_ _) | (with_reducible refine Below.setCell ?_ ?_ _) | (with_reducible refine Below.drew ?_) | (with_reducible refine below_drewN ?_ _) | (with_reducible refine below_via ?_ (by with_reducible assumption) ?_) | omega | (simp; done) | (simp; omega))))) (encB_one Q) (by unfold maxLen; first | (simp; done) | omega | (simp; omega)) (by first | (simp; done) | omega | (simp; omega)) (by have := hb3.size; simp at this; omega) ?_; intro v4 w4 hown4 hb4; have hown5 : Own w4 wr.heap.size 5 1 v4 ((1 :: Q).map encB) := (by simpa [encB] using hown4); have HO5 := Lib.hid hown5; have Hb4 := Lib.hid (show Below wr.heap.size wr w4 from (by (repeat' (first | (with_reducible exact Below.refl _ _) | (with_reducible assumption) | (with_reducible refine Below.alloc ?_ ?_ _) | (with_reducible refine Below.setCell ?_ ?_ _) | (with_reducible refine Below.drew ?_) | (with_reducible refine below_drewN ?_ _) | (with_reducible refine below_via ?_ (by with_reducible assumption) ?_) | omega | (simp; done) | (simp; omega))))); clear hown4 hown5 hb3 hb4) | fail)
        go_roundw
        case rel => exact ⟨k - 1, 1 :: Q, 2 * R + x - d, by omega, by go_num, by go_num, by omega, by omega, HO5.out.mono (by omega), by simp; omega, bit_cons HBQ.out (by omega) (by omega), quo_step HVQ.out HP.out (by omega), Hbl.out.trans (Hb4.out.mono (by omega))⟩
        case measure => simp [intOf]; omega
      · have g1 : decide (d ≤ 2 * R + x) = false := by simpa using hge
        go_wp2_with (first | ((at_builtin; refine wpList_app rfl _ _ _ rfl elB wr.heap.size _ _ rfl ((Own.nil wr wr.heap.size 5 1).alloc _) (some ⟨wr.heap.size, 0, none⟩) 1 1 rfl [encB 0] rfl (fun h => by cases h) rd_one ((by simp [encB]; rfl)) (by unfold maxLen; first | (simp; done) | omega | (simp; omega)) (by first | (simp; done) | omega | (simp; omega)) (by first | omega | (simp; done) | (simp; omega)) ?_; intro v' w3 hown3 hb3); obtain ⟨fc3, fg3, hc3, hf3, hz3⟩ := bget hb3; (try simp at hz3)) | (at_builtin; refine wpList_any rfl _ _ _ rfl elB wr.heap.size _ _ rfl hown3 AQ Q.length cQ rfl (Q.map encB) (by simp) (HRQ.out.keep (by (repeat' (first | (with_reducible exact Below.refl _ _) | (with_reducible assumption) | (with_reducible refine Below.alloc ?_ ?_ _) | (with_reducible refine Below.setCell ?_ ?_ _) | (with_reducible refine Below.drew ?_) | (with_reducible refine below_drewN ?_ _) | (with_reducible refine below_via ?_ (by with_reducible assumption) ?_) | omega | (simp; done) | (simp; omega))))) (encB_one Q) (by unfold maxLen; first | (simp; done) | omega | (simp; omega)) (by first | (simp; done) | omega | (simp; omega)) (by have := hb3.size; simp at this; omega) ?_; intro v4 w4 hown4 hb4; have hown5 : Own w4 wr.heap.size 5 1 v4 ((0 :: Q).map encB) := (by simpa [encB] using hown4); have HO5 := Lib.hid hown5; have Hb4 := Lib.hid (show Below wr.heap.size wr w4 from (by (repeat' (first | (with_reducible exact Below.refl _ _) | (with_reducible assumption) | (with_reducible refine Below.alloc ?_ ?_ _) | (with_reducible refine Below.setCell ?_ ?_ _) | (with_reducible refine Below.drew ?_) | (with_reducible refine below_drewN ?_ _) | (with_reducible refine below_via ?_ (by with_reducible assumption) ?_) | omega | (simp; done) | (simp; omega))))); clear hown4 hown5 hb3 hb4) | fail)
        go_roundw
        case rel => exact ⟨k - 1, 0 :: Q, 2 * R + x, by omega, by go_num, by go_num, by omega, by omega, HO5.out.mono (by omega), by simp; omega, bit_cons HBQ.out (by omega) (by omega), quo_step HVQ.out HP.out (by omega), Hbl.out.trans (Hb4.out.mono (by omega))⟩
        case measure => simp [intOf]; omega
end Go.Proofs.Ytenehpcliajdnaa

/- What an append to one own slice leaves of another one. No program in sight. -/
namespace Go.Proofs.Ytenehpcliajdnaa
open Go.RowKit
section
variable {w w1 w' : World} {row : Option Nat}
theorem grown_via (hb : Below w.heap.size w w1) (hg : w1.grownBy w' row) : w.grownBy w' row :=
  ⟨hg.os.trans hb.os, hg.tape.trans hb.tape, hg.output.trans hb.output, Nat.le_trans hb.size hg.size, fun k hk hne => (hg.block k (Nat.lt_of_lt_of_le hk hb.size) hne).trans (hb.block k hk)⟩
theorem grown_cell (hg : w.grownBy w' row) {p : Addr} (hp : p.block < w.heap.size) (hne : row ≠ some p.block) : w'.cell? p = w.cell? p :=
  World.cell?_of_block (hg.block _ hp (fun e => hne e.symm))
theorem Own.grown {base E k : Nat} {v : Value} {rows : List (List Value)} (h : Own w base E k v rows) (hg : w.grownBy w' row) (hne : ∀ g, v.ownBlock = some g → row ≠ some g) : Own w' base E k v rows := by
  refine ⟨h.1, h.2.1, ?_⟩
  rcases h.2.2 with h2 | ⟨g, cap, cur, hv, hgb, hh, r⟩
  · exact .inl h2
  · exact .inr ⟨g, cap, cur, hv, hgb, by rw [hg.block g (Array.getElem?_eq_some_iff.1 hh).1 (fun e => hne g (by rw [hv]; rfl) e.symm)]; exact hh, r⟩
end
/-- append, and where the row lies behind it. -/
theorem wpList_appAt {P : Program} {ops : Array Oper} {rest : List Oper} {o : Oper} {a : Act} {Q : Exit → Act → World → Prop} {w : World} (hgd : o.guard = none) (s x : Operand) (T : TypeId)
    (ho : o.op = .call { callee := .builtin .append, args := #[s, x], argTypes := #[T, T] }) {E k bytes : Nat} (el : Elem P T E k bytes)
    (base : Nat) (v : Value) (rows : List (List Value)) (hs : a.eval s = v) (hown : Own w base E k v rows)
    (ad : Addr) (m c : Nat) (hx : a.eval x = .slice (some ad) m c) (news : List (List Value)) (hm : news.length = m) (hr : Rd w (some ad) k news) (hk : ∀ r ∈ news, r.length = k ∧ ∀ u ∈ r, u.oneCell' = true)
    (h63 : rows.length + m ≤ maxLen) (hbytes : (rows.length + m) * bytes ≤ 140737488355328) (hbase : base ≤ w.heap.size)
    (h : ∀ v' w', Own w' base E k v' (rows ++ news) → Below base w w' → w.grownBy w' v.ownBlock → (v'.ownBlock = v.ownBlock ∨ v'.ownBlock = some w.heap.size) → wpList P ops Q rest (a.put o.dst v') w') : wpList P ops Q (o :: rest) a w := by
  obtain ⟨i, z, hi, hz, hsize, hby, hzs⟩ := el.info
  have hkl : ∀ r ∈ news, r.length = k := fun r hr => (hk r hr).1
  have hall : ∀ r ∈ rows ++ news, r.length = k := fun r hr => by
    rcases List.mem_append.1 hr with h1 | h1
    · exact hown.1 r h1
    · exact hkl r h1
  refine wpList_append_own_at w hgd s x T ho base E i z k bytes el.ty hi hz hsize hby hzs el.pos v rows.length rows.flatten hs hown.2 ad m c news.flatten hx (by rw [flatten_length hkl, hm]) (rd_cells hkl hr) (fun u hu => by
      obtain ⟨r, hr1, hr2⟩ := List.mem_flatten.1 hu
      exact (hk r hr1).2 u hr2) h63 hbytes hbase fun v' w' h1 h2 _ h4 => ?_
  exact h v' w' ⟨hall, by rw [List.length_append, hm, List.flatten_append]; exact h1⟩ ((Below.refl base w).grown h2 hbase (fun g hg => (hown.block g hg).1)) h2 h4
end Go.Proofs.Ytenehpcliajdnaa
