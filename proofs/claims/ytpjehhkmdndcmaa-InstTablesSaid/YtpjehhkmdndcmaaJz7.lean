/- Joined: Big9, Big10, LawF3, LawF5. -/
import Derived.Test.YtpjehhkmdndcmaaJz6
import Derived.Test.YtpjehhkmdndcmaaJz3
/- The contract of the reference's Mul. -/
namespace Go.Proofs.Ytpjehhkmdndcmaa
open Go.RowKit
theorem mul_sgn {a b x : Int} {sa sb : Bool} (ha : sa = decide (a < 0)) (hb : sb = decide (b < 0)) (hx : x = iabs (a * b)) : (!(sa == sb) && decide (0 < x)) = decide (a * b < 0) := by
  have h := sgn_mul a b
  rw [iabs_mul, ← hx, ← ha, ← hb] at h
  have h0 : 0 ≤ x := by rw [hx]; unfold iabs; split <;> omega
  cases sa <;> cases sb <;> simp [sgn] at h ⊢ <;> omega
set_option maxRecDepth 100000 in
set_option maxHeartbeats 4000000 in
theorem bigMul (a b : Int) (sa sb : Bool) (la lb : List Int) (A B : Option Addr) (c d L : Nat) (w : World) (hL : L ≤ 100000) (hla : la.length ≤ L) (hlb : lb.length ≤ L) (ha : IsBig w a sa A la c) (hb : IsBig w b sb B lb d) :
    Calls Try.prog 59 #[.agg #[.bool sa, .slice A la.length c], .agg #[.bool sb, .slice B lb.length d]] w (BigPost w (a * b) (L + L)) := by
  have HA := Lib.hid ha
  have HB := Lib.hid hb
  clear ha hb
  go_enter Try.func59, Try.ntmps59
  go_wp2_with (first | (at_builtin; refine wpList_any rfl _ _ _ rfl elB (w.heap.size + 3) _ _ rfl (Own.nil _ _ _ _) A la.length c rfl (la.map encB) (by simp) (HA.out.rd.keep (by (repeat' (first | (with_reducible exact Below.refl _ _) | (with_reducible assumption) | (with_reducible refine Below.alloc ?_ ?_ _) | (with_reducible refine Below.setCell ?_ ?_ _) | (with_reducible refine Below.drew ?_) | (with_reducible refine below_drewN ?_ _) | (with_reducible refine below_via ?_ (by with_reducible assumption) ?_) | omega | (simp; done) | (simp; omega))))) (encB_one la) (by unfold maxLen; first | (simp; done) | omega | (simp; omega)) (by first | (simp; done) | omega | (simp; omega)) (by first | omega | (simp; done) | (simp; omega)) ?_; intro v1 w1 hown1 hb1; have hown2 : Own w1 (w.heap.size + 3) 5 1 v1 (la.map encB) := (by simpa using hown1); have HO1 := Lib.hid hown2; have Hb1 := Lib.hid hb1; have hz1 := hb1.size; simp at hz1; clear hown1 hown2 hb1) | fail)
  go_loopw [5, 6, 7] (fun sv rv i wr => ∃ (k : Nat) (S R : List Int), k ≤ lb.length ∧ i = .int .i64 k ∧ Own wr (w.heap.size + 3) 5 1 sv (S.map encB) ∧ Own wr (w.heap.size + 3) 5 1 rv (R.map encB) ∧ S.length ≤ la.length + k ∧ R.length = la.length + k ∧ Bit S ∧ Bit R ∧ val S = val la * val (lb.take k) ∧ val R = pw k * val la ∧ Below (w.heap.size + 3) w1 wr) (fun _ _ i _ => lb.length - (intOf i).toNat)
  case atStart => exact ⟨0, [], la, Nat.zero_le _, rfl, Own.nil _ _ _ _, HO1.out, by simp, by simp, bit_nil, HA.out.bit, by simp [val], by rw [pw_zero, Int.one_mul], Below.refl _ _⟩
  case round =>
    obtain ⟨k, S, R, hk, rfl, hoS, hoR, hlS, hlR, hbS, hbR, hvS, hvR, hbl⟩ := hrel
    have hz := hbl.size
    have hbl0 : Below (w.heap.size + 3) (((w.alloc (.cells #[.bool sa, .slice A la.length c] 33)).alloc (.cells #[.bool sb, .slice B lb.length d] 33)).alloc (.cells #[.bool false, .slice none 0 0] 33)) wr := Hb1.out.trans hbl
    have a0 := (hbl0.cell (p := ⟨w.heap.size, 0, none⟩) (by simp))
    have b0 := (hbl0.cell (p := ⟨w.heap.size + 1, 0, none⟩) (by simp))
    have b1 := (hbl0.cell (p := ⟨w.heap.size + 1, 1, none⟩) (by simp))
    have r0 := (hbl0.cell (p := ⟨w.heap.size + 1 + 1, 0, none⟩) (by simp))
    have r1 := (hbl0.cell (p := ⟨w.heap.size + 1 + 1, 1, none⟩) (by simp))
    have f0 := (hbl0.frozen (p := ⟨w.heap.size + 1 + 1, 0, none⟩) (by simp))
    have f1 := (hbl0.frozen (p := ⟨w.heap.size + 1 + 1, 1, none⟩) (by simp))
    simp [go_sem] at a0 b0 b1 r0 r1 f0 f1
    have hbw : Below w.heap.size w wr := by (repeat' (first | (with_reducible exact Below.refl _ _) | (with_reducible assumption) | (with_reducible refine Below.alloc ?_ ?_ _) | (with_reducible refine Below.setCell ?_ ?_ _) | (with_reducible refine Below.drew ?_) | (with_reducible refine below_drewN ?_ _) | (with_reducible refine below_via ?_ (by with_reducible assumption) ?_) | omega | (simp; done) | (simp; omega)))
    have Hbl := Lib.hid hbl
    have Hbl0 := Lib.hid hbl0
    have Hbw := Lib.hid hbw
    have HBS := Lib.hid hbS
    have HBR := Lib.hid hbR
    have HVS := Lib.hid hvS
    have HVR := Lib.hid hvR
    have lLR : R.length ≤ 1000000 := by omega
    have HLR := Lib.hid hlR
    have HOS := Lib.hid hoS
    have HOR := Lib.hid hoR
    obtain ⟨AS, cS, rfl, hcS, hmS, hrS, _⟩ := hoS.shape
    obtain ⟨AR, cR, rfl, hcR, hmR, hrR, _⟩ := hoR.shape
    have HRS := Lib.hid hrS
    have HRR := Lib.hid hrR
    have HCS := Lib.hid hcS
    rw [List.length_map] at HOS HOR ⊢
    rw [List.length_map] at HCS ⊢
    clear hlR hbl hbl0 hbw hbS hbR hvS hvR hoS hoR hrS hrR hcS hcR
    by_cases hlt : k < lb.length
    · have d1 : decide ((k : Int) < (lb.length : Int)) = true := by simpa using hlt
      have hx := bit_get HB.out.bit k
      obtain ⟨bb, bo, rfl, hbb, q1⟩ := bit_cell HB.out.rd Hbw.out (Nat.le_refl _) hlt
      obtain ⟨x, hxe⟩ : ∃ x, x = lb.getD k 0 := ⟨_, rfl⟩
      rw [← hxe] at q1 hx
      have HX := Lib.hid hxe
      clear hxe
      rcases (show x = 0 ∨ x = 1 by omega) with e | e
      · subst e
        go_wp2_with (first | ((at_builtin; refine wpList_app rfl _ _ _ rfl elB wr.heap.size _ _ rfl ((Own.nil wr wr.heap.size 5 1).alloc _) (some ⟨wr.heap.size, 0, none⟩) 1 1 rfl [encB 0] rfl (fun h => by cases h) rd_one ((by simp [encB]; rfl)) (by unfold maxLen; first | (simp; done) | omega | (simp; omega)) (by first | (simp; done) | omega | (simp; omega)) (by first | omega | (simp; done) | (simp; omega)) ?_; intro v' w3 hown3 hb3); obtain ⟨fc3, fg3, hc3, hf3, hz3⟩ := bget hb3; (try simp at hz3)) | (at_builtin; refine wpList_any rfl _ _ _ rfl elB wr.heap.size _ _ rfl hown3 AR R.length cR rfl (R.map encB) (by simp) (HRR.out.keep (by (repeat' (first | (with_reducible exact Below.refl _ _) | (with_reducible assumption) | (with_reducible refine Below.alloc ?_ ?_ _) | (with_reducible refine Below.setCell ?_ ?_ _) | (with_reducible refine Below.drew ?_) | (with_reducible refine below_drewN ?_ _) | (with_reducible refine below_via ?_ (by with_reducible assumption) ?_) | omega | (simp; done) | (simp; omega))))) (encB_one R) (by unfold maxLen; first | (simp; done) | omega | (simp; omega)) (by first | (simp; done) | omega | (simp; omega)) (by have := hb3.size; simp at this; omega) ?_; intro v4 w4 hown4 hb4; have hown5 : Own w4 wr.heap.size 5 1 v4 ((0 :: R).map encB) := (by simpa [encB] using hown4); have HO5 := Lib.hid hown5; have Hb4 := Lib.hid (show Below wr.heap.size wr w4 from (by (repeat' (first | (with_reducible exact Below.refl _ _) | (with_reducible assumption) | (with_reducible refine Below.alloc ?_ ?_ _) | (with_reducible refine Below.setCell ?_ ?_ _) | (with_reducible refine Below.drew ?_) | (with_reducible refine below_drewN ?_ _) | (with_reducible refine below_via ?_ (by with_reducible assumption) ?_) | omega | (simp; done) | (simp; omega))))); clear hown4 hown5 hb3 hb4) | fail)
        go_roundw
        case rel => exact ⟨k + 1, S, 0 :: R, by omega, by go_num, HOS.out.keep Hb4.out, HO5.out.mono (by omega), by omega, by have := HLR.out; simp; omega, HBS.out, bit_cons HBR.out (by omega) (by omega), sum_none HVS.out HX.out.symm, row_next HVR.out, Hbl.out.trans (Hb4.out.mono (by omega))⟩
        case measure => simp [intOf]; omega
      · subst e
        go_wp2_with (first | (go_at_call 66; (with_reducible refine (bigPlus S R AS AR cS cR _ (by omega) (by omega) (HRS.out.keep (by (repeat' (first | (with_reducible exact Below.refl _ _) | (with_reducible assumption) | (with_reducible refine Below.alloc ?_ ?_ _) | (with_reducible refine Below.setCell ?_ ?_ _) | (with_reducible refine Below.drew ?_) | (with_reducible refine below_drewN ?_ _) | (with_reducible refine below_via ?_ (by with_reducible assumption) ?_) | omega | (simp; done) | (simp; omega))))) (HRR.out.keep (by (repeat' (first | (with_reducible exact Below.refl _ _) | (with_reducible assumption) | (with_reducible refine Below.alloc ?_ ?_ _) | (with_reducible refine Below.setCell ?_ ?_ _) | (with_reducible refine Below.drew ?_) | (with_reducible refine below_drewN ?_ _) | (with_reducible refine below_via ?_ (by with_reducible assumption) ?_) | omega | (simp; done) | (simp; omega))))) HBS.out HBR.out).mono ?_); rintro e w2 ⟨v2, l2, rfl, hown2, hb2, hbit2, hval2, hlen2⟩; have HO2 := Lib.hid hown2; have HV2 := Lib.hid hval2; have HL2 := Lib.hid hlen2; clear hown2 hval2 hlen2; obtain ⟨fc2, fg2, hc2, hf2, hz2⟩ := bget hb2; (try simp at hz2)) | ((at_builtin; refine wpList_app rfl _ _ _ rfl elB w2.heap.size _ _ rfl ((Own.nil w2 w2.heap.size 5 1).alloc _) (some ⟨w2.heap.size, 0, none⟩) 1 1 rfl [encB 0] rfl (fun h => by cases h) rd_one ((by simp [encB]; rfl)) (by unfold maxLen; first | (simp; done) | omega | (simp; omega)) (by first | (simp; done) | omega | (simp; omega)) (by first | omega | (simp; done) | (simp; omega)) ?_; intro v' w3 hown3 hb3); obtain ⟨fc3, fg3, hc3, hf3, hz3⟩ := bget hb3; (try simp at hz3)) | (at_builtin; refine wpList_any rfl _ _ _ rfl elB w2.heap.size _ _ rfl hown3 AR R.length cR rfl (R.map encB) (by simp) (HRR.out.keep (by (repeat' (first | (with_reducible exact Below.refl _ _) | (with_reducible assumption) | (with_reducible refine Below.alloc ?_ ?_ _) | (with_reducible refine Below.setCell ?_ ?_ _) | (with_reducible refine Below.drew ?_) | (with_reducible refine below_drewN ?_ _) | (with_reducible refine below_via ?_ (by with_reducible assumption) ?_) | omega | (simp; done) | (simp; omega))))) (encB_one R) (by unfold maxLen; first | (simp; done) | omega | (simp; omega)) (by first | (simp; done) | omega | (simp; omega)) (by have := hb3.size; simp at this; omega) ?_; intro v4 w4 hown4 hb4; have hown5 : Own w4 w2.heap.size 5 1 v4 ((0 :: R).map encB) := (by simpa [encB] using hown4); have HO5 := Lib.hid hown5; have Hb4 := Lib.hid (show Below w2.heap.size w2 w4 from (by (repeat' (first | (with_reducible exact Below.refl _ _) | (with_reducible assumption) | (with_reducible refine Below.alloc ?_ ?_ _) | (with_reducible refine Below.setCell ?_ ?_ _) | (with_reducible refine Below.drew ?_) | (with_reducible refine below_drewN ?_ _) | (with_reducible refine below_via ?_ (by with_reducible assumption) ?_) | omega | (simp; done) | (simp; omega))))); clear hown4 hown5 hb3 hb4) | fail)
        go_roundw
        case rel => exact ⟨k + 1, l2, 0 :: R, by omega, by go_num, (HO2.out.keep Hb4.out).mono (by omega), HO5.out.mono (by omega), by have := HL2.out; have h2 := HLR.out; omega, by have := HLR.out; simp; omega, hbit2, bit_cons HBR.out (by omega) (by omega), sum_one HVS.out HVR.out HX.out.symm HV2.out, row_next HVR.out, (Hbl.out.trans (hb2.mono (by omega))).trans (Hb4.out.mono (by omega))⟩
        case measure => simp [intOf]; omega
    · have d1 : decide ((k : Int) < (lb.length : Int)) = false := by simpa using hlt
      have hke : k = lb.length := by omega
      have hval : val S = iabs (a * b) := by rw [HVS.out, hke, List.take_length, HA.out.val, HB.out.val, iabs_mul]
      have HVAL := Lib.hid hval
      have HSN := Lib.hid (mul_sgn HA.out.sgn HB.out.sgn hval)
      clear hval hke
      go_wp2_with (go_at_call 65; (with_reducible refine (bigTrim _ S AS cS _ (by omega) (HRS.out.keep (by (repeat' (first | (with_reducible exact Below.refl _ _) | (with_reducible assumption) | (with_reducible refine Below.alloc ?_ ?_ _) | (with_reducible refine Below.setCell ?_ ?_ _) | (with_reducible refine Below.drew ?_) | (with_reducible refine below_drewN ?_ _) | (with_reducible refine below_via ?_ (by with_reducible assumption) ?_) | omega | (simp; done) | (simp; omega))))) HBS.out HCS.out hmS).mono ?_); rintro e w2 ⟨l2, rfl, hk2, ht2, hv2, hb2⟩; have Hv2 := Lib.hid hv2; clear hv2; have Hk2 := Lib.hid hk2; clear hk2; obtain ⟨fc2, fg2, hc2, hf2, hz2⟩ := bget hb2; (try simp at hz2))
      have k0 : w2.cell? ⟨w.heap.size + 1 + 1, 0, none⟩ = some (.bool false) := by simp [go_sem, hc2, r0, ↓IntWalk.iteOmega]
      have k1 : w2.cell? ⟨w.heap.size + 1 + 1, 1, none⟩ = some (.slice none 0 0) := by simp [go_sem, hc2, r1, ↓IntWalk.iteOmega]
      have hB := trim_big ((HRS.out.keep (by (repeat' (first | (with_reducible exact Below.refl _ _) | (with_reducible assumption) | (with_reducible refine Below.alloc ?_ ?_ _) | (with_reducible refine Below.setCell ?_ ?_ _) | (with_reducible refine Below.drew ?_) | (with_reducible refine below_drewN ?_ _) | (with_reducible refine below_via ?_ (by with_reducible assumption) ?_) | omega | (simp; done) | (simp; omega))))).keep hb2) HBS.out Hk2.out ht2 Hv2.out HVAL.out HCS.out hmS HSN.out
      have hl2 := trim_len Hk2.out
      refine bodyPost_ret (v := .agg #[.bool (!(sa == sb) && decide (0 < Go.Proofs.Ytpjehhkmdndcmaa.val S)), .slice AS l2.length cS]) (by simp [results, Try.results59, go_sem, k0, k1]; try rfl) rfl ⟨_, AS, l2, cS, rfl, (hB.far k0 (by simp) _).far ((World.cell?_setCell_other _ _ _ _ (by simp)).trans k1) (by simp) _, by omega, ?_⟩
      (have hbw := Hbw.out; (repeat' (first | (with_reducible exact Below.refl _ _) | (with_reducible assumption) | (with_reducible refine Below.alloc ?_ ?_ _) | (with_reducible refine Below.setCell ?_ ?_ _) | (with_reducible refine Below.drew ?_) | (with_reducible refine below_drewN ?_ _) | (with_reducible refine below_via ?_ (by with_reducible assumption) ?_) | omega | (simp; done) | (simp; omega))))
end Go.Proofs.Ytpjehhkmdndcmaa

/- The contract of the reference's Div. -/
namespace Go.Proofs.Ytpjehhkmdndcmaa
open Go.RowKit
def DivPost (w : World) (q r : Int) (L : Nat) (e : Ending) (w' : World) : Prop :=
  ∃ s A l c, e = .returned (.tuple #[.agg #[.bool s, .slice A l.length c], .int .u64 r]) ∧ IsBig w' q s A l c ∧ l.length ≤ L ∧ Below w.heap.size w w'
theorem divs_of {q d r m : Int} (h : q * d + r = m) (h0 : 0 ≤ r) (h1 : r < d) : m / d = q ∧ m % d = r := by
  have e : m / d = q := div_is (by omega) (by rw [Int.add_mul]; omega) (by omega)
  refine ⟨e, ?_⟩
  rw [Int.emod_def, e, Int.mul_comm]; omega
set_option maxRecDepth 100000 in
set_option maxHeartbeats 4000000 in
theorem bigDiv (a d : Int) (sa : Bool) (la : List Int) (A : Option Addr) (c L : Nat) (w : World) (hd : 0 < d) (hd1 : d ≤ 9223372036854775807) (hL : L ≤ 400000) (hla : la.length ≤ L) (ha : IsBig w a sa A la c) :
    Calls Try.prog 72 #[.agg #[.bool sa, .slice A la.length c], .int .u64 d] w (DivPost w (a / d) (a % d) (L + 65)) := by
  have HA := Lib.hid ha
  clear ha
  go_enter Try.func72, Try.ntmps72
  go_wp2_with fail
  go_loopw [6, 7, 8] (fun rv qv i wr => ∃ (k : Nat) (Q : List Int) (R : Int), k ≤ la.length ∧ i = .int .i64 k ∧ rv = .int .u64 R ∧ 0 ≤ R ∧ R < d ∧ Own wr (w.heap.size + 2) 5 1 qv (Q.map encB) ∧ Q.length + k ≤ la.length ∧ Bit Q ∧ val Q * d + R = val (la.drop k) ∧ Below (w.heap.size + 2) ((w.alloc (.cells #[.bool sa, .slice A la.length c] 33)).alloc (.cells #[.bool false, .slice none 0 0] 33)) wr) (fun _ _ i _ => (intOf i).toNat)
  case atStart => exact ⟨la.length, [], 0, Nat.le_refl _, rfl, rfl, by omega, hd, Own.nil _ _ _ _, by simp, bit_nil, by simp [val], Below.refl _ _⟩
  case round =>
    obtain ⟨k, Q, R, hk, rfl, rfl, R0, R1, hoQ, hlQ, hbQ, hvQ, hbl⟩ := hrel
    have hz := hbl.size
    simp at hz
    have a0 := (hbl.cell (p := ⟨w.heap.size, 0, none⟩) (by simp))
    have a1 := (hbl.cell (p := ⟨w.heap.size, 1, none⟩) (by simp))
    have r0 := (hbl.cell (p := ⟨w.heap.size + 1, 0, none⟩) (by simp))
    have r1 := (hbl.cell (p := ⟨w.heap.size + 1, 1, none⟩) (by simp))
    have f0 := (hbl.frozen (p := ⟨w.heap.size + 1, 0, none⟩) (by simp))
    have f1 := (hbl.frozen (p := ⟨w.heap.size + 1, 1, none⟩) (by simp))
    simp [go_sem] at a0 a1 r0 r1 f0 f1
    have hbw : Below w.heap.size w wr := by (repeat' (first | (with_reducible exact Below.refl _ _) | (with_reducible assumption) | (with_reducible refine Below.alloc ?_ ?_ _) | (with_reducible refine Below.setCell ?_ ?_ _) | (with_reducible refine Below.drew ?_) | (with_reducible refine below_drewN ?_ _) | (with_reducible refine below_via ?_ (by with_reducible assumption) ?_) | omega | (simp; done) | (simp; omega)))
    have Hbl := Lib.hid hbl
    have Hbw := Lib.hid hbw
    have HBQ := Lib.hid hbQ
    have HVQ := Lib.hid hvQ
    obtain ⟨AQ, cQ, rfl, hcQ, hmQ, hrQ, _⟩ := hoQ.shape
    have HRQ := Lib.hid hrQ
    have HCQ := Lib.hid hcQ
    have HOQ := Lib.hid hoQ
    rw [List.length_map] at HOQ ⊢
    rw [List.length_map] at HCQ
    clear hbl hbw hbQ hvQ hoQ hrQ hcQ
    by_cases h0 : k = 0
    · subst h0
      have hdv := divs_of HVQ.out R0 R1
      rw [List.drop_zero, HA.out.val] at hdv
      have hs := HA.out.sgn
      have hq0 := val_nonneg HBQ.out
      cases sa
      · have ha0 : 0 ≤ a := by simpa using hs
        rw [iabs_pos ha0] at hdv
        have HQ := Lib.hid (show val Q = iabs (a / d) from by rw [hdv.1, iabs_pos hq0])
        have HSN := Lib.hid (show (false && decide (0 < val Q)) = decide (a / d < 0) from by rw [hdv.1]; simp; exact hq0)
        have HMOD := Lib.hid hdv.2
        clear hdv hs hq0 ha0
        go_wp2_with (go_at_call 65; (with_reducible refine (bigTrim false Q AQ cQ _ (by omega) (HRQ.out.keep (by (repeat' (first | (with_reducible exact Below.refl _ _) | (with_reducible assumption) | (with_reducible refine Below.alloc ?_ ?_ _) | (with_reducible refine Below.setCell ?_ ?_ _) | (with_reducible refine Below.drew ?_) | (with_reducible refine below_drewN ?_ _) | (with_reducible refine below_via ?_ (by with_reducible assumption) ?_) | omega | (simp; done) | (simp; omega))))) HBQ.out HCQ.out hmQ).mono ?_); rintro e w2 ⟨l2, rfl, hk2, ht2, hv2, hb2⟩; generalize hsg : (false && decide (0 < val Q)) = sg; have HSG := Lib.hid hsg; clear hsg; have Hv2 := Lib.hid hv2; clear hv2; have Hk2 := Lib.hid hk2; clear hk2; obtain ⟨fc2, fg2, hc2, hf2, hz2⟩ := bget hb2; (try simp at hz2))
        have hB := trim_big ((HRQ.out.keep (by (repeat' (first | (with_reducible exact Below.refl _ _) | (with_reducible assumption) | (with_reducible refine Below.alloc ?_ ?_ _) | (with_reducible refine Below.setCell ?_ ?_ _) | (with_reducible refine Below.drew ?_) | (with_reducible refine below_drewN ?_ _) | (with_reducible refine below_via ?_ (by with_reducible assumption) ?_) | omega | (simp; done) | (simp; omega))))).keep hb2) HBQ.out Hk2.out ht2 Hv2.out HQ.out HCQ.out hmQ (HSG.out.symm.trans HSN.out)
        have hl2 := trim_len Hk2.out
        have k0 : (w2.alloc (.cells #[.bool sg, .slice AQ l2.length cQ] 33)).cell? ⟨w.heap.size + 1, 0, none⟩ = some (.bool false) := (by simp [go_sem, hc2, r0, ↓IntWalk.iteOmega])
        have k1 : (w2.alloc (.cells #[.bool sg, .slice AQ l2.length cQ] 33)).cell? ⟨w.heap.size + 1, 1, none⟩ = some (.slice none 0 0) := (by simp [go_sem, hc2, r1, ↓IntWalk.iteOmega])
        have hB2 := hB.keep ((Below.refl w2.heap.size w2).alloc (Nat.le_refl _) (.cells #[.bool sg, .slice AQ l2.length cQ] 33))
        refine bodyPost_ret (v := .tuple #[.agg #[.bool sg, .slice AQ l2.length cQ], .int .u64 R]) (by simp [results, Try.results72, go_sem, k0, k1]; try rfl) rfl ⟨_, AQ, l2, cQ, by rw [HMOD.out], (hB2.far k0 (by simp) _).far ((World.cell?_setCell_other _ _ _ _ (by simp)).trans k1) (by simp) _, by omega, ?_⟩
        (have hbw := Hbw.out; (repeat' (first | (with_reducible exact Below.refl _ _) | (with_reducible assumption) | (with_reducible refine Below.alloc ?_ ?_ _) | (with_reducible refine Below.setCell ?_ ?_ _) | (with_reducible refine Below.drew ?_) | (with_reducible refine below_drewN ?_ _) | (with_reducible refine below_via ?_ (by with_reducible assumption) ?_) | omega | (simp; done) | (simp; omega))))
      · have ha0 : a < 0 := by simpa using hs.symm
        rcases (show R = 0 ∨ 0 < R by omega) with hR | hR
        · subst hR
          have hf := floor_neg0 (iabs_neg ha0) hd hdv.2
          rw [hdv.1] at hf
          have HQ := Lib.hid (show val Q = iabs (a / d) from by rw [hf.1]; unfold iabs; split <;> omega)
          have HSN := Lib.hid (show (true && decide (0 < val Q)) = decide (a / d < 0) from by rw [hf.1, Bool.true_and, decide_eq_decide]; omega)
          have HMOD := Lib.hid hf.2
          clear hdv hs hq0 ha0 hf
          go_wp2_with (go_at_call 65; (with_reducible refine (bigTrim true Q AQ cQ _ (by omega) (HRQ.out.keep (by (repeat' (first | (with_reducible exact Below.refl _ _) | (with_reducible assumption) | (with_reducible refine Below.alloc ?_ ?_ _) | (with_reducible refine Below.setCell ?_ ?_ _) | (with_reducible refine Below.drew ?_) | (with_reducible refine below_drewN ?_ _) | (with_reducible refine below_via ?_ (by with_reducible assumption) ?_) | omega | (simp; done) | (simp; omega))))) HBQ.out HCQ.out hmQ).mono ?_); rintro e w2 ⟨l2, rfl, hk2, ht2, hv2, hb2⟩; generalize hsg : (true && decide (0 < val Q)) = sg; have HSG := Lib.hid hsg; clear hsg; have Hv2 := Lib.hid hv2; clear hv2; have Hk2 := Lib.hid hk2; clear hk2; obtain ⟨fc2, fg2, hc2, hf2, hz2⟩ := bget hb2; (try simp at hz2))
          have hB := trim_big ((HRQ.out.keep (by (repeat' (first | (with_reducible exact Below.refl _ _) | (with_reducible assumption) | (with_reducible refine Below.alloc ?_ ?_ _) | (with_reducible refine Below.setCell ?_ ?_ _) | (with_reducible refine Below.drew ?_) | (with_reducible refine below_drewN ?_ _) | (with_reducible refine below_via ?_ (by with_reducible assumption) ?_) | omega | (simp; done) | (simp; omega))))).keep hb2) HBQ.out Hk2.out ht2 Hv2.out HQ.out HCQ.out hmQ (HSG.out.symm.trans HSN.out)
          have hl2 := trim_len Hk2.out
          have k0 : (w2.alloc (.cells #[.bool sg, .slice AQ l2.length cQ] 33)).cell? ⟨w.heap.size + 1, 0, none⟩ = some (.bool false) := (by simp [go_sem, hc2, r0, ↓IntWalk.iteOmega])
          have k1 : (w2.alloc (.cells #[.bool sg, .slice AQ l2.length cQ] 33)).cell? ⟨w.heap.size + 1, 1, none⟩ = some (.slice none 0 0) := (by simp [go_sem, hc2, r1, ↓IntWalk.iteOmega])
          have hB2 := hB.keep ((Below.refl w2.heap.size w2).alloc (Nat.le_refl _) (.cells #[.bool sg, .slice AQ l2.length cQ] 33))
          refine bodyPost_ret (v := .tuple #[.agg #[.bool sg, .slice AQ l2.length cQ], .int .u64 0]) (by simp [results, Try.results72, go_sem, k0, k1]; try rfl) rfl ⟨_, AQ, l2, cQ, by rw [HMOD.out], (hB2.far k0 (by simp) _).far ((World.cell?_setCell_other _ _ _ _ (by simp)).trans k1) (by simp) _, by omega, ?_⟩
          (have hbw := Hbw.out; (repeat' (first | (with_reducible exact Below.refl _ _) | (with_reducible assumption) | (with_reducible refine Below.alloc ?_ ?_ _) | (with_reducible refine Below.setCell ?_ ?_ _) | (with_reducible refine Below.drew ?_) | (with_reducible refine below_drewN ?_ _) | (with_reducible refine below_via ?_ (by with_reducible assumption) ?_) | omega | (simp; done) | (simp; omega))))
        · have hf := floor_neg1 (iabs_neg ha0) hd (show 0 < iabs a % d by rw [hdv.2]; exact hR)
          rw [hdv.1, hdv.2] at hf
          have HQ := Lib.hid (show val Q = iabs (- (val Q)) from by unfold iabs; split <;> omega)
          have HSN := Lib.hid (show (true && decide (0 < val Q)) = decide (- (val Q) < 0) from by rw [Bool.true_and, decide_eq_decide]; omega)
          have HMOD := Lib.hid hf.2
          have HDIV := Lib.hid hf.1
          clear hdv hs hq0 ha0 hf
          go_wp2_with (go_at_call 65; (with_reducible refine (bigTrim true Q AQ cQ _ (by omega) (HRQ.out.keep (by (repeat' (first | (with_reducible exact Below.refl _ _) | (with_reducible assumption) | (with_reducible refine Below.alloc ?_ ?_ _) | (with_reducible refine Below.setCell ?_ ?_ _) | (with_reducible refine Below.drew ?_) | (with_reducible refine below_drewN ?_ _) | (with_reducible refine below_via ?_ (by with_reducible assumption) ?_) | omega | (simp; done) | (simp; omega))))) HBQ.out HCQ.out hmQ).mono ?_); rintro e w2 ⟨l2, rfl, hk2, ht2, hv2, hb2⟩; generalize hsg : (true && decide (0 < val Q)) = sg; have HSG := Lib.hid hsg; clear hsg; have Hv2 := Lib.hid hv2; clear hv2; have Hk2 := Lib.hid hk2; clear hk2; obtain ⟨fc2, fg2, hc2, hf2, hz2⟩ := bget hb2; (try simp at hz2))
          have hB := trim_big ((HRQ.out.keep (by (repeat' (first | (with_reducible exact Below.refl _ _) | (with_reducible assumption) | (with_reducible refine Below.alloc ?_ ?_ _) | (with_reducible refine Below.setCell ?_ ?_ _) | (with_reducible refine Below.drew ?_) | (with_reducible refine below_drewN ?_ _) | (with_reducible refine below_via ?_ (by with_reducible assumption) ?_) | omega | (simp; done) | (simp; omega))))).keep hb2) HBQ.out Hk2.out ht2 Hv2.out HQ.out HCQ.out hmQ (HSG.out.symm.trans HSN.out)
          have hl2 := trim_len Hk2.out
          have hB2 := hB.keep ((Below.refl w2.heap.size w2).alloc (Nat.le_refl _) (.cells #[.bool sg, .slice AQ l2.length cQ] 33))
          have HB2 := Lib.hid hB2
          clear hB hB2
          go_region_with (first | (go_at_call 58; (with_reducible refine (bigNat 1 _ (by omega) (by omega)).mono ?_); rintro e w5 ⟨A5, l5, c5, rfl, hB5, hl5, hb5⟩; have HB5 := Lib.hid hB5; clear hB5; obtain ⟨fc5, fg5, hc5, hf5, hz5⟩ := bget hb5; (try simp at hz5)) | (go_at_call 33; (with_reducible refine (bigSub (- (val Q)) 1 sg false l2 l5 AQ A5 cQ c5 (L + 64) _ (by omega) (by omega) (by omega) (HB2.out.keep (by (repeat' (first | (with_reducible exact Below.refl _ _) | (with_reducible assumption) | (with_reducible refine Below.alloc ?_ ?_ _) | (with_reducible refine Below.setCell ?_ ?_ _) | (with_reducible refine Below.drew ?_) | (with_reducible refine below_drewN ?_ _) | (with_reducible refine below_via ?_ (by with_reducible assumption) ?_) | omega | (simp; done) | (simp; omega))))) (HB5.out.keep (by (repeat' (first | (with_reducible exact Below.refl _ _) | (with_reducible assumption) | (with_reducible refine Below.alloc ?_ ?_ _) | (with_reducible refine Below.setCell ?_ ?_ _) | (with_reducible refine Below.drew ?_) | (with_reducible refine below_drewN ?_ _) | (with_reducible refine below_via ?_ (by with_reducible assumption) ?_) | omega | (simp; done) | (simp; omega)))))).mono ?_); rintro e w6 ⟨s6, A6, l6, c6, rfl, hB6, hl6, hb6⟩; have HB6 := Lib.hid hB6; clear hB6; obtain ⟨fc6, fg6, hc6, hf6, hz6⟩ := bget hb6; (try simp at hz6)) | fail)
          all_goals
            go_wp2_with fail
            have k0 : w6.cell? ⟨w.heap.size + 1, 0, none⟩ = some (.bool false) := by simp [go_sem, hc6, hc5, hc2, r0, ↓IntWalk.iteOmega]
            have k1 : w6.cell? ⟨w.heap.size + 1, 1, none⟩ = some (.slice none 0 0) := by simp [go_sem, hc6, hc5, hc2, r1, ↓IntWalk.iteOmega]
            have o0 : w6.cell? ⟨w2.heap.size, 0, none⟩ = some (.bool sg) := by simp [go_sem, hc6, hc5, ↓IntWalk.iteOmega]
            have o1 : w6.cell? ⟨w2.heap.size, 1, none⟩ = some (.slice AQ l2.length cQ) := by simp [go_sem, hc6, hc5, ↓IntWalk.iteOmega]
            have hB7 : IsBig w6 (a / d) s6 A6 l6 c6 := by rw [HDIV.out, show -(val Q + 1) = -(val Q) - 1 by omega]; exact HB6.out
            refine bodyPost_ret (v := .tuple #[.agg #[.bool s6, .slice A6 l6.length c6], .int .u64 (d - R)]) (by simp [results, Try.results72, go_sem, k0, k1]; try rfl) rfl ⟨_, A6, l6, c6, by rw [HMOD.out], (((hB7.far o0 (by simp) _).far ((World.cell?_setCell_other _ _ _ _ (by simp)).trans o1) (by simp) _).far ((World.cell?_setCell_other _ _ _ _ (by simp)).trans ((World.cell?_setCell_other _ _ _ _ (by simp)).trans k0)) (by simp) _).far ((World.cell?_setCell_other _ _ _ _ (by simp)).trans ((World.cell?_setCell_other _ _ _ _ (by simp)).trans ((World.cell?_setCell_other _ _ _ _ (by simp)).trans k1))) (by simp) _, by omega, ?_⟩
            (have hbw := Hbw.out; (repeat' (first | (with_reducible exact Below.refl _ _) | (with_reducible assumption) | (with_reducible refine Below.alloc ?_ ?_ _) | (with_reducible refine Below.setCell ?_ ?_ _) | (with_reducible refine Below.drew ?_) | (with_reducible refine below_drewN ?_ _) | (with_reducible refine below_via ?_ (by with_reducible assumption) ?_) | omega | (simp; done) | (simp; omega))))
    · have k0 : 0 < k := by omega
      have d0 : decide ((0 : Int) < (k : Int)) = true := by simpa using (show (0 : Int) < k from by omega)
      obtain ⟨bb, bo, rfl, hbb, q1⟩ := bit_cell HA.out.rd Hbw.out (Nat.le_refl _) (show k - 1 < la.length from by omega)
      have hx := bit_get HA.out.bit (k - 1)
      have HP := Lib.hid (val_drop_pred k0 hk)
      obtain ⟨x, hxe⟩ : ∃ x, x = la.getD (k - 1) 0 := ⟨_, rfl⟩
      rw [← hxe] at q1 hx HP
      clear hxe
      by_cases hge : d ≤ 2 * R + x
      · have g1 : decide (d ≤ 2 * R + x) = true := by simpa using hge
        go_wp2_with (first | ((at_builtin; refine wpList_app rfl _ _ _ rfl elB wr.heap.size _ _ rfl ((Own.nil wr wr.heap.size 5 1).alloc _) (some ⟨wr.heap.size, 0, none⟩) 1 1 rfl [encB 1] rfl (fun h => by cases h) rd_one ((by simp [encB]; rfl)) (by unfold maxLen; first | (simp; done) | omega | (simp; omega)) (by first | (simp; done) | omega | (simp; omega)) (by first | omega | (simp; done) | (simp; omega)) ?_; intro v' w3 hown3 hb3); obtain ⟨fc3, fg3, hc3, hf3, hz3⟩ := bget hb3; (try simp at hz3)) | (at_builtin; refine wpList_any rfl _ _ _ rfl elB wr.heap.size _ _ rfl hown3 AQ Q.length cQ rfl (Q.map encB) (by simp) (HRQ.out.keep (by (repeat' (first | (with_reducible exact Below.refl _ _) | (with_reducible assumption) | (with_reducible refine Below.alloc ?_ ?_ _) | (with_reducible refine Below.setCell ?_ ?_ _) | (with_reducible refine Below.drew ?_) | (with_reducible refine below_drewN ?_ _) | (with_reducible refine below_via ?_ (by with_reducible assumption) ?_) | omega | (simp; done) | (simp; omega))))) (encB_one Q) (by unfold maxLen; first | (simp; done) | omega | (simp; omega)) (by first | (simp; done) | omega | (simp; omega)) (by have := hb3.size; simp at this; omega) ?_; intro v4 w4 hown4 hb4; have hown5 : Own w4 wr.heap.size 5 1 v4 ((1 :: Q).map encB) := (by simpa [encB] using hown4); have HO5 := Lib.hid hown5; have Hb4 := Lib.hid (show Below wr.heap.size wr w4 from (by (repeat' (first | (with_reducible exact Below.refl _ _) | (with_reducible assumption) | (with_reducible refine Below.alloc ?_ ?_ _) | (with_reducible refine Below.setCell ?_ ?_ _) | (with_reducible refine Below.drew ?_) | (with_reducible refine below_drewN ?_ _) | (with_reducible refine below_via ?_ (by with_reducible assumption) ?_) | omega | (simp; done) | (simp; omega))))); clear hown4 hown5 hb3 hb4) | fail)
        go_roundw
        case rel => exact ⟨k - 1, 1 :: Q, 2 * R + x - d, by omega, by go_num, by go_num, by omega, by omega, HO5.out.mono (by omega), by simp; omega, bit_cons HBQ.out (by omega) (by omega), quo_step HVQ.out HP.out (by omega), Hbl.out.trans (Hb4.out.mono (by omega))⟩
        case measure => simp [intOf]; omega
      · have g1 : decide (d ≤ 2 * R + x) = false := by simpa using hge
        go_wp2_with (first | ((at_builtin; refine wpList_app rfl _ _ _ rfl elB wr.heap.size _ _ rfl ((Own.nil wr wr.heap.size 5 1).alloc _) (some ⟨wr.heap.size, 0, none⟩) 1 1 rfl [encB 0] rfl (fun h => by cases h) rd_one ((by simp [encB]; rfl)) (by unfold maxLen; first | (simp; done) | omega | (simp; omega)) (by first | (simp; done) | omega | (simp; omega)) (by first | omega | (simp; done) | (simp; omega)) ?_; intro v' w3 hown3 hb3); obtain ⟨fc3, fg3, hc3, hf3, hz3⟩ := bget hb3; (try simp at hz3)) | (at_builtin; refine wpList_any rfl _ _ _ rfl elB wr.heap.size _ _ rfl hown3 AQ Q.length cQ rfl (Q.map encB) (by simp) (HRQ.out.keep (by (repeat' (first | (with_reducible exact Below.refl _ _) | (with_reducible assumption) | (with_reducible refine Below.alloc ?_ ?_ _) | (with_reducible refine Below.setCell ?_ ?_ _) | (with_reducible refine Below.drew ?_) | (with_reducible refine below_drewN ?_ _) | (with_reducible refine below_via ?_ (by with_reducible assumption) ?_) | omega | (simp; done) | (simp; omega))))) (encB_one Q) (by unfold maxLen; first | (simp; done) | omega | (simp; omega)) (by first | (simp; done) | omega | (simp; omega)) (by have := hb3.size; simp at this; omega) ?_; intro v4 w4 hown4 hb4; have hown5 : Own w4 wr.heap.size 5 1 v4 ((0 :: Q).map encB) := (by simpa [encB] using hown4); have HO5 := Lib.hid hown5; have Hb4 := Lib.hid (show Below wr.heap.size wr w4 from (by (repeat' (first | (with_reducible exact Below.refl _ _) | (with_reducible assumption) | (with_reducible refine Below.alloc ?_ ?_ _) | (with_reducible refine Below.setCell ?_ ?_ _) | (with_reducible refine Below.drew ?_) | (with_reducible refine below_drewN ?_ _) | (with_reducible refine below_via ?_ (by with_reducible assumption) ?_) | omega | (simp; done) | (simp; omega))))); clear hown4 hown5 hb3 hb4) | fail)
        go_roundw
        case rel => exact ⟨k - 1, 0 :: Q, 2 * R + x, by omega, by go_num, by go_num, by omega, by omega, HO5.out.mono (by omega), by simp; omega, bit_cons HBQ.out (by omega) (by omega), quo_step HVQ.out HP.out (by omega), Hbl.out.trans (Hb4.out.mono (by omega))⟩
        case measure => simp [intOf]; omega
end Go.Proofs.Ytpjehhkmdndcmaa

/- The law FixScales: its walk. -/
namespace Go.Proofs.Ytpjehhkmdndcmaa
open Go.RowKit
/-- The least number whose product is not below. -/
def upOf (p d : Int) : Int := if 0 < p % d then p / d + 1 else p / d
theorem narrowOk (u : Int) (w : World) (h : In128 u) : Calls Try.prog 98 #[(.agg #[.int .i64 (whi (u)), .int .u64 (wlo (u))]), .int .i64 0] w fun e w' => e = .returned (.tuple #[.int .i64 (okN u), .int .i64 (okE u)]) ∧ Below w.heap.size w w' := by
  by_cases h64 : In64 u
  · have hk := okN_yes h64
    rw [hk.1, hk.2]
    exact narrowYes u w h64
  · have hk := okN_no h64
    rw [hk.1, hk.2]
    exact narrowNo u w h h64
set_option maxRecDepth 100000 in
set_option maxHeartbeats 4000000 in
theorem fixUp0 (a n d : Int) (w : World) (ha : In64 a) (hn : In64 n) (hd : 0 < d) (hd1 : d ≤ 9223372036854775807) (hr : a * n % d = 0) :
    Calls Try.prog 71 #[.int .i64 a, .int .i64 n, .int .i64 d] w fun e w' => e = .returned (.tuple #[.int .i64 (okN (a * n / d)), .int .i64 (okE (a * n / d))]) ∧ Below w.heap.size w w' := by
  have hm := mul64_128 ha hn
  have hq := div_in' hm hd
  have c2 := fun W => wideDiv (a * n) d W hm hd hd1
  rw [hr] at c2
  have C2 := Lib.hid c2
  clear c2 hr
  go_enter Try.func71, Try.ntmps71
  go_wp2_with (first | (go_at_call 57; (with_reducible refine (wideMul a n _ ha hn).mono ?_); rintro e w1 ⟨rfl, hb1⟩; obtain ⟨fc1, fg1, hc1, hf1, hz1⟩ := bget hb1; (try simp at hz1)) | (go_at_call 97; (with_reducible refine (C2.out _).mono ?_); rintro e w2 ⟨rfl, hb2⟩; obtain ⟨fc2, fg2, hc2, hf2, hz2⟩ := bget hb2; (try simp at hz2)) | (go_at_call 98; (with_reducible refine (narrowOk _ _ hq).mono ?_); rintro e w3 ⟨rfl, hb3⟩; obtain ⟨fc3, fg3, hc3, hf3, hz3⟩ := bget hb3; (try simp at hz3)) | fail)
  go_ret2
  exact ⟨rfl, by (repeat' (first | (with_reducible exact Below.refl _ _) | (with_reducible assumption) | (with_reducible refine Below.alloc ?_ ?_ _) | (with_reducible refine Below.setCell ?_ ?_ _) | (with_reducible refine Below.drew ?_) | (with_reducible refine below_drewN ?_ _) | (with_reducible refine below_via ?_ (by with_reducible assumption) ?_) | omega | (simp; done) | (simp; omega)))⟩
set_option maxRecDepth 100000 in
set_option maxHeartbeats 8000000 in
theorem fixUp1 (a n d : Int) (w : World) (ha : In64 a) (hn : In64 n) (hd : 0 < d) (hd1 : d ≤ 9223372036854775807) (hr : 0 < a * n % d) (hu : In128 (a * n / d + 1)) :
    Calls Try.prog 71 #[.int .i64 a, .int .i64 n, .int .i64 d] w fun e w' => e = .returned (.tuple #[.int .i64 (okN (a * n / d + 1)), .int .i64 (okE (a * n / d + 1))]) ∧ Below w.heap.size w w' := by
  have hm := mul64_128 ha hn
  have hq := div_in' hm hd
  have i1 : In128 1 := by unfold In128; omega
  have c2 := fun W => wideDiv (a * n) d W hm hd hd1
  obtain ⟨q, hqe⟩ : ∃ q, q = a * n / d := ⟨_, rfl⟩
  obtain ⟨r, hre⟩ : ∃ r, r = a * n % d := ⟨_, rfl⟩
  rw [← hqe] at hq hu c2 ⊢
  rw [← hre] at hr c2
  have g : decide (0 < r) = true := by simpa using hr
  have C2 := Lib.hid c2
  clear c2 hqe hre
  go_enter Try.func71, Try.ntmps71
  go_wp2_with (first | (go_at_call 57; (with_reducible refine (wideMul a n _ ha hn).mono ?_); rintro e w1 ⟨rfl, hb1⟩; obtain ⟨fc1, fg1, hc1, hf1, hz1⟩ := bget hb1; (try simp at hz1)) | (go_at_call 97; (with_reducible refine (C2.out _).mono ?_); rintro e w2 ⟨rfl, hb2⟩; obtain ⟨fc2, fg2, hc2, hf2, hz2⟩ := bget hb2; (try simp at hz2)) | fail)
  go_region_with (first | (go_at_call 89; (with_reducible refine (wideOf 1 _ (by unfold In64; omega)).mono ?_); rintro e w3 ⟨rfl, hb3⟩; obtain ⟨fc3, fg3, hc3, hf3, hz3⟩ := bget hb3; (try simp at hz3)) | (go_at_call 99; (with_reducible refine (wideAdd2 q 1 (q + 1) _ _ hq i1 rfl hu ?_ ?_ ?_ ?_ ?_).mono ?_); (focus (first | (simp; done) | (simp; omega))); (focus (first | (simp [go_sem]; done) | (simp [go_sem, ↓IntWalk.iteOmega]; done))); (focus (first | (simp [go_sem]; done) | (simp [go_sem, ↓IntWalk.iteOmega]; done))); (focus (first | (simp [go_sem]; done) | (simp [go_sem, ↓IntWalk.iteOmega]; done))); (focus (first | (simp [go_sem]; done) | (simp [go_sem, ↓IntWalk.iteOmega]; done))); rintro e w4 ⟨rfl, hb4⟩; obtain ⟨fc4, fg4, hc4, hf4, hz4⟩ := bget hb4; (try simp at hz4)) | fail)
  all_goals
    go_wp2_with (first | (go_at_call 98; (with_reducible refine (narrowOk _ _ hu).mono ?_); rintro e w5 ⟨rfl, hb5⟩; obtain ⟨fc5, fg5, hc5, hf5, hz5⟩ := bget hb5; (try simp at hz5)) | fail)
    go_ret2
    exact ⟨rfl, by (repeat' (first | (with_reducible exact Below.refl _ _) | (with_reducible assumption) | (with_reducible refine Below.alloc ?_ ?_ _) | (with_reducible refine Below.setCell ?_ ?_ _) | (with_reducible refine Below.drew ?_) | (with_reducible refine below_drewN ?_ _) | (with_reducible refine below_via ?_ (by with_reducible assumption) ?_) | omega | (simp; done) | (simp; omega)))⟩
theorem fixUp (a n d : Int) (w : World) (ha : In64 a) (hn : In64 n) (hd : 0 < d) (hd1 : d ≤ 9223372036854775807) :
    Calls Try.prog 71 #[.int .i64 a, .int .i64 n, .int .i64 d] w fun e w' => e = .returned (.tuple #[.int .i64 (okN (upOf (a * n) d)), .int .i64 (okE (upOf (a * n) d))]) ∧ Below w.heap.size w w' := by
  have hr1 := Int.emod_nonneg (a * n) (show d ≠ 0 by omega)
  unfold upOf
  by_cases h : 0 < a * n % d
  · rw [if_pos h]
    refine fixUp1 a n d w ha hn hd hd1 h ?_
    have h1 : (a * n).natAbs ≤ 9223372036854775808 * 9223372036854775808 := abs_mul_le (by unfold In64 at ha; omega) (by unfold In64 at hn; omega)
    have h2 := div_in' (mul64_128 ha hn) hd
    unfold In128 at h2
    have h3 : a * n / d ≤ 85070591730234615865843651857942052864 := by
      by_cases h0 : 0 ≤ a * n
      · have := Int.ediv_le_self d h0
        omega
      · have : a * n / d < 0 := Int.ediv_lt_of_lt_mul hd (by omega)
        omega
    unfold In128
    omega
  · rw [if_neg h]
    exact fixUp0 a n d w ha hn hd hd1 (by omega)
set_option maxRecDepth 100000 in
set_option maxHeartbeats 4000000 in
theorem fixUpNeg (a n d : Int) (w : World) (ha : In64 a) (hn : In64 n) (hd : d < 0) :
    Calls Try.prog 71 #[.int .i64 a, .int .i64 n, .int .i64 d] w fun e w' => e = .returned (.tuple #[.int .i64 0, .int .i64 2]) ∧ Below w.heap.size w w' := by
  go_enter Try.func71, Try.ntmps71
  go_wp2_with (first | (go_at_call 57; (with_reducible refine (wideMul a n _ ha hn).mono ?_); rintro e w1 ⟨rfl, hb1⟩; obtain ⟨fc1, fg1, hc1, hf1, hz1⟩ := bget hb1; (try simp at hz1)) | (go_at_call 97; (with_reducible refine (wideDivNeg (a * n) d _ hd).mono ?_); rintro e w2 ⟨rfl, hb2⟩; obtain ⟨fc2, fg2, hc2, hf2, hz2⟩ := bget hb2; (try simp at hz2)) | (go_at_call 98; (with_reducible refine (narrowErr 0 0 2 _ rfl).mono ?_); rintro e w3 ⟨rfl, hb3⟩; obtain ⟨fc3, fg3, hc3, hf3, hz3⟩ := bget hb3; (try simp at hz3)) | fail)
  go_ret2
  exact ⟨rfl, by (repeat' (first | (with_reducible exact Below.refl _ _) | (with_reducible assumption) | (with_reducible refine Below.alloc ?_ ?_ _) | (with_reducible refine Below.setCell ?_ ?_ _) | (with_reducible refine Below.drew ?_) | (with_reducible refine below_drewN ?_ _) | (with_reducible refine below_via ?_ (by with_reducible assumption) ?_) | omega | (simp; done) | (simp; omega)))⟩
set_option maxRecDepth 100000 in
set_option maxHeartbeats 4000000 in
theorem fixUpZero (a n : Int) (w : World) (ha : In64 a) (hn : In64 n) :
    Calls Try.prog 71 #[.int .i64 a, .int .i64 n, .int .i64 0] w fun e w' => e = .returned (.tuple #[.int .i64 0, .int .i64 8]) ∧ Below w.heap.size w w' := by
  go_enter Try.func71, Try.ntmps71
  go_wp2_with (first | (go_at_call 57; (with_reducible refine (wideMul a n _ ha hn).mono ?_); rintro e w1 ⟨rfl, hb1⟩; obtain ⟨fc1, fg1, hc1, hf1, hz1⟩ := bget hb1; (try simp at hz1)) | (go_at_call 97; (with_reducible refine (wideDivZero (a * n) _).mono ?_); rintro e w2 ⟨rfl, hb2⟩; obtain ⟨fc2, fg2, hc2, hf2, hz2⟩ := bget hb2; (try simp at hz2)) | (go_at_call 98; (with_reducible refine (narrowErr 0 0 8 _ rfl).mono ?_); rintro e w3 ⟨rfl, hb3⟩; obtain ⟨fc3, fg3, hc3, hf3, hz3⟩ := bget hb3; (try simp at hz3)) | fail)
  go_ret2
  exact ⟨rfl, by (repeat' (first | (with_reducible exact Below.refl _ _) | (with_reducible assumption) | (with_reducible refine Below.alloc ?_ ?_ _) | (with_reducible refine Below.setCell ?_ ?_ _) | (with_reducible refine Below.drew ?_) | (with_reducible refine below_drewN ?_ _) | (with_reducible refine below_via ?_ (by with_reducible assumption) ?_) | omega | (simp; done) | (simp; omega)))⟩
set_option maxRecDepth 100000 in
set_option maxHeartbeats 8000000 in
theorem refUp (p d : Int) (s : Bool) (l : List Int) (A : Option Addr) (c L : Nat) (w : World) (hd : 0 < d) (hd1 : d ≤ 9223372036854775807) (hL : L ≤ 400000) (hl : l.length ≤ L) (hB : IsBig w p s A l c) :
    Calls Try.prog 73 #[.agg #[.bool s, .slice A l.length c], .int .u64 d] w (BigPost w (upOf p d) (L + 200)) := by
  have hr1 := Int.emod_nonneg p (show d ≠ 0 by omega)
  have HB := Lib.hid hB
  clear hB
  have c1 := fun W (h : IsBig W p s A l c) => bigDiv p d s l A c L W hd hd1 hL hl h
  by_cases h : 0 < p % d
  · have HU := Lib.hid (show upOf p d = p / d + 1 from by unfold upOf; rw [if_pos h])
    obtain ⟨r, hre⟩ : ∃ r, r = p % d := ⟨_, rfl⟩
    rw [← hre] at h c1
    have g : decide (0 < r) = true := by simpa using h
    have C1 := Lib.hid c1
    clear c1 hre
    go_enter Try.func73, Try.ntmps73
    go_wp2_with (first | (go_at_call 72; (with_reducible refine (C1.out _ (HB.out.keep (by (repeat' (first | (with_reducible exact Below.refl _ _) | (with_reducible assumption) | (with_reducible refine Below.alloc ?_ ?_ _) | (with_reducible refine Below.setCell ?_ ?_ _) | (with_reducible refine Below.drew ?_) | (with_reducible refine below_drewN ?_ _) | (with_reducible refine below_via ?_ (by with_reducible assumption) ?_) | omega | (simp; done) | (simp; omega)))))).mono ?_); rintro e w1 ⟨s1, A1, l1, c1, rfl, hB1, hl1, hb1⟩; have HB1 := Lib.hid hB1; clear hB1; obtain ⟨fc1, fg1, hc1, hf1, hz1⟩ := bget hb1; (try simp at hz1)) | fail)
    go_region_with (first | (go_at_call 58; (with_reducible refine (bigNat 1 _ (by omega) (by omega)).mono ?_); rintro e w5 ⟨A5, l5, c5, rfl, hB5, hl5, hb5⟩; have HB5 := Lib.hid hB5; clear hB5; obtain ⟨fc5, fg5, hc5, hf5, hz5⟩ := bget hb5; (try simp at hz5)) | (go_at_call 21; (with_reducible refine (bigAdd (p / d) 1 s1 false l1 l5 A1 A5 c1 c5 (L + 65) _ (by omega) hl1 (by omega) (HB1.out.keep (by (repeat' (first | (with_reducible exact Below.refl _ _) | (with_reducible assumption) | (with_reducible refine Below.alloc ?_ ?_ _) | (with_reducible refine Below.setCell ?_ ?_ _) | (with_reducible refine Below.drew ?_) | (with_reducible refine below_drewN ?_ _) | (with_reducible refine below_via ?_ (by with_reducible assumption) ?_) | omega | (simp; done) | (simp; omega))))) (HB5.out.keep (by (repeat' (first | (with_reducible exact Below.refl _ _) | (with_reducible assumption) | (with_reducible refine Below.alloc ?_ ?_ _) | (with_reducible refine Below.setCell ?_ ?_ _) | (with_reducible refine Below.drew ?_) | (with_reducible refine below_drewN ?_ _) | (with_reducible refine below_via ?_ (by with_reducible assumption) ?_) | omega | (simp; done) | (simp; omega)))))).mono ?_); rintro e w6 ⟨s6, A6, l6, c6, rfl, hB6, hl6, hb6⟩; have HB6 := Lib.hid hB6; clear hB6; obtain ⟨fc6, fg6, hc6, hf6, hz6⟩ := bget hb6; (try simp at hz6)) | fail)
    all_goals
      go_wp2_with fail
      have k0 : w6.cell? ⟨w.heap.size + 1, 0, none⟩ = some (.bool false) := by simp [go_sem, hc6, hc5, hc1, ↓IntWalk.iteOmega]
      have k1 : w6.cell? ⟨w.heap.size + 1, 1, none⟩ = some (.slice none 0 0) := by simp [go_sem, hc6, hc5, hc1, ↓IntWalk.iteOmega]
      refine bodyPost_ret (v := .agg #[.bool s6, .slice A6 l6.length c6]) (by simp [results, Try.results73, go_sem, k0, k1]; try rfl) rfl ⟨_, A6, l6, c6, rfl, ?_, by omega, ?_⟩
      · rw [HU.out]
        exact (HB6.out.far k0 (by simp) _).far ((World.cell?_setCell_other _ _ _ _ (by simp)).trans k1) (by simp) _
      · (repeat' (first | (with_reducible exact Below.refl _ _) | (with_reducible assumption) | (with_reducible refine Below.alloc ?_ ?_ _) | (with_reducible refine Below.setCell ?_ ?_ _) | (with_reducible refine Below.drew ?_) | (with_reducible refine below_drewN ?_ _) | (with_reducible refine below_via ?_ (by with_reducible assumption) ?_) | omega | (simp; done) | (simp; omega)))
  · have hr0 : p % d = 0 := by omega
    have HU := Lib.hid (show upOf p d = p / d from by unfold upOf; rw [if_neg h])
    rw [hr0] at c1
    have C1 := Lib.hid c1
    clear c1 h hr0 hr1
    go_enter Try.func73, Try.ntmps73
    go_wp2_with (first | (go_at_call 72; (with_reducible refine (C1.out _ (HB.out.keep (by (repeat' (first | (with_reducible exact Below.refl _ _) | (with_reducible assumption) | (with_reducible refine Below.alloc ?_ ?_ _) | (with_reducible refine Below.setCell ?_ ?_ _) | (with_reducible refine Below.drew ?_) | (with_reducible refine below_drewN ?_ _) | (with_reducible refine below_via ?_ (by with_reducible assumption) ?_) | omega | (simp; done) | (simp; omega)))))).mono ?_); rintro e w1 ⟨s1, A1, l1, c1, rfl, hB1, hl1, hb1⟩; have HB1 := Lib.hid hB1; clear hB1; obtain ⟨fc1, fg1, hc1, hf1, hz1⟩ := bget hb1; (try simp at hz1)) | fail)
    have k0 : (w1.alloc (.cells #[.bool s1, .slice A1 l1.length c1] 33)).cell? ⟨w.heap.size + 1, 0, none⟩ = some (.bool false) := by simp [go_sem, hc1, ↓IntWalk.iteOmega]
    have k1 : (w1.alloc (.cells #[.bool s1, .slice A1 l1.length c1] 33)).cell? ⟨w.heap.size + 1, 1, none⟩ = some (.slice none 0 0) := by simp [go_sem, hc1, ↓IntWalk.iteOmega]
    refine bodyPost_ret (v := .agg #[.bool s1, .slice A1 l1.length c1]) (by simp [results, Try.results73, go_sem, k0, k1]; try rfl) rfl ⟨_, A1, l1, c1, rfl, ?_, by omega, ?_⟩
    · rw [HU.out]
      exact ((HB1.out.keep ((Below.refl _ _).alloc (Nat.le_refl _) _)).far k0 (by simp) _).far ((World.cell?_setCell_other _ _ _ _ (by simp)).trans k1) (by simp) _
    · (repeat' (first | (with_reducible exact Below.refl _ _) | (with_reducible assumption) | (with_reducible refine Below.alloc ?_ ?_ _) | (with_reducible refine Below.setCell ?_ ?_ _) | (with_reducible refine Below.drew ?_) | (with_reducible refine below_drewN ?_ _) | (with_reducible refine below_via ?_ (by with_reducible assumption) ?_) | omega | (simp; done) | (simp; omega)))
end Go.Proofs.Ytpjehhkmdndcmaa

/- Layer 2: the reference's Sum, Product; fix.Product. -/
namespace Go.Proofs.Ytpjehhkmdndcmaa
open Go.RowKit
theorem isBig_nil2 {w : World} : IsBig w 0 false none [] 0 := ⟨fun i r hr => by simp at hr, bit_nil, top_nil, rfl, by simp, by simp, rfl⟩
theorem sum_take1 (l : List Int) (k : Nat) (h : k < l.length) : (l.take (k + 1)).sum = (l.take k).sum + l[k] := by
  rw [List.take_succ_eq_append_getElem h, List.sum_append]; simp
def prodF : Int → List Int → Option Int
  | a, [] => some a
  | a, x :: l => if in64 (a * x) then prodF (a * x) l else none
theorem prodF_step {l : List Int} {k : Nat} (h : k < l.length) (p : Int) : prodF p (l.drop k) = if in64 (p * l[k]) then prodF (p * l[k]) (l.drop (k + 1)) else none := by
  rw [List.drop_eq_getElem_cons h]; rfl
theorem prodF_end {l : List Int} {k : Nat} (h : ¬ k < l.length) (p : Int) : prodF p (l.drop k) = some p := by
  rw [List.drop_eq_nil_of_le (by omega)]; rfl
theorem big64_len {w : World} {p : Int} {s : Bool} {A : Option Addr} {l : List Int} {c : Nat} (h : IsBig w p s A l c) (hp : In64 p) : l.length ≤ 64 := by
  refine len_le h.bit h.top (k := 64) ?_
  rw [h.val]
  have : pw 64 = 18446744073709551616 := by decide
  rw [this]
  unfold In64 at hp
  unfold iabs; split <;> omega
def prN (l : List Int) : Int := (prodF 1 l).getD 0
def prE (l : List Int) : Int := if (prodF 1 l).isSome then 0 else 7
set_option maxRecDepth 100000 in
set_option maxHeartbeats 8000000 in
theorem fixProduct (l : List Int) (A : Option Addr) (c : Nat) (w : World) (h40 : l.length ≤ 40) (hin : ∀ n ∈ l, In64 n) (hr : Rd w A 1 (l.map encI)) :
    Calls Try.prog 56 #[.slice A l.length c] w fun e w' => e = .returned (.tuple #[.int .i64 (prN l), .int .i64 (prE l)]) ∧ Below w.heap.size w w' := by
  have HR := Lib.hid hr
  have HIN := Lib.hid hin
  clear hr hin
  go_enter Try.func56, Try.ntmps56
  go_wp2_with fail
  go_loopw [4, 11] (fun v i wr => ∃ (k : Nat) (p : Int), k ≤ l.length ∧ i = .int .i64 k ∧ v = .int .i64 p ∧ In64 p ∧ prodF 1 l = prodF p (l.drop k) ∧ Below w.heap.size w wr) (fun _ i _ => l.length - (intOf i).toNat)
  case atStart => exact ⟨0, 1, Nat.zero_le _, rfl, rfl, by unfold In64; omega, rfl, by (repeat' (first | (with_reducible exact Below.refl _ _) | (with_reducible assumption) | (with_reducible refine Below.alloc ?_ ?_ _) | (with_reducible refine Below.setCell ?_ ?_ _) | (with_reducible refine Below.drew ?_) | (with_reducible refine below_drewN ?_ _) | (with_reducible refine below_via ?_ (by with_reducible assumption) ?_) | omega | (simp; done) | (simp; omega)))⟩
  case round =>
    obtain ⟨k, p, hk, rfl, rfl, hp, hpr, hbl⟩ := hrel
    have hz := hbl.size
    have Hbl := Lib.hid hbl
    clear hbl
    by_cases hlt : k < l.length
    · have d2 : decide ((k : Int) < (l.length : Int)) = true := by simpa using hlt
      rw [prodF_step hlt] at hpr
      obtain ⟨b, o, hA, hb, q⟩ := HR.out k (encI l[k]) (by simp [hlt])
      have q0 := (Hbl.out.cell (p := ⟨b, o + k * 1 + 0, none⟩) (hb)).trans (q 0 _ rfl)
      have hx := HIN.out l[k] (List.getElem_mem hlt)
      obtain ⟨x, hxe⟩ : ∃ x, x = l[k] := ⟨_, rfl⟩
      rw [← hxe] at q0 hx
      have hbw : b < wr.heap.size := (by omega)
      simp at q0
      clear q
      cases hA
      rw [← hxe] at hpr
      clear hxe
      have h128 := mul64_128 hp hx
      by_cases h64 : In64 (p * x)
      · rw [in64_iff.2 h64, if_pos rfl] at hpr
        have HPR := Lib.hid hpr
        clear hpr
        go_wp2_with (first | (go_at_call 57; (with_reducible refine (wideMul p x _ hp hx).mono ?_); rintro e w1 ⟨rfl, hb1⟩; obtain ⟨fc1, fg1, hc1, hf1, hz1⟩ := bget hb1; (try simp at hz1)) | (go_at_call 62; (with_reducible refine (wideIntYes (p * x) _ h64).mono ?_); rintro e w2 ⟨rfl, hb2⟩; obtain ⟨fc2, fg2, hc2, hf2, hz2⟩ := bget hb2; (try simp at hz2)) | fail)
        go_roundw
        case rel => exact ⟨k + 1, p * x, by omega, by go_num, rfl, h64, HPR.out, by (have hbl := Hbl.out; (repeat' (first | (with_reducible exact Below.refl _ _) | (with_reducible assumption) | (with_reducible refine Below.alloc ?_ ?_ _) | (with_reducible refine Below.setCell ?_ ?_ _) | (with_reducible refine Below.drew ?_) | (with_reducible refine below_drewN ?_ _) | (with_reducible refine below_via ?_ (by with_reducible assumption) ?_) | omega | (simp; done) | (simp; omega))))⟩
        case measure => (simp [intOf]; omega)
      · rw [in64_not' h64, if_neg (by simp)] at hpr
        have HPN := Lib.hid (show prN l = 0 from by unfold prN; rw [hpr]; rfl)
        have HPE := Lib.hid (show prE l = 7 from by unfold prE; rw [hpr]; rfl)
        clear hpr
        go_wp2_with (first | (go_at_call 57; (with_reducible refine (wideMul p x _ hp hx).mono ?_); rintro e w1 ⟨rfl, hb1⟩; obtain ⟨fc1, fg1, hc1, hf1, hz1⟩ := bget hb1; (try simp at hz1)) | (go_at_call 62; (with_reducible refine (wideIntNo (p * x) _ h128 h64).mono ?_); rintro e w2 ⟨rfl, hb2⟩; obtain ⟨fc2, fg2, hc2, hf2, hz2⟩ := bget hb2; (try simp at hz2)) | fail)
        go_ret2
        exact ⟨by rw [HPN.out, HPE.out]; first | done | rfl, by (have hbl := Hbl.out; (repeat' (first | (with_reducible exact Below.refl _ _) | (with_reducible assumption) | (with_reducible refine Below.alloc ?_ ?_ _) | (with_reducible refine Below.setCell ?_ ?_ _) | (with_reducible refine Below.drew ?_) | (with_reducible refine below_drewN ?_ _) | (with_reducible refine below_via ?_ (by with_reducible assumption) ?_) | omega | (simp; done) | (simp; omega))))⟩
    · have d2 : decide ((k : Int) < (l.length : Int)) = false := by simpa using hlt
      rw [prodF_end hlt] at hpr
      have HPN := Lib.hid (show prN l = p from by unfold prN; rw [hpr]; rfl)
      have HPE := Lib.hid (show prE l = 0 from by unfold prE; rw [hpr]; rfl)
      clear hpr
      go_wp2_with fail
      go_ret2
      exact ⟨by rw [HPN.out, HPE.out]; first | done | rfl, by (have hbl := Hbl.out; (repeat' (first | (with_reducible exact Below.refl _ _) | (with_reducible assumption) | (with_reducible refine Below.alloc ?_ ?_ _) | (with_reducible refine Below.setCell ?_ ?_ _) | (with_reducible refine Below.drew ?_) | (with_reducible refine below_drewN ?_ _) | (with_reducible refine below_via ?_ (by with_reducible assumption) ?_) | omega | (simp; done) | (simp; omega))))⟩
end Go.Proofs.Ytpjehhkmdndcmaa
