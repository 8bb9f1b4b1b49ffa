/- The contract of the reference's Mul. -/
import Derived.Test.YtenehpcliajdnaaBig8
import Derived.Test.YtenehpcliajdnaaApp0
namespace Go.Proofs.Ytenehpcliajdnaa
open Go.RowKit
theorem mul_sgn {a b x : Int} {sa sb : Bool} (ha : sa = decide (a < 0)) (hb : sb = decide (b < 0)) (hx : x = iabs (a * b)) : (!(sa == sb) && decide (0 < x)) = decide (a * b < 0) := by
  have h := sgn_mul a b
  rw [iabs_mul, ← hx, ← ha, ← hb] at h
  have h0 : 0 ≤ x := by rw [hx]; unfold iabs; split <;> omega
  cases sa <;> cases sb <;> simp [sgn] at h ⊢ <;> omega
set_option maxRecDepth 100000 in
set_option maxHeartbeats 4000000 in
theorem bigMul (a b : Int) (sa sb : Bool) (la lb : List Int) (A B : Option Addr) (c d L : Nat) (w : World) (hL : L ≤ 100000) (hla : la.length ≤ L) (hlb : lb.length ≤ L) (ha : IsBig w a sa A la c) (hb : IsBig w b sb B lb d) :
    Calls Try.prog 15 #[.agg #[.bool sa, .slice A la.length c], .agg #[.bool sb, .slice B lb.length d]] w (BigPost w (a * b) (L + L)) := by
  have HA := Lib.hid ha
  have HB := Lib.hid hb
  clear ha hb
  go_enter Try.func15, Try.ntmps15
  go_wp2_with (first | (at_builtin; refine wpList_any rfl _ _ _ rfl elB (w.heap.size + 3) _ _ rfl (Own.nil _ _ _ _) A la.length c rfl (la.map encB) (by simp) (HA.out.rd.keep (by (repeat' (first | (with_reducible exact Below.refl _ _) | (with_reducible assumption) | (with_reducible refine Below.alloc ?_ ?_ _) | (with_reducible refine Below.setCell ?_ ?_ _) | (with_reducible refine Below.drew ?_) | (with_reducible refine below_drewN ?_ _) | (with_reducible refine below_via ?_ (by with_reducible assumption) ?_) | omega | (simp; done) | (simp; omega))))) (encB_one la) (by unfold maxLen; first | (simp; done) | omega | (simp; omega)) (by first | (simp; done) | omega | (simp; omega)) (by first | omega | (simp; done) | (simp; omega)) ?_; intro v1 w1 hown1 hb1; have hown2 : Own w1 (w.heap.size + 3) 5 1 v1 (la.map encB) := (by simpa using hown1); have HO1 := Lib.hid hown2; have Hb1 := Lib.hid hb1; have hz1 := hb1.size; simp at hz1; clear hown1 hown2 hb1) | fail)
  go_loopw [5, 6, 7] (fun sv rv i wr => ∃ (k : Nat) (S R : List Int), k ≤ lb.length ∧ i = .int .i64 k ∧ Own wr (w.heap.size + 3) 5 1 sv (S.map encB) ∧ Own wr (w.heap.size + 3) 5 1 rv (R.map encB) ∧ S.length ≤ la.length + k ∧ R.length = la.length + k ∧ Bit S ∧ Bit R ∧ val S = val la * val (lb.take k) ∧ val R = pw k * val la ∧ Below (w.heap.size + 3) w1 wr) (fun _ _ i _ => lb.length - (intOf i).toNat)
  case atStart => exact ⟨0, [], la, Nat.zero_le _, rfl, Own.nil _ _ _ _, HO1.out, by simp, by simp, bit_nil, HA.out.bit, by simp [val], by rw [pw_zero, Int.one_mul], Below.refl _ _⟩
  case round =>
    obtain ⟨k, S, R, hk, rfl, hoS, hoR, hlS, hlR, hbS, hbR, hvS, hvR, hbl⟩ := hrel
    have hz := hbl.size
    have hbl0 : Below (w.heap.size + 3) (((w.alloc (.cells #[.bool sa, .slice A la.length c] 30)).alloc (.cells #[.bool sb, .slice B lb.length d] 30)).alloc (.cells #[.bool false, .slice none 0 0] 30)) wr := Hb1.out.trans hbl
    have a0 := (hbl0.cell (p := ⟨w.heap.size, 0, none⟩) (by simp))
    have b0 := (hbl0.cell (p := ⟨w.heap.size + 1, 0, none⟩) (by simp))
    have b1 := (hbl0.cell (p := ⟨w.heap.size + 1, 1, none⟩) (by simp))
    have r0 := (hbl0.cell (p := ⟨w.heap.size + 1 + 1, 0, none⟩) (by simp))
    have r1 := (hbl0.cell (p := ⟨w.heap.size + 1 + 1, 1, none⟩) (by simp))
    have f0 := (hbl0.frozen (p := ⟨w.heap.size + 1 + 1, 0, none⟩) (by simp))
    have f1 := (hbl0.frozen (p := ⟨w.heap.size + 1 + 1, 1, none⟩) (by simp))
    simp [go_sem] at a0 b0 b1 r0 r1 f0 f1
    have hbw : Below w.heap.size w wr := by (repeat' (first | (with_reducible exact Below.refl _ _) | (with_reducible assumption) | (with_reducible refine Below.alloc ?_ ?_ _) | (with_reducible refine Below.setCell ?_ ?_ _) | (with_reducible refine Below.drew ?_) | (with_reducible refine below_drewN ?_ _) | (with_reducible refine below_via ?_ (by with_reducible assumption) ?_) | omega | (simp; done) | (simp; omega)))
    have Hbl := Lib.hid hbl
    have Hbl0 := Lib.hid hbl0
    have Hbw := Lib.hid hbw
    have HBS := Lib.hid hbS
    have HBR := Lib.hid hbR
    have HVS := Lib.hid hvS
    have HVR := Lib.hid hvR
    have lLR : R.length ≤ 1000000 := by omega
    have HLR := Lib.hid hlR
    have HOS := Lib.hid hoS
    have HOR := Lib.hid hoR
    obtain ⟨AS, cS, rfl, hcS, hmS, hrS, _⟩ := hoS.shape
    obtain ⟨AR, cR, rfl, hcR, hmR, hrR, _⟩ := hoR.shape
    have HRS := Lib.hid hrS
    have HRR := Lib.hid hrR
    have HCS := Lib.hid hcS
    rw [List.length_map] at HOS HOR ⊢
    rw [List.length_map] at HCS ⊢
    clear hlR hbl hbl0 hbw hbS hbR hvS hvR hoS hoR hrS hrR hcS hcR
    by_cases hlt : k < lb.length
    · have d1 : decide ((k : Int) < (lb.length : Int)) = true := by simpa using hlt
      have hx := bit_get HB.out.bit k
      obtain ⟨bb, bo, rfl, hbb, q1⟩ := bit_cell HB.out.rd Hbw.out (Nat.le_refl _) hlt
      obtain ⟨x, hxe⟩ : ∃ x, x = lb.getD k 0 := ⟨_, rfl⟩
      rw [← hxe] at q1 hx
      have HX := Lib.hid hxe
      clear hxe
      rcases (show x = 0 ∨ x = 1 by omega) with e | e
      · subst e
        go_wp2_with (first | ((at_builtin; refine wpList_app rfl _ _ _ rfl elB wr.heap.size _ _ rfl ((Own.nil wr wr.heap.size 5 1).alloc _) (some ⟨wr.heap.size, 0, none⟩) 1 1 rfl [encB 0] rfl (fun h => by cases h) rd_one ((by simp [encB]; rfl)) (by unfold maxLen; first | (simp; done) | omega | (simp; omega)) (by first | (simp; done) | omega | (simp; omega)) (by first | omega | (simp; done) | (simp; omega)) ?_; intro v' w3 hown3 hb3); obtain ⟨fc3, fg3, hc3, hf3, hz3⟩ := bget hb3; (try simp at hz3)) | (at_builtin; refine wpList_any rfl _ _ _ rfl elB wr.heap.size _ _ rfl hown3 AR R.length cR rfl (R.map encB) (by simp) (HRR.out.keep (by (repeat' (first | (with_reducible exact Below.refl _ _) | (with_reducible assumption) | (with_reducible refine Below.alloc ?_ ?_ _) | (with_reducible refine Below.setCell ?_ ?_ _) | (with_reducible refine Below.drew ?_) | (with_reducible refine below_drewN ?_ _) | (with_reducible refine below_via ?_ (by with_reducible assumption) ?_) | omega | (simp; done) | (simp; omega))))) (encB_one R) (by unfold maxLen; first | (simp; done) | omega | (simp; omega)) (by first | (simp; done) | omega | (simp; omega)) (by have := hb3.size; simp at this; omega) ?_; intro v4 w4 hown4 hb4; have hown5 : Own w4 wr.heap.size 5 1 v4 ((0 :: R).map encB) := (by simpa [encB] using hown4); have HO5 := Lib.hid hown5; have Hb4 := Lib.hid (show Below wr.heap.size wr w4 from (by (repeat' (first | (with_reducible exact Below.refl _ _) | (with_reducible assumption) | (with_reducible refine Below.alloc ?_ ?_ _) | (with_reducible refine Below.setCell ?_ ?_ _) | (with_reducible refine Below.drew ?_) | (with_reducible refine below_drewN ?_ _) | (with_reducible refine below_via ?_ (by with_reducible assumption) ?_) | omega | (simp; done) | (simp; omega))))); clear hown4 hown5 hb3 hb4) | fail)
        go_roundw
        case rel => exact ⟨k + 1, S, 0 :: R, by omega, by go_num, HOS.out.keep Hb4.out, HO5.out.mono (by omega), by omega, by have := HLR.out; simp; omega, HBS.out, bit_cons HBR.out (by omega) (by omega), sum_none HVS.out HX.out.symm, row_next HVR.out, Hbl.out.trans (Hb4.out.mono (by omega))⟩
        case measure => simp [intOf]; omega
      · subst e
        go_wp2_with (first | (go_at_call 47; (with_reducible refine (bigPlus S R AS AR cS cR _ (by omega) (by omega) (HRS.out.keep (by (repeat' (first | (with_reducible exact Below.refl _ _) | (with_reducible assumption) | (with_reducible refine Below.alloc ?_ ?_ _) | (with_reducible refine Below.setCell ?_ ?_ _) | (with_reducible refine Below.drew ?_) | (with_reducible refine below_drewN ?_ _) | (with_reducible refine below_via ?_ (by with_reducible assumption) ?_) | omega | (simp; done) | (simp; omega))))) (HRR.out.keep (by (repeat' (first | (with_reducible exact Below.refl _ _) | (with_reducible assumption) | (with_reducible refine Below.alloc ?_ ?_ _) | (with_reducible refine Below.setCell ?_ ?_ _) | (with_reducible refine Below.drew ?_) | (with_reducible refine below_drewN ?_ _) | (with_reducible refine below_via ?_ (by with_reducible assumption) ?_) | omega | (simp; done) | (simp; omega))))) HBS.out HBR.out).mono ?_); rintro e w2 ⟨v2, l2, rfl, hown2, hb2, hbit2, hval2, hlen2⟩; have HO2 := Lib.hid hown2; have HV2 := Lib.hid hval2; have HL2 := Lib.hid hlen2; clear hown2 hval2 hlen2; obtain ⟨fc2, fg2, hc2, hf2, hz2⟩ := bget hb2; (try simp at hz2)) | ((at_builtin; refine wpList_app rfl _ _ _ rfl elB w2.heap.size _ _ rfl ((Own.nil w2 w2.heap.size 5 1).alloc _) (some ⟨w2.heap.size, 0, none⟩) 1 1 rfl [encB 0] rfl (fun h => by cases h) rd_one ((by simp [encB]; rfl)) (by unfold maxLen; first | (simp; done) | omega | (simp; omega)) (by first | (simp; done) | omega | (simp; omega)) (by first | omega | (simp; done) | (simp; omega)) ?_; intro v' w3 hown3 hb3); obtain ⟨fc3, fg3, hc3, hf3, hz3⟩ := bget hb3; (try simp at hz3)) | (at_builtin; refine wpList_any rfl _ _ _ rfl elB w2.heap.size _ _ rfl hown3 AR R.length cR rfl (R.map encB) (by simp) (HRR.out.keep (by (repeat' (first | (with_reducible exact Below.refl _ _) | (with_reducible assumption) | (with_reducible refine Below.alloc ?_ ?_ _) | (with_reducible refine Below.setCell ?_ ?_ _) | (with_reducible refine Below.drew ?_) | (with_reducible refine below_drewN ?_ _) | (with_reducible refine below_via ?_ (by with_reducible assumption) ?_) | omega | (simp; done) | (simp; omega))))) (encB_one R) (by unfold maxLen; first | (simp; done) | omega | (simp; omega)) (by first | (simp; done) | omega | (simp; omega)) (by have := hb3.size; simp at this; omega) ?_; intro v4 w4 hown4 hb4; have hown5 : Own w4 w2.heap.size 5 1 v4 ((0 :: R).map encB) := (by simpa [encB] using hown4); have HO5 := Lib.hid hown5; have Hb4 := Lib.hid (show Below w2.heap.size w2 w4 from (by (repeat' (first | (with_reducible exact Below.refl _ _) | (with_reducible assumption) | (with_reducible refine Below.alloc ?_ ?_ _) | (with_reducible refine Below.setCell ?_ ?_ _) | (with_reducible refine Below.drew ?_) | (with_reducible refine below_drewN ?_ _) | (with_reducible refine below_via ?_ (by with_reducible assumption) ?_) | omega | (simp; done) | (simp; omega))))); clear hown4 hown5 hb3 hb4) | fail)
        go_roundw
        case rel => exact ⟨k + 1, l2, 0 :: R, by omega, by go_num, (HO2.out.keep Hb4.out).mono (by omega), HO5.out.mono (by omega), by have := HL2.out; have h2 := HLR.out; omega, by have := HLR.out; simp; omega, hbit2, bit_cons HBR.out (by omega) (by omega), sum_one HVS.out HVR.out HX.out.symm HV2.out, row_next HVR.out, (Hbl.out.trans (hb2.mono (by omega))).trans (Hb4.out.mono (by omega))⟩
        case measure => simp [intOf]; omega
    · have d1 : decide ((k : Int) < (lb.length : Int)) = false := by simpa using hlt
      have hke : k = lb.length := by omega
      have hval : val S = iabs (a * b) := by rw [HVS.out, hke, List.take_length, HA.out.val, HB.out.val, iabs_mul]
      have HVAL := Lib.hid hval
      have HSN := Lib.hid (mul_sgn HA.out.sgn HB.out.sgn hval)
      clear hval hke
      go_wp2_with (go_at_call 46; (with_reducible refine (bigTrim _ S AS cS _ (by omega) (HRS.out.keep (by (repeat' (first | (with_reducible exact Below.refl _ _) | (with_reducible assumption) | (with_reducible refine Below.alloc ?_ ?_ _) | (with_reducible refine Below.setCell ?_ ?_ _) | (with_reducible refine Below.drew ?_) | (with_reducible refine below_drewN ?_ _) | (with_reducible refine below_via ?_ (by with_reducible assumption) ?_) | omega | (simp; done) | (simp; omega))))) HBS.out HCS.out hmS).mono ?_); rintro e w2 ⟨l2, rfl, hk2, ht2, hv2, hb2⟩; have Hv2 := Lib.hid hv2; clear hv2; have Hk2 := Lib.hid hk2; clear hk2; obtain ⟨fc2, fg2, hc2, hf2, hz2⟩ := bget hb2; (try simp at hz2))
      have k0 : w2.cell? ⟨w.heap.size + 1 + 1, 0, none⟩ = some (.bool false) := by simp [go_sem, hc2, r0, ↓IntWalk.iteOmega]
      have k1 : w2.cell? ⟨w.heap.size + 1 + 1, 1, none⟩ = some (.slice none 0 0) := by simp [go_sem, hc2, r1, ↓IntWalk.iteOmega]
      have hB := trim_big ((HRS.out.keep (by (repeat' (first | (with_reducible exact Below.refl _ _) | (with_reducible assumption) | (with_reducible refine Below.alloc ?_ ?_ _) | (with_reducible refine Below.setCell ?_ ?_ _) | (with_reducible refine Below.drew ?_) | (with_reducible refine below_drewN ?_ _) | (with_reducible refine below_via ?_ (by with_reducible assumption) ?_) | omega | (simp; done) | (simp; omega))))).keep hb2) HBS.out Hk2.out ht2 Hv2.out HVAL.out HCS.out hmS HSN.out
      have hl2 := trim_len Hk2.out
      refine bodyPost_ret (v := .agg #[.bool (!(sa == sb) && decide (0 < Go.Proofs.Ytenehpcliajdnaa.val S)), .slice AS l2.length cS]) (by simp [results, Try.results15, go_sem, k0, k1]; try rfl) rfl ⟨_, AS, l2, cS, rfl, (hB.far k0 (by simp) _).far ((World.cell?_setCell_other _ _ _ _ (by simp)).trans k1) (by simp) _, by omega, ?_⟩
      (have hbw := Hbw.out; (repeat' (first | (with_reducible exact Below.refl _ _) | (with_reducible assumption) | (with_reducible refine Below.alloc ?_ ?_ _) | (with_reducible refine Below.setCell ?_ ?_ _) | (with_reducible refine Below.drew ?_) | (with_reducible refine below_drewN ?_ _) | (with_reducible refine below_via ?_ (by with_reducible assumption) ?_) | omega | (simp; done) | (simp; omega))))
end Go.Proofs.Ytenehpcliajdnaa
