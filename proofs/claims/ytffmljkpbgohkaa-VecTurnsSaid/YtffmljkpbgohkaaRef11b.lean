/- Contract of the reference's Add (11). -/
import Derived.Test.YtffmljkpbgohkaaRef11a
import Derived.Deep.RegionWith
import Derived.Outline
namespace Go.Proofs.Ytffmljkpbgohkaa
open Go.RowKit
def mix (a b : List Int) (k : Nat) : List Int := a.take k ++ b.drop k
theorem mix_len {a b : List Int} {k : Nat} (h : a.length = b.length) (hk : k ≤ b.length) : (mix a b k).length = b.length := by
  unfold mix; rw [List.length_append, List.length_take, List.length_drop]; omega
theorem mix_at {a b : List Int} {k : Nat} {x : Int} (h : a.length = b.length) (hk : k < b.length) (hx : b[k]? = some x) : (mix a b k)[k]? = some x := by
  unfold mix
  rw [List.getElem?_append_right (by rw [List.length_take]; omega), List.length_take, Nat.min_eq_left (by omega), List.getElem?_drop, Nat.sub_self]
  exact hx
theorem mix_set {a b : List Int} {k : Nat} {x : Int} (h : a.length = b.length) (hk : k < b.length) (hx : a[k]? = some x) : (mix a b k).set k x = mix a b (k + 1) := by
  unfold mix
  have hl : (a.take k).length = k := by rw [List.length_take]; omega
  obtain ⟨ha, rfl⟩ := List.getElem?_eq_some_iff.1 hx
  rw [List.set_append_right _ _ (by omega), hl, Nat.sub_self, List.drop_eq_getElem_cons hk, List.set_cons_zero, List.take_succ_eq_append_getElem ha, List.append_assoc]
  rfl
theorem mix_zero (a b : List Int) : mix a b 0 = b := by simp [mix]
theorem mix_all {a b : List Int} {k : Nat} (ha : a.length ≤ k) (hb : b.length ≤ k) : mix a b k = a := by
  unfold mix; rw [List.take_of_length_le ha, List.drop_eq_nil_of_le hb]; simp
theorem sumG_snoc {ls : List (List Leg)} {k : Nat} (h : k < ls.length) (i : Int) : sumG (ls.take (k + 1)) i = sumG (ls.take k) i + getF i ls[k] := by
  unfold sumG; rw [map_snoc h, List.sum_append]; simp
theorem make8 (W : World) : (Instr.makeSlice 92 (.int .i64 8) (.int .i64 8)).run Try.prog W = .ok (.slice (some ⟨W.heap.size, 0, none⟩) 8 8) (W.alloc (.cells #[.bool false, .slice none 0 0, .bool false, .slice none 0 0, .bool false, .slice none 0 0, .bool false, .slice none 0 0, .bool false, .slice none 0 0, .bool false, .slice none 0 0, .bool false, .slice none 0 0, .bool false, .slice none 0 0] 95)) := by kernel_rfl
theorem f8_zero : f8 (sumG []) = List.replicate 8 0 := by decide
set_option maxRecDepth 100000 in
set_option maxHeartbeats 4000000 in
theorem ref11Add (ls : List (List Leg)) (A : Option Addr) (c : Nat) (w : World) (hll : ls.length ≤ 100000) (hl : Short ls) (h64 : ∀ l ∈ ls, Legs64 l) (hr : RsS 2 encLeg w ls A c) :
    Calls Try.prog 19 #[.slice A ls.length c] w (LegsPost w (addC ls) (addL ls)) := by
  have HR := Lib.hid hr
  have HL := Lib.hid hl
  have H64 := Lib.hid h64
  clear hr hl h64
  have hmk := make8
  go_enter Try.func19, Try.ntmps19
  go_wp2_with fail
  clear hmk
  go_loopw [5] (fun i wr => ∃ k : Nat, k ≤ ls.length ∧ i = .int .i64 k ∧ (allV ls = allV (ls.drop k)) ∧ OwnB wr w.heap.size (65 + 8 * k) (.slice (some ⟨w.heap.size, 0, none⟩) 8 8) (f8 (sumG (ls.take k))) ∧ Below w.heap.size w wr) (fun i _ => ls.length - (intOf i).toNat)
  case atStart => exact ⟨0, Nat.zero_le _, rfl, rfl, by rw [List.take_zero, f8_zero]; exact ownB_zeros w 8 (by unfold maxLen; omega) _ rfl (Nat.le_refl _) _, by (repeat' (first | (with_reducible exact Below.refl _ _) | (with_reducible assumption) | (with_reducible refine Below.alloc ?_ ?_ _) | (with_reducible refine Below.setCell ?_ ?_ _) | (with_reducible refine Below.drew ?_) | (with_reducible refine below_drewN ?_ _) | (with_reducible refine below_via ?_ (by with_reducible assumption) ?_) | omega | (simp; done) | (simp; omega)))⟩
  case round =>
    obtain ⟨k, hk, rfl, hv, hown, hbl⟩ := hrel
    have Hown := Lib.hid hown
    clear hown
    have Hbl := Lib.hid hbl
    have HV := Lib.hid hv
    have hz := hbl.size
    clear hbl hv
    by_cases hlt : k < ls.length
    · obtain ⟨b, o, B, d, rfl, hb, hq, hrk⟩ := HR.out.row hlt
      have HD := Lib.hid (drop_cons' hlt)
      have e0 := (Hbl.out.cell (p := ⟨b, o + k, none⟩) hb).trans hq
      have HK := Lib.hid (hrk.keep Hbl.out)
      have HRK := Lib.hid hrk
      have HKL := HL.out.pt hlt
      have c1 := fun W (h : Rd W B 2 (ls[k].map encLeg)) => refIs11 ls[k] B d W HKL h
      have HQ := Lib.hid hq
      clear hq hrk
      cases hm : isV ls[k]
      · rw [hm] at c1
        have C1 := Lib.hid c1
        have HN := Lib.hid (show allV (ls[k] :: ls.drop (k + 1)) = false from by unfold allV; rw [List.all_cons, hm]; rfl)
        clear c1 hm
        go_wp2_with (go_at_call 15; (with_reducible refine (C1.out _ HK.out.rd).mono ?_); rintro e w2 ⟨rfl, hb2⟩; have hz2 := hb2.size; have Hb2 := Lib.hid hb2; clear hb2)
        go_ret2
        exact ⟨_, by unfold addC; rw [HV.out, HD.out, HN.out]; rfl, by unfold addL; rw [HV.out, HD.out, HN.out]; exact Own.nil _ _ _ _, by (have hbl := Hbl.out; have hb2 := Hb2.out; (repeat' (first | (with_reducible exact Below.refl _ _) | (with_reducible assumption) | (with_reducible refine Below.alloc ?_ ?_ _) | (with_reducible refine Below.setCell ?_ ?_ _) | (with_reducible refine Below.drew ?_) | (with_reducible refine below_drewN ?_ _) | (with_reducible refine below_via ?_ (by with_reducible assumption) ?_) | omega | (simp; done) | (simp; omega))))⟩
      · rw [hm] at c1
        have C1 := Lib.hid c1
        have HN := Lib.hid (show allV (ls[k] :: ls.drop (k + 1)) = allV (ls.drop (k + 1)) from by unfold allV; rw [List.all_cons, hm]; rfl)
        clear c1 hm
        go_wp2_with (go_at_call 15; (with_reducible refine (C1.out _ HK.out.rd).mono ?_); rintro e w2 ⟨rfl, hb2⟩; obtain ⟨fc2, fg2, hc2, hf2, hz2⟩ := bget hb2; (try simp at hz2); have Hb2 := Lib.hid hb2; clear hb2)
        obtain ⟨wo, hwo⟩ : ∃ wo : World, wo = w2 := ⟨_, rfl⟩
        have HO2 := Lib.hid (Hown.out.keep Hb2.out)
        have HB2 := Lib.hid (Hbl.out.trans (Hb2.out.mono hz))
        have hzz := HB2.out.size
        clear hc2 hf2 e0
        rw [← hwo] at HO2 HB2 hzz ⊢
        clear hwo
        go_loopw [6] (fun i wr => ∃ j : Nat, j ≤ 8 ∧ i = .int .i64 j ∧ OwnB wr w.heap.size (65 + 8 * k + j) (.slice (some ⟨w.heap.size, 0, none⟩) 8 8) (mix (f8 (sumG (ls.take (k + 1)))) (f8 (sumG (ls.take k))) j) ∧ Below w.heap.size w wr) (fun i _ => 8 - (intOf i).toNat)
        case atStart => exact ⟨0, Nat.zero_le _, rfl, by rw [mix_zero]; exact HO2.out.mono (Nat.le_refl _) (by omega), HB2.out⟩
        case round =>
          obtain ⟨j, hj, rfl, hown, hbl⟩ := hrel
          have Hown3 := Lib.hid hown
          have Hbl3 := Lib.hid hbl
          have hz3 := hbl.size
          clear hown hbl
          by_cases h8 : j < 8
          · obtain ⟨s, A1, l1, d1, c0, c1, hB, hl1⟩ := Hown3.out.at (mix_at (by rw [f8_len, f8_len]) (by rw [f8_len]; exact h8) (f8_at _ h8))
            have e0 := (Hbl3.out.cell (p := ⟨b, o + k, none⟩) hb).trans HQ.out
            have c3 := fun W (h : Rd W B 2 (ls[k].map encLeg)) => refGet11 ls[k] ((j : Int) + 1) B d W HKL h
            have I3 := get64 (i := (j : Int) + 1) (H64.out _ (List.getElem_mem hlt))
            have HSG := Lib.hid (sumG_snoc hlt ((j : Int) + 1))
            obtain ⟨n, hn⟩ : ∃ n, n = getF ((j : Int) + 1) ls[k] := ⟨_, rfl⟩
            rw [← hn] at c3 I3 HSG
            have C3 := Lib.hid c3
            have HK3 := Lib.hid (HRK.out.keep Hbl3.out)
            have HB := Lib.hid hB
            have hfz := Hown3.out.frozen.1
            have hgz := Hown3.out.frozen.2.2
            have jb : (j : Int) < 8 := by omega
            have wj : IntKind.i64.wrap ((j : Int) + 1) = (j : Int) + 1 := IntWalk.i64_in _ (by omega)
            clear c3 hn hB
            go_wp2_with fail
            go_region_with (first | (go_at_call 17; (with_reducible refine (C3.out _ (HK3.out.keep (by (repeat' (first | (with_reducible exact Below.refl _ _) | (with_reducible assumption) | (with_reducible refine Below.alloc ?_ ?_ _) | (with_reducible refine Below.setCell ?_ ?_ _) | (with_reducible refine Below.drew ?_) | (with_reducible refine below_drewN ?_ _) | (with_reducible refine below_via ?_ (by with_reducible assumption) ?_) | omega | (simp; done) | (simp; omega))))).rd).mono ?_); rintro e w3 ⟨rfl, hb3⟩; obtain ⟨fc3, fg3, hc3, hf3, hz3⟩ := bget hb3; try simp at hz3) | (go_at_call 62; (with_reducible refine (bigOf n _ I3).mono ?_); rintro e w4 ⟨s4, A4, l4, c4, rfl, hB4, hl4, hb4⟩; have HB4 := Lib.hid hB4; clear hB4; obtain ⟨fc4, fg4, hc4, hf4, hz4⟩ := bget hb4; (try simp at hz4)) | (go_at_call 61; (with_reducible refine (bigAdd _ n s s4 l1 l4 A1 A4 d1 c4 (65 + 8 * k + j) _ (by omega) hl1 (by omega) (HB.out.keep (by (repeat' (first | (with_reducible exact Below.refl _ _) | (with_reducible assumption) | (with_reducible refine Below.alloc ?_ ?_ _) | (with_reducible refine Below.setCell ?_ ?_ _) | (with_reducible refine Below.drew ?_) | (with_reducible refine below_drewN ?_ _) | (with_reducible refine below_via ?_ (by with_reducible assumption) ?_) | omega | (simp; done) | (simp; omega))))) (HB4.out.keep (by (repeat' (first | (with_reducible exact Below.refl _ _) | (with_reducible assumption) | (with_reducible refine Below.alloc ?_ ?_ _) | (with_reducible refine Below.setCell ?_ ?_ _) | (with_reducible refine Below.drew ?_) | (with_reducible refine below_drewN ?_ _) | (with_reducible refine below_via ?_ (by with_reducible assumption) ?_) | omega | (simp; done) | (simp; omega)))))).mono ?_); rintro e w5 ⟨s5, A5, l5, c5, rfl, hB5, hl5, hb5⟩; have HB5 := Lib.hid hB5; clear hB5; obtain ⟨fc5, fg5, hc5, hf5, hz5⟩ := bget hb5; (try simp at hz5)))
            clear wj
            all_goals
              have HNX := Lib.hid (show mix (f8 (sumG (ls.take (k + 1)))) (f8 (sumG (ls.take k))) (j + 1) = (mix (f8 (sumG (ls.take (k + 1)))) (f8 (sumG (ls.take k))) j).set j (sumG (ls.take k) ((j : Int) + 1) + n) from
                (mix_set (by rw [f8_len, f8_len]) (by rw [f8_len]; exact h8) (by rw [f8_at _ h8, HSG.out])).symm)
              have HST := Lib.hid ((Hown3.out.keep (w' := w5) (by (repeat' (first | (with_reducible exact Below.refl _ _) | (with_reducible assumption) | (with_reducible refine Below.alloc ?_ ?_ _) | (with_reducible refine Below.setCell ?_ ?_ _) | (with_reducible refine Below.drew ?_) | (with_reducible refine below_drewN ?_ _) | (with_reducible refine below_via ?_ (by with_reducible assumption) ?_) | omega | (simp; done) | (simp; omega))))).store (M := 65 + 8 * k + (j + 1)) (i := j) (by rw [mix_len (by rw [f8_len, f8_len]) (by rw [f8_len]; omega), f8_len]; exact h8) HB5.out (by omega) (by omega))
              have Hb5 : Hid (Below w.heap.size w w5) := by have hbl := Hbl3.out; unfold Hid; (repeat' (first | (with_reducible exact Below.refl _ _) | (with_reducible assumption) | (with_reducible refine Below.alloc ?_ ?_ _) | (with_reducible refine Below.setCell ?_ ?_ _) | (with_reducible refine Below.drew ?_) | (with_reducible refine below_drewN ?_ _) | (with_reducible refine below_via ?_ (by with_reducible assumption) ?_) | omega | (simp; done) | (simp; omega)))
              clear hc4 hc5 hf4 hf5
              go_wp2_with fail
              go_roundw
              case rel => exact ⟨j + 1, by omega, by go_num, by rw [HNX.out]; exact HST.out, by have hbl := Hb5.out; (repeat' (first | (with_reducible exact Below.refl _ _) | (with_reducible assumption) | (with_reducible refine Below.alloc ?_ ?_ _) | (with_reducible refine Below.setCell ?_ ?_ _) | (with_reducible refine Below.drew ?_) | (with_reducible refine below_drewN ?_ _) | (with_reducible refine below_via ?_ (by with_reducible assumption) ?_) | omega | (simp; done) | (simp; omega)))⟩
              case measure => simp [intOf]; omega
          · obtain rfl : j = 8 := by omega
            have ho := Hown3.out
            rw [mix_all (by rw [f8_len]; omega) (by rw [f8_len]; omega)] at ho
            have HO3 := Lib.hid ho
            clear ho
            go_wp2_with fail
            go_roundw
            case rel => exact ⟨k + 1, by omega, by go_num, by rw [HV.out, HD.out, HN.out], HO3.out.mono (Nat.le_refl _) (by omega), Hbl3.out⟩
            case measure => simp [intOf]; omega
    · have HD := Lib.hid (drop_all (l := ls) (k := k) (by omega))
      have ho := Hown.out
      rw [List.take_of_length_le (by omega)] at ho
      have HO := Lib.hid (ho.mono (M := 900000) (Nat.le_refl _) (by omega))
      have HAV : Hid (allV ls = true) := by unfold Hid; rw [HV.out, HD.out]; rfl
      clear ho
      go_wp2_with (go_at_call 63; (with_reducible refine (ref11Of (sumG ls) _ _ w.heap.size 900000 _ (by omega) HO.out).mono ?_); rintro e w2 ⟨v, rfl, hown2, hb2⟩)
      go_ret2
      exact ⟨_, by unfold addC; rw [HAV.out]; rfl, by unfold addL; rw [HAV.out]; exact hown2.mono hz, by (have hbl := Hbl.out; (repeat' (first | (with_reducible exact Below.refl _ _) | (with_reducible assumption) | (with_reducible refine Below.alloc ?_ ?_ _) | (with_reducible refine Below.setCell ?_ ?_ _) | (with_reducible refine Below.drew ?_) | (with_reducible refine below_drewN ?_ _) | (with_reducible refine below_via ?_ (by with_reducible assumption) ?_) | omega | (simp; done) | (simp; omega))))⟩
end Go.Proofs.Ytffmljkpbgohkaa
