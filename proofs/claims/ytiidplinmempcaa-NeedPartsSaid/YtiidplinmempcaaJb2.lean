/- Joined: Ref11a, Ref11b, Vec3, Vec4, Ref11c, VecAdds, VecPlain, Ref11d, Ref11e, VecBack. -/
import Derived.Test.YtiidplinmempcaaJb1
import Derived.Outline
import Derived.Deep.RegionWith
/- Contracts of the reference's Of (11). -/
namespace Go.Proofs.Ytiidplinmempcaa
open Go.RowKit
/-- The eight numbers f 1 .. f 8. -/
def f8 (f : Int → Int) : List Int := (List.range 8).map fun (k : Nat) => f ((k : Int) + 1)
theorem f8_at (f : Int → Int) {k : Nat} (h : k < 8) : (f8 f)[k]? = some (f ((k : Int) + 1)) := by simp [f8, h]
theorem f8_len (f : Int → Int) : (f8 f).length = 8 := by simp [f8]
set_option maxRecDepth 100000 in
set_option maxHeartbeats 4000000 in
theorem ref11Of (f : Int → Int) (g c base L : Nat) (w : World) (hL : L ≤ 900000) (hr : OwnB w base L (.slice (some ⟨g, 0, none⟩) 8 c) (f8 f)) :
    Calls Try.prog 85 #[.slice (some ⟨g, 0, none⟩) 8 c] w (LegsPost w (vecC f) (vecL f)) := by
  have HR := Lib.hid hr
  have hf := hr.frozen
  have hg := hf.2.2
  clear hr hf
  go_enter Try.func85, Try.ntmps85
  go_wp2_with fail
  go_loopw [4, 5] (fun v i wr => ∃ j : Nat, j ≤ 8 ∧ i = .int .i64 j ∧ fitN f j = true ∧ Own wr w.heap.size 116 2 v ((sumsL f j).map encLeg) ∧ Below w.heap.size w wr) (fun _ i _ => 8 - (intOf i).toNat)
  case atStart => exact ⟨0, Nat.zero_le _, rfl, rfl, Own.nil _ _ _ _, Below.refl _ _⟩
  case round =>
    obtain ⟨j, hj, rfl, hfit, hown, hbl⟩ := hrel
    have Hfit := Lib.hid hfit
    have Hown := Lib.hid hown
    have Hbl := Lib.hid hbl
    have hz := hbl.size
    have hsl := sumsL_len f j
    clear hfit hown hbl
    by_cases h8 : j < 8
    · obtain ⟨s, A, l, d, c0, c1, hB, hl⟩ := HR.out.at (f8_at f h8)
      have e0 := (Hbl.out.cell (p := ⟨g, j * 2, none⟩) hg).trans c0
      have e1 := (Hbl.out.cell (p := ⟨g, j * 2 + 1, none⟩) hg).trans c1
      have HB := Lib.hid (hB.keep Hbl.out)
      have HSL := Lib.hid (show sumsL f (j + 1) = sumsL f j ++ (if f ((j : Int) + 1) = 0 then [] else [⟨(j : Int) + 1, f ((j : Int) + 1)⟩]) from rfl)
      have HFN := Lib.hid (show fitN f (j + 1) = (fitN f j && in64 (f ((j : Int) + 1))) from rfl)
      have HNO := fun h => fit_no (f := f) h8 h
      obtain ⟨n, hn⟩ : ∃ n, n = f ((j : Int) + 1) := ⟨_, rfl⟩
      rw [← hn] at HB HSL HFN HNO
      clear c0 c1 hB hn
      cases h64 : in64 n
      · have HF := Lib.hid (HNO h64)
        have c2 := fun W (h : IsBig W n s A l d) => bigFits n s l A d L W hL hl h
        rw [h64] at c2
        have C2 := Lib.hid c2
        clear c2 h64 HNO
        go_wp2_with (go_at_call 26; (with_reducible refine (C2.out _ HB.out).mono ?_); rintro e w2 ⟨rfl, hb2⟩; have hz2 := hb2.size; have Hb2 := Lib.hid hb2; clear hb2)
        go_ret2
        exact ⟨_, by rw [vecC, HF.out]; rfl, by rw [vecL, HF.out]; exact Own.nil _ _ _ _, by (have hbl := Hbl.out; have hb2 := Hb2.out; (repeat' (first | (with_reducible exact Below.refl _ _) | (with_reducible assumption) | (with_reducible refine Below.alloc ?_ ?_ _) | (with_reducible refine Below.setCell ?_ ?_ _) | (with_reducible refine Below.drew ?_) | (with_reducible refine below_drewN ?_ _) | (with_reducible refine below_via ?_ (by with_reducible assumption) ?_) | omega | (simp; done) | (simp; omega))))⟩
      · have HF := Lib.hid (show fitN f (j + 1) = true from by rw [HFN.out, Hfit.out, h64]; rfl)
        have I64 := Lib.hid (in64_iff.1 h64)
        have c2 := fun W (h : IsBig W n s A l d) => bigFits n s l A d L W hL hl h
        rw [h64] at c2
        have C2 := Lib.hid c2
        clear c2 h64 HNO
        cases hq : (n == 0)
        · have HNE := Lib.hid (show sumsL f (j + 1) = sumsL f j ++ [⟨(j : Int) + 1, n⟩] from by rw [HSL.out, if_neg (by simpa using hq)])
          go_wp2_with (first | (go_at_call 26; (with_reducible refine (C2.out _ HB.out).mono ?_); rintro e w2 ⟨rfl, hb2⟩; obtain ⟨fc2, fg2, hc2, hf2, hz2⟩ := bget hb2; (try simp at hz2); have Hb2 := Lib.hid hb2; clear hb2) | (go_at_call 27; (with_reducible refine (bigInt n s l A d _ (by omega) I64.out (HB.out.keep Hb2.out)).mono ?_); rintro e w3 ⟨rfl, hb3⟩; obtain ⟨fc3, fg3, hc3, hf3, hz3⟩ := bget hb3; (try simp at hz3); have Hb3 := Lib.hid hb3; clear hb3) | (at_builtin; refine wpList_app rfl _ _ _ rfl elLeg w.heap.size _ _ rfl ((((Hown.out.keep Hb2.out).keep Hb3.out)).alloc _) (some ⟨w3.heap.size, 0, none⟩) 1 1 rfl [encLeg ⟨(j : Int) + 1, n⟩] rfl (fun h => by cases h) rd_one (rowsLeg [⟨(j : Int) + 1, n⟩]) (by unfold maxLen; first | (simp; done) | omega | (simp; omega)) (by first | (simp; done) | omega | (simp; omega)) (by first | omega | (simp; done) | (simp; omega)) ?_; intro v' w6 hown6 hb6))
          go_roundw
          case rel => exact ⟨j + 1, by omega, by go_num, HF.out, by rw [HNE.out, List.map_append]; exact hown6, by have hbl := Hbl.out; have hb2 := Hb2.out; have hb3 := Hb3.out; (repeat' (first | (with_reducible exact Below.refl _ _) | (with_reducible assumption) | (with_reducible refine Below.alloc ?_ ?_ _) | (with_reducible refine Below.setCell ?_ ?_ _) | (with_reducible refine Below.drew ?_) | (with_reducible refine below_drewN ?_ _) | (with_reducible refine below_via ?_ (by with_reducible assumption) ?_) | omega | (simp; done) | (simp; omega)))⟩
          case measure => simp [intOf]; omega
        · have HNE := Lib.hid (show sumsL f (j + 1) = sumsL f j from by rw [HSL.out, if_pos (by simpa using hq), List.append_nil])
          go_wp2_with (first | (go_at_call 26; (with_reducible refine (C2.out _ HB.out).mono ?_); rintro e w2 ⟨rfl, hb2⟩; obtain ⟨fc2, fg2, hc2, hf2, hz2⟩ := bget hb2; (try simp at hz2); have Hb2 := Lib.hid hb2; clear hb2) | (go_at_call 27; (with_reducible refine (bigInt n s l A d _ (by omega) I64.out (HB.out.keep Hb2.out)).mono ?_); rintro e w3 ⟨rfl, hb3⟩; obtain ⟨fc3, fg3, hc3, hf3, hz3⟩ := bget hb3; (try simp at hz3); have Hb3 := Lib.hid hb3; clear hb3))
          go_roundw
          case rel => exact ⟨j + 1, by omega, by go_num, HF.out, by rw [HNE.out]; exact (Hown.out.keep Hb2.out).keep Hb3.out, by have hbl := Hbl.out; have hb2 := Hb2.out; have hb3 := Hb3.out; (repeat' (first | (with_reducible exact Below.refl _ _) | (with_reducible assumption) | (with_reducible refine Below.alloc ?_ ?_ _) | (with_reducible refine Below.setCell ?_ ?_ _) | (with_reducible refine Below.drew ?_) | (with_reducible refine below_drewN ?_ _) | (with_reducible refine below_via ?_ (by with_reducible assumption) ?_) | omega | (simp; done) | (simp; omega)))⟩
          case measure => simp [intOf]; omega
    · obtain rfl : j = 8 := by omega
      go_wp2_with fail
      go_ret2
      exact ⟨_, by rw [vecC, Hfit.out]; rfl, by rw [vecL, Hfit.out]; exact Hown.out, Hbl.out⟩
end Go.Proofs.Ytiidplinmempcaa

/- Contract of the reference's Add (11). -/
namespace Go.Proofs.Ytiidplinmempcaa
open Go.RowKit
def mix (a b : List Int) (k : Nat) : List Int := a.take k ++ b.drop k
theorem mix_len {a b : List Int} {k : Nat} (h : a.length = b.length) (hk : k ≤ b.length) : (mix a b k).length = b.length := by
  unfold mix; rw [List.length_append, List.length_take, List.length_drop]; omega
theorem mix_at {a b : List Int} {k : Nat} {x : Int} (h : a.length = b.length) (hk : k < b.length) (hx : b[k]? = some x) : (mix a b k)[k]? = some x := by
  unfold mix
  rw [List.getElem?_append_right (by rw [List.length_take]; omega), List.length_take, Nat.min_eq_left (by omega), List.getElem?_drop, Nat.sub_self]
  exact hx
theorem mix_set {a b : List Int} {k : Nat} {x : Int} (h : a.length = b.length) (hk : k < b.length) (hx : a[k]? = some x) : (mix a b k).set k x = mix a b (k + 1) := by
  unfold mix
  have hl : (a.take k).length = k := by rw [List.length_take]; omega
  obtain ⟨ha, rfl⟩ := List.getElem?_eq_some_iff.1 hx
  rw [List.set_append_right _ _ (by omega), hl, Nat.sub_self, List.drop_eq_getElem_cons hk, List.set_cons_zero, List.take_succ_eq_append_getElem ha, List.append_assoc]
  rfl
theorem mix_zero (a b : List Int) : mix a b 0 = b := by simp [mix]
theorem mix_all {a b : List Int} {k : Nat} (ha : a.length ≤ k) (hb : b.length ≤ k) : mix a b k = a := by
  unfold mix; rw [List.take_of_length_le ha, List.drop_eq_nil_of_le hb]; simp
theorem sumG_snoc {ls : List (List Leg)} {k : Nat} (h : k < ls.length) (i : Int) : sumG (ls.take (k + 1)) i = sumG (ls.take k) i + getF i ls[k] := by
  unfold sumG; rw [map_snoc h, List.sum_append]; simp
theorem make8 (W : World) : (Instr.makeSlice 129 (.int .i64 8) (.int .i64 8)).run Try.prog W = .ok (.slice (some ⟨W.heap.size, 0, none⟩) 8 8) (W.alloc (.cells #[.bool false, .slice none 0 0, .bool false, .slice none 0 0, .bool false, .slice none 0 0, .bool false, .slice none 0 0, .bool false, .slice none 0 0, .bool false, .slice none 0 0, .bool false, .slice none 0 0, .bool false, .slice none 0 0] 34)) := by kernel_rfl
theorem f8_zero : f8 (sumG []) = List.replicate 8 0 := by decide
set_option maxRecDepth 100000 in
set_option maxHeartbeats 4000000 in
theorem ref11Add (ls : List (List Leg)) (A : Option Addr) (c : Nat) (w : World) (hll : ls.length ≤ 100000) (hl : Short ls) (h64 : ∀ l ∈ ls, Legs64 l) (hr : RsS 2 encLeg w ls A c) :
    Calls Try.prog 23 #[.slice A ls.length c] w (LegsPost w (addC ls) (addL ls)) := by
  have HR := Lib.hid hr
  have HL := Lib.hid hl
  have H64 := Lib.hid h64
  clear hr hl h64
  have hmk := make8
  go_enter Try.func23, Try.ntmps23
  go_wp2_with fail
  clear hmk
  go_loopw [5] (fun i wr => ∃ k : Nat, k ≤ ls.length ∧ i = .int .i64 k ∧ (allV ls = allV (ls.drop k)) ∧ OwnB wr w.heap.size (65 + 8 * k) (.slice (some ⟨w.heap.size, 0, none⟩) 8 8) (f8 (sumG (ls.take k))) ∧ Below w.heap.size w wr) (fun i _ => ls.length - (intOf i).toNat)
  case atStart => exact ⟨0, Nat.zero_le _, rfl, rfl, by rw [List.take_zero, f8_zero]; exact ownB_zeros w 8 (by unfold maxLen; omega) _ rfl (Nat.le_refl _) _, by (repeat' (first | (with_reducible exact Below.refl _ _) | (with_reducible assumption) | (with_reducible refine Below.alloc ?_ ?_ _) | (with_reducible refine Below.setCell ?_ ?_ _) | (with_reducible refine Below.drew ?_) | (with_reducible refine below_drewN ?_ _) | (with_reducible refine below_via ?_ (by with_reducible assumption) ?_) | omega | (simp; done) | (simp; omega)))⟩
  case round =>
    obtain ⟨k, hk, rfl, hv, hown, hbl⟩ := hrel
    have Hown := Lib.hid hown
    clear hown
    have Hbl := Lib.hid hbl
    have HV := Lib.hid hv
    have hz := hbl.size
    clear hbl hv
    by_cases hlt : k < ls.length
    · obtain ⟨b, o, B, d, rfl, hb, hq, hrk⟩ := HR.out.row hlt
      have HD := Lib.hid (drop_cons' hlt)
      have e0 := (Hbl.out.cell (p := ⟨b, o + k, none⟩) hb).trans hq
      have HK := Lib.hid (hrk.keep Hbl.out)
      have HRK := Lib.hid hrk
      have HKL := HL.out.pt hlt
      have c1 := fun W (h : Rd W B 2 (ls[k].map encLeg)) => refIs11 ls[k] B d W HKL h
      have HQ := Lib.hid hq
      clear hq hrk
      cases hm : isV ls[k]
      · rw [hm] at c1
        have C1 := Lib.hid c1
        have HN := Lib.hid (show allV (ls[k] :: ls.drop (k + 1)) = false from by unfold allV; rw [List.all_cons, hm]; rfl)
        clear c1 hm
        go_wp2_with (go_at_call 76; (with_reducible refine (C1.out _ HK.out.rd).mono ?_); rintro e w2 ⟨rfl, hb2⟩; have hz2 := hb2.size; have Hb2 := Lib.hid hb2; clear hb2)
        go_ret2
        exact ⟨_, by unfold addC; rw [HV.out, HD.out, HN.out]; rfl, by unfold addL; rw [HV.out, HD.out, HN.out]; exact Own.nil _ _ _ _, by (have hbl := Hbl.out; have hb2 := Hb2.out; (repeat' (first | (with_reducible exact Below.refl _ _) | (with_reducible assumption) | (with_reducible refine Below.alloc ?_ ?_ _) | (with_reducible refine Below.setCell ?_ ?_ _) | (with_reducible refine Below.drew ?_) | (with_reducible refine below_drewN ?_ _) | (with_reducible refine below_via ?_ (by with_reducible assumption) ?_) | omega | (simp; done) | (simp; omega))))⟩
      · rw [hm] at c1
        have C1 := Lib.hid c1
        have HN := Lib.hid (show allV (ls[k] :: ls.drop (k + 1)) = allV (ls.drop (k + 1)) from by unfold allV; rw [List.all_cons, hm]; rfl)
        clear c1 hm
        go_wp2_with (go_at_call 76; (with_reducible refine (C1.out _ HK.out.rd).mono ?_); rintro e w2 ⟨rfl, hb2⟩; obtain ⟨fc2, fg2, hc2, hf2, hz2⟩ := bget hb2; (try simp at hz2); have Hb2 := Lib.hid hb2; clear hb2)
        obtain ⟨wo, hwo⟩ : ∃ wo : World, wo = w2 := ⟨_, rfl⟩
        have HO2 := Lib.hid (Hown.out.keep Hb2.out)
        have HB2 := Lib.hid (Hbl.out.trans (Hb2.out.mono hz))
        have hzz := HB2.out.size
        clear hc2 hf2 e0
        rw [← hwo] at HO2 HB2 hzz ⊢
        clear hwo
        go_loopw [6] (fun i wr => ∃ j : Nat, j ≤ 8 ∧ i = .int .i64 j ∧ OwnB wr w.heap.size (65 + 8 * k + j) (.slice (some ⟨w.heap.size, 0, none⟩) 8 8) (mix (f8 (sumG (ls.take (k + 1)))) (f8 (sumG (ls.take k))) j) ∧ Below w.heap.size w wr) (fun i _ => 8 - (intOf i).toNat)
        case atStart => exact ⟨0, Nat.zero_le _, rfl, by rw [mix_zero]; exact HO2.out.mono (Nat.le_refl _) (by omega), HB2.out⟩
        case round =>
          obtain ⟨j, hj, rfl, hown, hbl⟩ := hrel
          have Hown3 := Lib.hid hown
          have Hbl3 := Lib.hid hbl
          have hz3 := hbl.size
          clear hown hbl
          by_cases h8 : j < 8
          · obtain ⟨s, A1, l1, d1, c0, c1, hB, hl1⟩ := Hown3.out.at (mix_at (by rw [f8_len, f8_len]) (by rw [f8_len]; exact h8) (f8_at _ h8))
            have e0 := (Hbl3.out.cell (p := ⟨b, o + k, none⟩) hb).trans HQ.out
            have c3 := fun W (h : Rd W B 2 (ls[k].map encLeg)) => refGet11 ls[k] ((j : Int) + 1) B d W HKL h
            have I3 := get64 (i := (j : Int) + 1) (H64.out _ (List.getElem_mem hlt))
            have HSG := Lib.hid (sumG_snoc hlt ((j : Int) + 1))
            obtain ⟨n, hn⟩ : ∃ n, n = getF ((j : Int) + 1) ls[k] := ⟨_, rfl⟩
            rw [← hn] at c3 I3 HSG
            have C3 := Lib.hid c3
            have HK3 := Lib.hid (HRK.out.keep Hbl3.out)
            have HB := Lib.hid hB
            have hfz := Hown3.out.frozen.1
            have hgz := Hown3.out.frozen.2.2
            have jb : (j : Int) < 8 := by omega
            have wj : IntKind.i64.wrap ((j : Int) + 1) = (j : Int) + 1 := IntWalk.i64_in _ (by omega)
            clear c3 hn hB
            go_wp2_with fail
            go_region_with (first | (go_at_call 84; (with_reducible refine (C3.out _ (HK3.out.keep (by (repeat' (first | (with_reducible exact Below.refl _ _) | (with_reducible assumption) | (with_reducible refine Below.alloc ?_ ?_ _) | (with_reducible refine Below.setCell ?_ ?_ _) | (with_reducible refine Below.drew ?_) | (with_reducible refine below_drewN ?_ _) | (with_reducible refine below_via ?_ (by with_reducible assumption) ?_) | omega | (simp; done) | (simp; omega))))).rd).mono ?_); rintro e w3 ⟨rfl, hb3⟩; obtain ⟨fc3, fg3, hc3, hf3, hz3⟩ := bget hb3; try simp at hz3) | (go_at_call 25; (with_reducible refine (bigOf n _ I3).mono ?_); rintro e w4 ⟨s4, A4, l4, c4, rfl, hB4, hl4, hb4⟩; have HB4 := Lib.hid hB4; clear hB4; obtain ⟨fc4, fg4, hc4, hf4, hz4⟩ := bget hb4; (try simp at hz4)) | (go_at_call 24; (with_reducible refine (bigAdd _ n s s4 l1 l4 A1 A4 d1 c4 (65 + 8 * k + j) _ (by omega) hl1 (by omega) (HB.out.keep (by (repeat' (first | (with_reducible exact Below.refl _ _) | (with_reducible assumption) | (with_reducible refine Below.alloc ?_ ?_ _) | (with_reducible refine Below.setCell ?_ ?_ _) | (with_reducible refine Below.drew ?_) | (with_reducible refine below_drewN ?_ _) | (with_reducible refine below_via ?_ (by with_reducible assumption) ?_) | omega | (simp; done) | (simp; omega))))) (HB4.out.keep (by (repeat' (first | (with_reducible exact Below.refl _ _) | (with_reducible assumption) | (with_reducible refine Below.alloc ?_ ?_ _) | (with_reducible refine Below.setCell ?_ ?_ _) | (with_reducible refine Below.drew ?_) | (with_reducible refine below_drewN ?_ _) | (with_reducible refine below_via ?_ (by with_reducible assumption) ?_) | omega | (simp; done) | (simp; omega)))))).mono ?_); rintro e w5 ⟨s5, A5, l5, c5, rfl, hB5, hl5, hb5⟩; have HB5 := Lib.hid hB5; clear hB5; obtain ⟨fc5, fg5, hc5, hf5, hz5⟩ := bget hb5; (try simp at hz5)))
            clear wj
            all_goals
              have HNX := Lib.hid (show mix (f8 (sumG (ls.take (k + 1)))) (f8 (sumG (ls.take k))) (j + 1) = (mix (f8 (sumG (ls.take (k + 1)))) (f8 (sumG (ls.take k))) j).set j (sumG (ls.take k) ((j : Int) + 1) + n) from
                (mix_set (by rw [f8_len, f8_len]) (by rw [f8_len]; exact h8) (by rw [f8_at _ h8, HSG.out])).symm)
              have HST := Lib.hid ((Hown3.out.keep (w' := w5) (by (repeat' (first | (with_reducible exact Below.refl _ _) | (with_reducible assumption) | (with_reducible refine Below.alloc ?_ ?_ _) | (with_reducible refine Below.setCell ?_ ?_ _) | (with_reducible refine Below.drew ?_) | (with_reducible refine below_drewN ?_ _) | (with_reducible refine below_via ?_ (by with_reducible assumption) ?_) | omega | (simp; done) | (simp; omega))))).store (M := 65 + 8 * k + (j + 1)) (i := j) (by rw [mix_len (by rw [f8_len, f8_len]) (by rw [f8_len]; omega), f8_len]; exact h8) HB5.out (by omega) (by omega))
              have Hb5 : Hid (Below w.heap.size w w5) := by have hbl := Hbl3.out; unfold Hid; (repeat' (first | (with_reducible exact Below.refl _ _) | (with_reducible assumption) | (with_reducible refine Below.alloc ?_ ?_ _) | (with_reducible refine Below.setCell ?_ ?_ _) | (with_reducible refine Below.drew ?_) | (with_reducible refine below_drewN ?_ _) | (with_reducible refine below_via ?_ (by with_reducible assumption) ?_) | omega | (simp; done) | (simp; omega)))
              clear hc4 hc5 hf4 hf5
              go_wp2_with fail
              go_roundw
              case rel => exact ⟨j + 1, by omega, by go_num, by rw [HNX.out]; exact HST.out, by have hbl := Hb5.out; (repeat' (first | (with_reducible exact Below.refl _ _) | (with_reducible assumption) | (with_reducible refine Below.alloc ?_ ?_ _) | (with_reducible refine Below.setCell ?_ ?_ _) | (with_reducible refine Below.drew ?_) | (with_reducible refine below_drewN ?_ _) | (with_reducible refine below_via ?_ (by with_reducible assumption) ?_) | omega | (simp; done) | (simp; omega)))⟩
              case measure => simp [intOf]; omega
          · obtain rfl : j = 8 := by omega
            have ho := Hown3.out
            rw [mix_all (by rw [f8_len]; omega) (by rw [f8_len]; omega)] at ho
            have HO3 := Lib.hid ho
            clear ho
            go_wp2_with fail
            go_roundw
            case rel => exact ⟨k + 1, by omega, by go_num, by rw [HV.out, HD.out, HN.out], HO3.out.mono (Nat.le_refl _) (by omega), Hbl3.out⟩
            case measure => simp [intOf]; omega
    · have HD := Lib.hid (drop_all (l := ls) (k := k) (by omega))
      have ho := Hown.out
      rw [List.take_of_length_le (by omega)] at ho
      have HO := Lib.hid (ho.mono (M := 900000) (Nat.le_refl _) (by omega))
      have HAV : Hid (allV ls = true) := by unfold Hid; rw [HV.out, HD.out]; rfl
      clear ho
      go_wp2_with (go_at_call 85; (with_reducible refine (ref11Of (sumG ls) _ _ w.heap.size 900000 _ (by omega) HO.out).mono ?_); rintro e w2 ⟨v, rfl, hown2, hb2⟩)
      go_ret2
      exact ⟨_, by unfold addC; rw [HAV.out]; rfl, by unfold addL; rw [HAV.out]; exact hown2.mono hz, by (have hbl := Hbl.out; (repeat' (first | (with_reducible exact Below.refl _ _) | (with_reducible assumption) | (with_reducible refine Below.alloc ?_ ?_ _) | (with_reducible refine Below.setCell ?_ ?_ _) | (with_reducible refine Below.drew ?_) | (with_reducible refine below_drewN ?_ _) | (with_reducible refine below_via ?_ (by with_reducible assumption) ?_) | omega | (simp; done) | (simp; omega))))⟩
end Go.Proofs.Ytiidplinmempcaa

/- Contracts of vec.Neg, Gross, With, Same. -/
namespace Go.Proofs.Ytiidplinmempcaa
open Go.RowKit
/-- The legs on the other side, or that one leaves 64 bits. -/
def negC (l : List Leg) : Int := if isV l then (if l.all (fun x => in64 (0 - x.qty)) then 0 else 7) else 3
def negR (l : List Leg) : List Leg := l.map fun x => ⟨x.inst, 0 - x.qty⟩
def negL (l : List Leg) : List Leg := if isV l then (if l.all (fun x => in64 (0 - x.qty)) then negR l else []) else []
set_option maxRecDepth 100000 in
set_option maxHeartbeats 4000000 in
theorem vecNeg (l : List Leg) (A : Option Addr) (c : Nat) (w : World) (hl : l.length ≤ 1099511627776) (h64 : Legs64 l) (hr : Rd w A 2 (l.map encLeg)) :
    Calls Try.prog 101 #[.slice A l.length c] w (LegsPost w (negC l) (negL l)) := by
  have HR := Lib.hid hr
  have H64 := Lib.hid h64
  have c1 := fun W (h : Rd W A 2 (l.map encLeg)) => vecNone l A c W hl h
  clear hr h64
  cases hv : isV l
  · rw [hv] at c1
    have HC := Lib.hid (show negC l = 3 from by unfold negC; rw [hv]; rfl)
    have HA := Lib.hid (show negL l = [] from by unfold negL; rw [hv]; rfl)
    have C1 := Lib.hid c1
    clear c1 hv
    go_enter Try.func101, Try.ntmps101
    go_wp2_with (go_at_call 138; (with_reducible refine (C1.out _ HR.out).mono ?_); rintro e w1 ⟨rfl, hb1⟩; obtain ⟨fc1, fg1, hc1, hf1, hz1⟩ := bget hb1; try simp at hz1)
    go_ret2
    exact ⟨_, by rw [HC.out]; rfl, by rw [HA.out]; exact Own.nil _ _ _ _, by (repeat' (first | (with_reducible exact Below.refl _ _) | (with_reducible assumption) | (with_reducible refine Below.alloc ?_ ?_ _) | (with_reducible refine Below.setCell ?_ ?_ _) | (with_reducible refine Below.drew ?_) | (with_reducible refine below_drewN ?_ _) | (with_reducible refine below_via ?_ (by with_reducible assumption) ?_) | omega | (simp; done) | (simp; omega)))⟩
  rw [hv] at c1
  have HC := Lib.hid (show negC l = if l.all (fun x => in64 (0 - x.qty)) then 0 else 7 from by unfold negC; rw [hv]; rfl)
  have HA := Lib.hid (show negL l = if l.all (fun x => in64 (0 - x.qty)) then negR l else [] from by unfold negL; rw [hv]; rfl)
  have C1 := Lib.hid c1
  clear c1 hv
  go_enter Try.func101, Try.ntmps101
  go_wp2_with (go_at_call 138; (with_reducible refine (C1.out _ HR.out).mono ?_); rintro e w1 ⟨rfl, hb1⟩; obtain ⟨fc1, fg1, hc1, hf1, hz1⟩ := bget hb1; try simp at hz1)
  have Hb1 := Lib.hid hb1
  clear hc1 hf1 hb1
  go_loopw [4, 13] (fun v i wr => ∃ k : Nat, k ≤ l.length ∧ i = .int .i64 k ∧ l.all (fun x => in64 (0 - x.qty)) = (l.drop k).all (fun x => in64 (0 - x.qty)) ∧ Own wr w.heap.size 116 2 v ((negR (l.take k)).map encLeg) ∧ Below w.heap.size w wr) (fun _ i _ => l.length - (intOf i).toNat)
  case atStart => exact ⟨0, Nat.zero_le _, rfl, rfl, Own.nil _ _ _ _, Hb1.out⟩
  case round =>
    obtain ⟨k, hk, rfl, hv, hown, hbl⟩ := hrel
    have Hown := Lib.hid hown
    clear hown
    have Hbl := Lib.hid hbl
    have HV := Lib.hid hv
    have hz := hbl.size
    clear hbl hv
    by_cases hlt : k < l.length
    · obtain ⟨be, oe, rfl, hbe, hqe⟩ := HR.out k (encLeg l[k]) (by simp [hlt])
      replace hqe := fun j v hv => (Hbl.out.cell (p := ⟨be, oe + k * 2 + j, none⟩) hbe).trans (hqe j v hv)
      have e0 := hqe 0 _ rfl
      have e1 := hqe 1 _ rfl
      simp only [Nat.add_zero] at e0
      clear hqe
      have HD := Lib.hid (drop_cons' hlt)
      have hq := H64.out l[k] (List.getElem_mem hlt)
      have HS : Hid ((negR (l.take (k + 1))).map encLeg = (negR (l.take k)).map encLeg ++ [encLeg ⟨l[k].inst, 0 - l[k].qty⟩]) := by
        unfold Hid negR; rw [map_snoc hlt]; simp
      have hlen : ((negR (l.take k)).map encLeg).length ≤ k := by unfold negR; simp; omega
      have hz64 : In64 0 := by unfold In64; omega
      cases hm : in64 (0 - l[k].qty)
      · have HM := Lib.hid (in64_no hm)
        have HN : Hid ((l[k] :: l.drop (k + 1)).all (fun x => in64 (0 - x.qty)) = false) := by unfold Hid; simp only [List.all_cons]; rw [hm]; rfl
        clear hm
        go_wp2_with (go_at_call 142; (with_reducible refine (fixSubNo 0 l[k].qty _ hz64 hq HM.out).mono ?_); rintro e w2 ⟨rfl, hb2⟩; have hz2 := hb2.size; have Hb2 := Lib.hid hb2; clear hb2)
        go_ret2
        exact ⟨_, by rw [HC.out, HV.out, HD.out, HN.out]; rfl, by rw [HA.out, HV.out, HD.out, HN.out]; exact Own.nil _ _ _ _, by (have hbl := Hbl.out; have hb2 := Hb2.out; (repeat' (first | (with_reducible exact Below.refl _ _) | (with_reducible assumption) | (with_reducible refine Below.alloc ?_ ?_ _) | (with_reducible refine Below.setCell ?_ ?_ _) | (with_reducible refine Below.drew ?_) | (with_reducible refine below_drewN ?_ _) | (with_reducible refine below_via ?_ (by with_reducible assumption) ?_) | omega | (simp; done) | (simp; omega))))⟩
      · have HM := Lib.hid (in64_iff.1 hm)
        have HN : Hid ((l[k] :: l.drop (k + 1)).all (fun x => in64 (0 - x.qty)) = (l.drop (k + 1)).all (fun x => in64 (0 - x.qty))) := by unfold Hid; simp only [List.all_cons]; rw [hm]; rfl
        clear hm
        obtain ⟨n, hn⟩ : ∃ n, n = 0 - l[k].qty := ⟨_, rfl⟩
        have c2 := fun W => fixSubYes 0 l[k].qty W hz64 hq HM.out
        rw [← hn] at HS c2
        have C2 := Lib.hid c2
        clear hn c2
        go_wp2_with (first | (go_at_call 142; (with_reducible refine (C2.out _).mono ?_); rintro e w2 ⟨rfl, hb2⟩; obtain ⟨fc2, fg2, hc2, hf2, hz2⟩ := bget hb2; (try simp at hz2); have Hb2 := Lib.hid hb2; clear hb2) | (at_builtin; refine wpList_app rfl _ _ _ rfl elLeg w.heap.size _ _ rfl (((Hown.out.alloc _).keep Hb2.out).alloc _) (some ⟨w2.heap.size, 0, none⟩) 1 1 rfl [encLeg ⟨l[k].inst, n⟩] rfl (fun h => by cases h) rd_one (rowsLeg [⟨l[k].inst, n⟩]) (by unfold maxLen; first | (simp; done) | omega | (simp; omega)) (by first | (simp; done) | omega | (simp; omega)) (by first | omega | (simp; done) | (simp; omega)) ?_; intro v' w3 hown3 hb3))
        go_roundw
        case rel => exact ⟨k + 1, by omega, by go_num, by rw [HV.out, HD.out, HN.out], by rw [HS.out]; exact hown3, by have hbl := Hbl.out; have hb2 := Hb2.out; (repeat' (first | (with_reducible exact Below.refl _ _) | (with_reducible assumption) | (with_reducible refine Below.alloc ?_ ?_ _) | (with_reducible refine Below.setCell ?_ ?_ _) | (with_reducible refine Below.drew ?_) | (with_reducible refine below_drewN ?_ _) | (with_reducible refine below_via ?_ (by with_reducible assumption) ?_) | omega | (simp; done) | (simp; omega)))⟩
        case measure => simp [intOf]; omega
    · have HD := Lib.hid (drop_all (l := l) (k := k) (by omega))
      have HT := Lib.hid (List.take_of_length_le (show l.length ≤ k by omega))
      go_wp2_with fail
      go_ret2
      exact ⟨_, by rw [HC.out, HV.out, HD.out]; rfl, by rw [HA.out, HV.out, HD.out, ← HT.out]; exact Hown.out, Hbl.out⟩
end Go.Proofs.Ytiidplinmempcaa

/- Contracts of vec.Gross, With, Same. -/
namespace Go.Proofs.Ytiidplinmempcaa
open Go.RowKit
def absL (l : List Leg) : List Int := l.map fun x => iabs x.qty
def absF (l : List Leg) : Bool := l.all fun x => in64 (iabs x.qty)
def grossC (l : List Leg) : Int := if isV l then (if absF l then (if in64 (absL l).sum then 0 else 7) else 7) else 3
def grossN (l : List Leg) : Int := if isV l then (if absF l then (if in64 (absL l).sum then (absL l).sum else 0) else 0) else 0
theorem rss_two {α : Type} {k : Nat} {enc : α → List Value} {W : World} {g : Nat} {v1 v2 : Value} {l1 l2 : List α} (h1 : IsSl k enc W v1 l1) (h2 : IsSl k enc W v2 l2) (hg : g < W.heap.size) (c1 : W.cell? ⟨g, 0, none⟩ = some v1) (c2 : W.cell? ⟨g, 1, none⟩ = some v2) : RsS k enc W [l1, l2] (some ⟨g, 0, none⟩) 2 := by
  refine ⟨⟨[v1, v2], ⟨rfl, fun i a b ha hb => ?_⟩, ⟨fun i r hr => ⟨g, 0, rfl, hg, fun j v hv => ?_⟩, by simp, by unfold maxLen; omega, fun e => by cases e⟩⟩⟩
  · match i with
    | 0 => simp at ha hb; subst ha hb; exact h1
    | 1 => simp at ha hb; subst ha hb; exact h2
    | i + 2 => simp at ha
  · match i with
    | 0 =>
      simp [enc1] at hr; subst hr
      match j with
      | 0 => simp at hv; subst hv; simpa using c1
      | j + 1 => simp at hv
    | 1 =>
      simp [enc1] at hr; subst hr
      match j with
      | 0 => simp at hv; subst hv; simpa using c2
      | j + 1 => simp at hv
    | i + 2 => simp at hr
theorem vecAdd2 (l1 l2 : List Leg) (g : Nat) (w : World) (v1 v2 : Value) (h1 : l1.length ≤ 1099511627776) (h2 : l2.length ≤ 1099511627776) (q1 : Legs64 l1) (q2 : Legs64 l2) (r1 : IsSl 2 encLeg w v1 l1) (r2 : IsSl 2 encLeg w v2 l2) (hg : g < w.heap.size) (c1 : w.cell? ⟨g, 0, none⟩ = some v1) (c2 : w.cell? ⟨g, 1, none⟩ = some v2) :
    Calls Try.prog 96 #[.slice (some ⟨g, 0, none⟩) 2 2] w (LegsPost w (addC [l1, l2]) (addL [l1, l2])) :=
  vecAdd [l1, l2] (some ⟨g, 0, none⟩) 2 w ⟨by simp, by simp [h1, h2]⟩ (by simp [q1, q2]) (rss_two r1 r2 hg c1 c2)
theorem isl_one {w : World} (g : Nat) (x : Leg) (hg : g < w.heap.size) (c0 : w.cell? ⟨g, 0, none⟩ = some (.int .i64 x.inst)) (c1 : w.cell? ⟨g, 1, none⟩ = some (.int .i64 x.qty)) : IsSl 2 encLeg w (.slice (some ⟨g, 0, none⟩) 1 1) [x] := by
  refine ⟨some ⟨g, 0, none⟩, 1, rfl, ⟨fun i r hr => ⟨g, 0, rfl, hg, fun j v hv => ?_⟩, by simp, by unfold maxLen; omega, fun e => by cases e⟩⟩
  match i with
  | 0 =>
    simp [encLeg] at hr; subst hr
    match j with
    | 0 => simp at hv; subst hv; simpa using c0
    | 1 => simp at hv; subst hv; simpa using c1
    | j + 2 => simp at hv
  | i + 1 => simp at hr
def withLs (l : List Leg) (x : Leg) : List (List Leg) := if x.qty = 0 then [l, []] else [l, [x]]
def withC (l : List Leg) (x : Leg) : Int := if x.qty = 0 ∧ (x.inst < 1 ∨ 8 < x.inst) then 3 else addC (withLs l x)
def withL (l : List Leg) (x : Leg) : List Leg := if x.qty = 0 ∧ (x.inst < 1 ∨ 8 < x.inst) then [] else addL (withLs l x)
end Go.Proofs.Ytiidplinmempcaa

/- Contracts of the reference's Same (11), the law's Few, several, lives. -/
namespace Go.Proofs.Ytiidplinmempcaa
open Go.RowKit
set_option maxRecDepth 100000 in
set_option maxHeartbeats 1000000 in
theorem ref11Same (l : List Leg) (A B : Option Addr) (c d : Nat) (w : World) (hl : l.length ≤ 1099511627776) (ha : Rd w A 2 (l.map encLeg)) (hb : Rd w B 2 (l.map encLeg)) :
    Calls Try.prog 38 #[.slice A l.length c, .slice B l.length d] w fun e w' => e = .returned (.bool true) ∧ Below w.heap.size w w' := by
  have HA := Lib.hid ha
  have HB := Lib.hid hb
  clear ha hb
  go_enter Try.func38, Try.ntmps38
  go_wp2_with fail
  go_loopw [5] (fun i wr => ∃ k : Nat, k ≤ l.length ∧ i = .int .i64 k ∧ ∃ n, wr = w.drewN n) (fun i _ => l.length - (intOf i).toNat)
  case atStart => exact ⟨0, Nat.zero_le _, rfl, 0, rfl⟩
  case round =>
    obtain ⟨k, hk, rfl, nn, rfl⟩ := hrel
    by_cases hlt : k < l.length
    · have kl : (k : Int) < (l.length : Int) := by omega
      obtain ⟨b1, o1, rfl, hb1, hc1⟩ := HA.out k (encLeg l[k]) (by simp [hlt])
      obtain ⟨b2, o2, rfl, hb2, hc2⟩ := HB.out k (encLeg l[k]) (by simp [hlt])
      have e0 := hc1 0 _ rfl
      have e1 := hc1 1 _ rfl
      have f0 := hc2 0 _ rfl
      have f1 := hc2 1 _ rfl
      simp only [Nat.add_zero] at e0 f0
      clear hc1 hc2
      go_wp2_with fail
      go_quiet (fail)
      go_wp2_with fail
      go_roundw
      case rel => exact ⟨k + 1, by omega, by go_num, _, rfl⟩
      case measure => simp [intOf]; omega
    · go_wp2_with fail
      go_ret
      exact ⟨rfl, by (repeat' (first | (with_reducible exact Below.refl _ _) | (with_reducible assumption) | (with_reducible refine Below.alloc ?_ ?_ _) | (with_reducible refine Below.setCell ?_ ?_ _) | (with_reducible refine Below.drew ?_) | (with_reducible refine below_drewN ?_ _) | (with_reducible refine below_via ?_ (by with_reducible assumption) ?_) | omega | (simp; done) | (simp; omega)))⟩
theorem Rs.takeL {α : Type} {enc : α → List Value} {w : World} {k : Nat} {l : List α} {A : Option Addr} {c : Nat} (h : Rs w k (l.map enc) A c) (n : Nat) : Rs w k ((l.take n).map enc) A c := by
  rw [List.map_take]; exact h.take n
theorem Rs.addr {w : World} {k : Nat} {rows : List (List Value)} {A : Option Addr} {c : Nat} (h : Rs w k rows A c) (h0 : 0 < rows.length) : ∃ b o, A = some ⟨b, o, none⟩ ∧ b < w.heap.size := by
  obtain ⟨b, o, hA, hb, _⟩ := h.rd 0 rows[0] (List.getElem?_eq_getElem h0)
  exact ⟨b, o, hA, hb⟩
set_option maxRecDepth 100000 in
set_option maxHeartbeats 1000000 in
theorem law11Few (l : List Leg) (A : Option Addr) (c : Nat) (w : World) (hl : l.length ≤ maxLen) (hr : Rs w 2 (l.map encLeg) A c) :
    Calls Try.prog 13 #[.slice A l.length c] w fun e w' => e = .returned (.slice A (l.take 12).length c) ∧ w = w' := by
  have hml : (l.length : Int) ≤ 9223372036854775807 := by unfold maxLen at hl; omega
  have hcap := hr.cap
  have hroom := hr.room
  rw [List.length_map] at hcap
  unfold maxLen at hroom
  by_cases h : 12 < l.length
  · have HT := Lib.hid (show (l.take 12).length = 12 from by rw [List.length_take]; omega)
    obtain ⟨b, o, rfl, hb⟩ := hr.addr (by rw [List.length_map]; omega)
    clear hr
    go_enter Try.func13, Try.ntmps13
    go_wp2_with fail
    go_ret
    exact ⟨by rw [HT.out]; rfl, rfl⟩
  · have HT := Lib.hid (show (l.take 12).length = l.length from by rw [List.length_take]; omega)
    clear hr
    go_enter Try.func13, Try.ntmps13
    go_wp2_with fail
    go_ret
    exact ⟨by rw [HT.out]; rfl, rfl⟩
theorem law11FewN (l : List Leg) (m : Nat) (hm : Hid ((l.take 12).length = m)) (A : Option Addr) (c : Nat) (w : World) (hl : l.length ≤ maxLen) (hr : Rs w 2 (l.map encLeg) A c) :
    Calls Try.prog 13 #[.slice A l.length c] w fun e w' => e = .returned (.slice A m c) ∧ w = w' := by
  rw [← hm.out]; exact law11Few l A c w hl hr
theorem islN {α : Type} {k : Nat} {enc : α → List Value} {w : World} {l : List α} {A : Option Addr} {c m : Nat} (hm : l.length = m) (h : Rs w k (l.map enc) A c) : IsSl k enc w (.slice A m c) l := by
  subst hm; exact isl h
def few12 (ls : List (List Leg)) : List (List Leg) := (ls.take 10).map fun l => l.take 12
theorem elLs : Elem Try.prog 51 23 1 24 := elem_of Try.underlying51 (z := .slice none 0 0) (by kernel_rfl) rfl (by omega)
/-- A slice of the call's own of slices of legs. -/
def OwnS (w : World) (base : Nat) (v : Value) (ls : List (List Leg)) : Prop := ∃ vs : List Value, Each (IsSl 2 encLeg w) vs ls ∧ Own w base 23 1 v (vs.map enc1)
theorem OwnS.rss {w : World} {base : Nat} {v : Value} {ls : List (List Leg)} (h : OwnS w base v ls) : ∃ A c, v = .slice A ls.length c ∧ RsS 2 encLeg w ls A c := by
  obtain ⟨vs, h1, h2⟩ := h
  obtain ⟨A, c, hv, hr, _⟩ := h2.rs
  rw [List.length_map, h1.len] at hv
  exact ⟨A, c, hv, ⟨⟨vs, h1, hr⟩⟩⟩
theorem rows1 (v : Value) (h : v.oneCell' = true) : ∀ r ∈ [enc1 v], r.length = 1 ∧ ∀ u ∈ r, u.oneCell' = true := by
  intro r hr
  simp [enc1] at hr
  subst hr
  exact ⟨rfl, by simp [h]⟩
theorem livesAdd : addL [[⟨1, 5⟩, ⟨2, -3⟩], [⟨1, -5⟩]] = [⟨2, -3⟩] ∧ addC [[⟨1, 5⟩, ⟨2, -3⟩], [⟨1, -5⟩]] = 0 := by decide
theorem isl_two {w : World} (g : Nat) (x y : Leg) (hg : g < w.heap.size) (c0 : w.cell? ⟨g, 0, none⟩ = some (.int .i64 x.inst)) (c1 : w.cell? ⟨g, 1, none⟩ = some (.int .i64 x.qty)) (c2 : w.cell? ⟨g, 2, none⟩ = some (.int .i64 y.inst)) (c3 : w.cell? ⟨g, 3, none⟩ = some (.int .i64 y.qty)) : IsSl 2 encLeg w (.slice (some ⟨g, 0, none⟩) 2 2) [x, y] := by
  refine ⟨some ⟨g, 0, none⟩, 2, rfl, ⟨fun i r hr => ⟨g, 0, rfl, hg, fun j v hv => ?_⟩, by simp, by unfold maxLen; omega, fun e => by cases e⟩⟩
  match i with
  | 0 =>
    simp [encLeg] at hr; subst hr
    match j with
    | 0 => simp at hv; subst hv; simpa using c0
    | 1 => simp at hv; subst hv; simpa using c1
    | j + 2 => simp at hv
  | 1 =>
    simp [encLeg] at hr; subst hr
    match j with
    | 0 => simp at hv; subst hv; simpa using c2
    | 1 => simp at hv; subst hv; simpa using c3
    | j + 2 => simp at hv
  | i + 2 => simp at hr
theorem rsOne {w : World} (g : Nat) (x : Leg) (hg : g < w.heap.size) (c0 : w.cell? ⟨g, 0, none⟩ = some (.int .i64 x.inst)) (c1 : w.cell? ⟨g, 1, none⟩ = some (.int .i64 x.qty)) : Rd w (some ⟨g, 0, none⟩) 2 ([x].map encLeg) := by
  obtain ⟨A, c, h1, h2⟩ := isl_one g x hg c0 c1
  injection h1 with e1 e2 e3
  rw [e1]; exact h2.rd
end Go.Proofs.Ytiidplinmempcaa

/- The law VecAdds: its walk. -/
namespace Go.Proofs.Ytiidplinmempcaa
open Go.RowKit
theorem addL_len (ls : List (List Leg)) : (addL ls).length ≤ 8 := by
  unfold addL vecL
  split
  · split
    · exact sumsL_len _ 8
    · simp
  · simp
theorem few12_len (ls : List (List Leg)) : (few12 ls).length ≤ 10 := by unfold few12; rw [List.length_map, List.length_take]; omega
theorem few12_short (ls : List (List Leg)) : Short (few12 ls) := by
  refine ⟨by have := few12_len ls; omega, fun l hl => ?_⟩
  unfold few12 at hl
  obtain ⟨l', _, rfl⟩ := List.mem_map.1 hl
  rw [List.length_take]; omega
theorem few12_64 {ls : List (List Leg)} (h : ∀ l ∈ ls, Legs64 l) : ∀ l ∈ few12 ls, Legs64 l := by
  intro l hl
  unfold few12 at hl
  obtain ⟨l', h1, rfl⟩ := List.mem_map.1 hl
  intro x hx
  exact h l' (List.mem_of_mem_take h1) x (List.mem_of_mem_take hx)
end Go.Proofs.Ytiidplinmempcaa

/- Vectors: plain laws. -/
namespace Go.Proofs.Ytiidplinmempcaa
open Go.RowKit
theorem isF_cons {a : Int} {x : Leg} {l : List Leg} : isF a (x :: l) = true ↔ a < x.inst ∧ x.inst ≤ 8 ∧ x.qty ≠ 0 ∧ isF x.inst l = true := by
  simp [isF, and_assoc]
theorem getF_low : ∀ {l : List Leg} {a i : Int}, isF a l = true → i ≤ a → getF i l = 0
  | [], _, _, _, _ => rfl
  | x :: l, a, i, h, hi => by
    obtain ⟨h1, _, _, h4⟩ := isF_cons.1 h
    rw [getF, if_neg (by omega)]
    exact getF_low h4 (by omega)
theorem vec_ext : ∀ {l m : List Leg} {a : Int}, isF a l = true → isF a m = true → (∀ i, a < i → i ≤ 8 → getF i l = getF i m) → l = m
  | [], [], _, _, _, _ => rfl
  | [], y :: m, a, _, hm, h => by
    obtain ⟨h1, h2, h3, _⟩ := isF_cons.1 hm
    have := h y.inst h1 h2
    simp [getF] at this
    exact absurd this.symm h3
  | x :: l, [], a, hl, _, h => by
    obtain ⟨h1, h2, h3, _⟩ := isF_cons.1 hl
    have := h x.inst h1 h2
    simp [getF] at this
    exact absurd this h3
  | x :: l, y :: m, a, hl, hm, h => by
    obtain ⟨a1, a2, a3, a4⟩ := isF_cons.1 hl
    obtain ⟨b1, b2, b3, b4⟩ := isF_cons.1 hm
    rcases Int.lt_trichotomy x.inst y.inst with h1 | h1 | h1
    · have := h x.inst a1 a2
      rw [getF, if_pos rfl, getF, if_neg (by omega), getF_low b4 (by omega)] at this
      exact absurd this a3
    · have hq := h x.inst a1 a2
      rw [getF, if_pos rfl, getF, if_pos h1.symm] at hq
      have hxy : x = y := by cases x; cases y; simp_all
      subst hxy
      congr 1
      refine vec_ext (a := x.inst) a4 b4 fun i h2 h3 => ?_
      have := h i (by omega) h3
      rwa [getF, if_neg (by omega), getF, if_neg (by omega)] at this
    · have := h y.inst b1 b2
      rw [getF, if_neg (by omega), getF_low a4 (by omega), getF, if_pos rfl] at this
      exact absurd this.symm b3
theorem isF_snoc : ∀ {l : List Leg} {a : Int} {x : Leg}, isF a l = true → (∀ y ∈ l, y.inst < x.inst) → a < x.inst → x.inst ≤ 8 → x.qty ≠ 0 → isF a (l ++ [x]) = true
  | [], a, x, _, _, h1, h2, h3 => by simp [isF, h1, h2, h3]
  | y :: l, a, x, h, hy, h1, h2, h3 => by
    obtain ⟨a1, a2, a3, a4⟩ := isF_cons.1 h
    rw [List.cons_append, isF_cons]
    exact ⟨a1, a2, a3, isF_snoc a4 (fun z hz => hy z (by simp [hz])) (hy y (by simp)) h2 h3⟩
theorem sumsL_le (f : Int → Int) : ∀ n, ∀ y ∈ sumsL f n, 1 ≤ y.inst ∧ y.inst ≤ n
  | 0, y, h => by simp [sumsL] at h
  | n + 1, y, h => by
    simp only [sumsL, List.mem_append] at h
    rcases h with h | h
    · have := sumsL_le f n y h; omega
    · split at h
      · simp at h
      · simp at h; subst h; simp; omega
theorem sumsL_is (f : Int → Int) : ∀ n : Nat, n ≤ 8 → isF 0 (sumsL f n) = true
  | 0, _ => rfl
  | n + 1, h => by
    have ih := sumsL_is f n (by omega)
    simp only [sumsL]
    split
    · simpa using ih
    · exact isF_snoc ih (fun y hy => by have := sumsL_le f n y hy; simp; omega) (by show (0 : Int) < (n : Int) + 1; omega) (by show (n : Int) + 1 ≤ 8; omega) (by simpa)
theorem getF_snoc {l : List Leg} {x : Leg} {i : Int} (h : x.inst ≠ i) : getF i (l ++ [x]) = getF i l := by
  induction l with
  | nil => simp [getF, h]
  | cons y l ih => simp only [List.cons_append, getF, ih]
theorem getF_none {l : List Leg} {i : Int} (h : ∀ y ∈ l, y.inst ≠ i) : getF i l = 0 := by
  induction l with
  | nil => rfl
  | cons y l ih => rw [getF, if_neg (h y (by simp)), ih fun z hz => h z (by simp [hz])]
theorem getF_last {l : List Leg} {x : Leg} (h : ∀ y ∈ l, y.inst ≠ x.inst) : getF x.inst (l ++ [x]) = x.qty := by
  induction l with
  | nil => simp [getF]
  | cons y l ih => rw [List.cons_append, getF, if_neg (h y (by simp)), ih fun z hz => h z (by simp [hz])]
theorem getF_sums (f : Int → Int) (i : Int) (h1 : 1 ≤ i) : ∀ n : Nat, i ≤ n → getF i (sumsL f n) = f i
  | 0, h => by omega
  | n + 1, h => by
    simp only [sumsL]
    by_cases hi : i = (n : Int) + 1
    · subst hi
      have hne : ∀ y ∈ sumsL f n, y.inst ≠ (n : Int) + 1 := fun y hy => by have := sumsL_le f n y hy; omega
      split
      · rename_i h0; rw [List.append_nil, getF_none hne, h0]
      · exact getF_last (x := ⟨(n : Int) + 1, f ((n : Int) + 1)⟩) hne
    · have ih := getF_sums f i h1 n (by omega)
      split
      · rw [List.append_nil]; exact ih
      · rw [getF_snoc (by simp; omega)]; exact ih
theorem isV_addL (ls : List (List Leg)) : isV (addL ls) = true := by
  unfold addL vecL
  split
  · split
    · exact sumsL_is _ 8 (Nat.le_refl _)
    · rfl
  · rfl
theorem addL_no {ls : List (List Leg)} (h : (addC ls == 0) = false) : addL ls = [] := by
  unfold addC vecC at h
  unfold addL vecL
  split
  · rename_i h1
    rw [if_pos h1] at h
    split
    · rename_i h2; rw [if_pos h2] at h; simp at h
    · rfl
  · rfl
theorem sumG_comm (a b : List Leg) : sumG [a, b] = sumG [b, a] := by
  funext i; unfold sumG; simp; omega
theorem allV_comm (a b : List Leg) : allV [a, b] = allV [b, a] := by unfold allV; simp [Bool.and_comm]
theorem addC_comm (a b : List Leg) : addC [a, b] = addC [b, a] := by unfold addC; rw [sumG_comm, allV_comm]
theorem addL_comm (a b : List Leg) : addL [a, b] = addL [b, a] := by unfold addL; rw [sumG_comm, allV_comm]
theorem isF_neg : ∀ {l : List Leg} {a : Int}, isF a l = true → isF a (negR l) = true
  | [], _, _ => rfl
  | x :: l, a, h => by
    obtain ⟨h1, h2, h3, h4⟩ := isF_cons.1 h
    show isF a (⟨x.inst, 0 - x.qty⟩ :: negR l) = true
    rw [isF_cons]
    exact ⟨h1, h2, by simp; omega, isF_neg h4⟩
theorem getF_neg (i : Int) : ∀ l : List Leg, getF i (negR l) = - getF i l
  | [] => rfl
  | x :: l => by
    show getF i (⟨x.inst, 0 - x.qty⟩ :: negR l) = _
    simp only [getF]
    split
    · omega
    · exact getF_neg i l
theorem fit_iff {f : Int → Int} : ∀ {n : Nat}, fitN f n = true ↔ ∀ i : Int, 1 ≤ i → i ≤ n → In64 (f i)
  | 0 => by simp [fitN]; intro i h1 h2; omega
  | n + 1 => by
    simp only [fitN, Bool.and_eq_true]
    rw [fit_iff (n := n), in64_iff]
    constructor
    · rintro ⟨h1, h2⟩ i hi1 hi2
      by_cases h : i < (n : Int) + 1
      · exact h1 i hi1 (by omega)
      · have : i = (n : Int) + 1 := by omega
        subst this; exact h2
    · intro h
      exact ⟨fun i h1 h2 => h i h1 (by omega), h _ (by omega) (by omega)⟩
theorem getF_mem {l : List Leg} {i : Int} : getF i l = 0 ∨ ∃ x ∈ l, x.inst = i ∧ getF i l = x.qty := by
  induction l with
  | nil => left; rfl
  | cons x l ih =>
    simp only [getF]
    split
    · right; exact ⟨x, by simp, by assumption, rfl⟩
    · rcases ih with h | ⟨y, hy, h1, h2⟩
      · left; exact h
      · right; exact ⟨y, by simp [hy], h1, h2⟩
theorem getF_of_mem : ∀ {l : List Leg} {a : Int} {x : Leg}, isF a l = true → x ∈ l → getF x.inst l = x.qty ∧ a < x.inst ∧ x.inst ≤ 8
  | [], _, _, _, h => by cases h
  | y :: l, a, x, h, hx => by
    obtain ⟨h1, h2, h3, h4⟩ := isF_cons.1 h
    rcases List.mem_cons.1 hx with rfl | hx
    · exact ⟨by rw [getF, if_pos rfl], h1, h2⟩
    · obtain ⟨k1, k2, k3⟩ := getF_of_mem h4 hx
      exact ⟨by rw [getF, if_neg (by omega)]; exact k1, by omega, k3⟩
theorem fit_neg {l : List Leg} (hv : isV l = true) : fitN (fun i => - getF i l) 8 = l.all (fun x => in64 (0 - x.qty)) := by
  rw [Bool.eq_iff_iff, fit_iff, List.all_eq_true]
  constructor
  · intro h x hx
    obtain ⟨h1, h2, h3⟩ := getF_of_mem hv hx
    have := h x.inst (by omega) (by omega)
    rw [h1] at this
    rw [in64_iff]
    have e : 0 - x.qty = - x.qty := by omega
    rw [e]; exact this
  · intro h i _ _
    rcases getF_mem (l := l) (i := i) with h1 | ⟨x, hx, _, h1⟩
    · rw [h1]; simp [In64]
    · rw [h1]
      have := in64_iff.1 (h x hx)
      have e : 0 - x.qty = - x.qty := by omega
      rw [← e]; exact this
theorem sums_neg {l : List Leg} (hv : isV l = true) : sumsL (fun i => - getF i l) 8 = negR l :=
  vec_ext (a := 0) (sumsL_is _ 8 (Nat.le_refl _)) (isF_neg hv) fun i h1 h2 => by rw [getF_sums _ i (by omega) 8 (by omega), getF_neg]
theorem negC_ref (l : List Leg) : (if isV l then vecC (fun i => - getF i l) else 3) = negC l := by
  unfold negC vecC
  cases hv : isV l
  · rfl
  · rw [fit_neg hv]
theorem negL_ref (l : List Leg) : (if isV l then vecL (fun i => - getF i l) else []) = negL l := by
  unfold negL vecL
  cases hv : isV l
  · rfl
  · rw [fit_neg hv, sums_neg hv]
theorem negL_len (l : List Leg) : (negL l).length ≤ l.length := by
  unfold negL negR
  split
  · split <;> simp
  · simp
theorem neg64 {l : List Leg} : Legs64 (negL l) := by
  unfold negL
  split
  · split
    · rename_i h
      intro x hx
      unfold negR at hx
      obtain ⟨y, hy, rfl⟩ := List.mem_map.1 hx
      exact in64_iff.1 (List.all_eq_true.1 h y hy)
    · intro x hx; cases hx
  · intro x hx; cases hx
/-- What a vector that can be turned is with its other side. -/
theorem neg_ok {l : List Leg} (h : (negC l == 0) = true) : isV l = true ∧ negL l = negR l ∧ isV (negR l) = true ∧ addC [l, negR l] = 0 ∧ addL [l, negR l] = [] := by
  have h0 : negC l = 0 := by simpa using h
  unfold negC at h0
  cases hv : isV l
  · rw [hv] at h0; cases h0
  rw [hv] at h0
  cases ha : l.all (fun x => in64 (0 - x.qty))
  · rw [ha] at h0; cases h0
  have hn : isV (negR l) = true := isF_neg hv
  have hal : allV [l, negR l] = true := by unfold allV; simp [hv, hn]
  have hs : sumG [l, negR l] = fun _ => 0 := by
    funext i; unfold sumG; simp [getF_neg]; omega
  have hf : fitN (fun _ => (0 : Int)) 8 = true := by decide
  have hl : sumsL (fun _ => (0 : Int)) 8 = [] := by decide
  refine ⟨rfl, by unfold negL; rw [hv, ha]; rfl, hn, ?_, ?_⟩
  · unfold addC vecC; rw [hal, hs, hf]; rfl
  · unfold addL vecL; rw [hal, hs, hf, hl]; rfl
theorem neg_no {l : List Leg} (h : (negC l == 0) = false) : negL l = [] := by
  unfold negC at h
  unfold negL
  split
  · rename_i h1
    rw [if_pos h1] at h
    split
    · rename_i h2; rw [if_pos h2] at h; simp at h
    · rfl
  · rfl
theorem neg_same {l : List Leg} (h : isV l = true) : decide (l = negR l) = ((l.length : Int) == 0) := by
  cases l with
  | nil => rfl
  | cons x l =>
    obtain ⟨_, _, h3, _⟩ := isF_cons.1 h
    have h1 : ¬ (x :: l = negR (x :: l)) := by
      intro e
      have : x :: l = ⟨x.inst, 0 - x.qty⟩ :: negR l := e
      injection this with e1 _
      have := congrArg Leg.qty e1
      simp only [] at this
      omega
    rw [decide_eq_false h1]
    symm
    rw [beq_eq_false_iff_ne]
    simp; omega
end Go.Proofs.Ytiidplinmempcaa

/- Contracts of the reference's Neg, Gross (11). -/
namespace Go.Proofs.Ytiidplinmempcaa
open Go.RowKit
set_option maxRecDepth 100000 in
set_option maxHeartbeats 4000000 in
theorem ref11Neg (l : List Leg) (A : Option Addr) (c : Nat) (w : World) (hl : l.length ≤ 1099511627776) (h64 : Legs64 l) (hr : Rd w A 2 (l.map encLeg)) :
    Calls Try.prog 102 #[.slice A l.length c] w (LegsPost w (negC l) (negL l)) := by
  have HR := Lib.hid hr
  have H64 := Lib.hid h64
  have c1 := fun W (h : Rd W A 2 (l.map encLeg)) => refIs11 l A c W hl h
  have HC := Lib.hid (negC_ref l)
  have HA := Lib.hid (negL_ref l)
  clear hr h64
  cases hv : isV l
  · rw [hv] at c1 HC HA
    have C1 := Lib.hid c1
    clear c1 hv
    go_enter Try.func102, Try.ntmps102
    go_wp2_with (go_at_call 76; (with_reducible refine (C1.out _ HR.out).mono ?_); rintro e w1 ⟨rfl, hb1⟩; obtain ⟨fc1, fg1, hc1, hf1, hz1⟩ := bget hb1; try simp at hz1)
    go_ret2
    exact ⟨_, by rw [← HC.out]; rfl, by rw [← HA.out]; exact Own.nil _ _ _ _, by (repeat' (first | (with_reducible exact Below.refl _ _) | (with_reducible assumption) | (with_reducible refine Below.alloc ?_ ?_ _) | (with_reducible refine Below.setCell ?_ ?_ _) | (with_reducible refine Below.drew ?_) | (with_reducible refine below_drewN ?_ _) | (with_reducible refine below_via ?_ (by with_reducible assumption) ?_) | omega | (simp; done) | (simp; omega)))⟩
  rw [hv] at c1 HC HA
  have C1 := Lib.hid c1
  have hmk := make8
  clear c1 hv
  go_enter Try.func102, Try.ntmps102
  go_wp2_with (go_at_call 76; (with_reducible refine (C1.out _ HR.out).mono ?_); rintro e w2 ⟨rfl, hb2⟩; obtain ⟨fc2, fg2, hc2, hf2, hz2⟩ := bget hb2; (try simp at hz2); have Hb2 := Lib.hid hb2; clear hb2)
  clear hmk hc2 hf2
  go_loopw [5] (fun i wr => ∃ j : Nat, j ≤ 8 ∧ i = .int .i64 j ∧ OwnB wr w.heap.size (66 + j) (.slice (some ⟨w2.heap.size, 0, none⟩) 8 8) (mix (f8 (fun i => - getF i l)) (f8 (sumG [])) j) ∧ Below w.heap.size w wr) (fun i _ => 8 - (intOf i).toNat)
  case atStart => exact ⟨0, Nat.zero_le _, rfl, by rw [mix_zero, f8_zero]; exact ownB_zeros w2 8 (by unfold maxLen; omega) _ rfl (by omega) _, by have hb2 := Hb2.out; (repeat' (first | (with_reducible exact Below.refl _ _) | (with_reducible assumption) | (with_reducible refine Below.alloc ?_ ?_ _) | (with_reducible refine Below.setCell ?_ ?_ _) | (with_reducible refine Below.drew ?_) | (with_reducible refine below_drewN ?_ _) | (with_reducible refine below_via ?_ (by with_reducible assumption) ?_) | omega | (simp; done) | (simp; omega)))⟩
  case round =>
    obtain ⟨j, hj, rfl, hown, hbl⟩ := hrel
    have Hown := Lib.hid hown
    have Hbl := Lib.hid hbl
    have hz := hbl.size
    clear hown hbl
    by_cases h8 : j < 8
    · have hfz := Hown.out.frozen.1
      have hgz := Hown.out.frozen.2.2
      obtain ⟨s, A1, l1, d1, e0, e1, _, hl1⟩ := Hown.out.at (mix_at (by rw [f8_len, f8_len]) (by rw [f8_len]; exact h8) (f8_at _ h8))
      have c3 := fun W (h : Rd W A 2 (l.map encLeg)) => refGet11 l ((j : Int) + 1) A c W hl h
      have I3 := get64 (i := (j : Int) + 1) H64.out
      have HAT := Lib.hid (f8_at (fun i => - getF i l) h8)
      obtain ⟨n, hn⟩ : ∃ n, n = getF ((j : Int) + 1) l := ⟨_, rfl⟩
      rw [← hn] at c3 I3 HAT
      have C3 := Lib.hid c3
      have HK3 := Lib.hid (HR.out.keep Hbl.out)
      have jb : (j : Int) < 8 := by omega
      clear c3 hn
      go_wp2_with (first | (go_at_call 84; (with_reducible refine (C3.out _ (HK3.out.keep (by (repeat' (first | (with_reducible exact Below.refl _ _) | (with_reducible assumption) | (with_reducible refine Below.alloc ?_ ?_ _) | (with_reducible refine Below.setCell ?_ ?_ _) | (with_reducible refine Below.drew ?_) | (with_reducible refine below_drewN ?_ _) | (with_reducible refine below_via ?_ (by with_reducible assumption) ?_) | omega | (simp; done) | (simp; omega)))))).mono ?_); rintro e w3 ⟨rfl, hb3⟩; obtain ⟨fc3, fg3, hc3, hf3, hz3⟩ := bget hb3; try simp at hz3) | (go_at_call 25; (with_reducible refine (bigOf n _ I3).mono ?_); rintro e w4 ⟨s4, A4, l4, c4, rfl, hB4, hl4, hb4⟩; have HB4 := Lib.hid hB4; clear hB4; obtain ⟨fc4, fg4, hc4, hf4, hz4⟩ := bget hb4; (try simp at hz4)) | (go_at_call 133; (with_reducible refine (bigNeg n s4 l4 A4 c4 (65 + j) _ (by omega) (by omega) (HB4.out.keep (by (repeat' (first | (with_reducible exact Below.refl _ _) | (with_reducible assumption) | (with_reducible refine Below.alloc ?_ ?_ _) | (with_reducible refine Below.setCell ?_ ?_ _) | (with_reducible refine Below.drew ?_) | (with_reducible refine below_drewN ?_ _) | (with_reducible refine below_via ?_ (by with_reducible assumption) ?_) | omega | (simp; done) | (simp; omega)))))).mono ?_); rintro e w5 ⟨s5, A5, l5, c5, rfl, hB5, hl5, hb5⟩; have HB5 := Lib.hid hB5; clear hB5; obtain ⟨fc5, fg5, hc5, hf5, hz5⟩ := bget hb5; (try simp at hz5)))
      have HNX := Lib.hid (mix_set (a := f8 (fun i => - getF i l)) (b := f8 (sumG [])) (k := j) (by rw [f8_len, f8_len]) (by rw [f8_len]; exact h8) HAT.out).symm
      have HST := Lib.hid ((Hown.out.keep (w' := w5) (by (repeat' (first | (with_reducible exact Below.refl _ _) | (with_reducible assumption) | (with_reducible refine Below.alloc ?_ ?_ _) | (with_reducible refine Below.setCell ?_ ?_ _) | (with_reducible refine Below.drew ?_) | (with_reducible refine below_drewN ?_ _) | (with_reducible refine below_via ?_ (by with_reducible assumption) ?_) | omega | (simp; done) | (simp; omega))))).store (M := 66 + (j + 1)) (i := j) (by rw [mix_len (by rw [f8_len, f8_len]) (by rw [f8_len]; omega), f8_len]; exact h8) HB5.out (by omega) (by omega))
      have Hb5 : Hid (Below w.heap.size w w5) := by have hbl := Hbl.out; unfold Hid; (repeat' (first | (with_reducible exact Below.refl _ _) | (with_reducible assumption) | (with_reducible refine Below.alloc ?_ ?_ _) | (with_reducible refine Below.setCell ?_ ?_ _) | (with_reducible refine Below.drew ?_) | (with_reducible refine below_drewN ?_ _) | (with_reducible refine below_via ?_ (by with_reducible assumption) ?_) | omega | (simp; done) | (simp; omega)))
      have hgg := Hown.out.frozen.2.1
      go_roundw
      case rel => exact ⟨j + 1, by omega, by go_num, by rw [HNX.out]; exact HST.out, by have hbl := Hb5.out; (repeat' (first | (with_reducible exact Below.refl _ _) | (with_reducible assumption) | (with_reducible refine Below.alloc ?_ ?_ _) | (with_reducible refine Below.setCell ?_ ?_ _) | (with_reducible refine Below.drew ?_) | (with_reducible refine below_drewN ?_ _) | (with_reducible refine below_via ?_ (by with_reducible assumption) ?_) | omega | (simp; done) | (simp; omega)))⟩
      case measure => simp [intOf]; omega
    · obtain rfl : j = 8 := by omega
      have ho := Hown.out
      rw [mix_all (by rw [f8_len]; omega) (by rw [f8_len]; omega)] at ho
      have HO := Lib.hid (ho.mono (M := 900000) (Nat.le_refl _) (by omega))
      clear ho
      go_wp2_with (go_at_call 85; (with_reducible refine (ref11Of (fun i => - getF i l) _ _ w.heap.size 900000 _ (by omega) HO.out).mono ?_); rintro e w5 ⟨v, rfl, hown5, hb5⟩)
      go_ret2
      exact ⟨_, by rw [← HC.out]; rfl, by rw [← HA.out]; exact hown5.mono hz, by (have hbl := Hbl.out; (repeat' (first | (with_reducible exact Below.refl _ _) | (with_reducible assumption) | (with_reducible refine Below.alloc ?_ ?_ _) | (with_reducible refine Below.setCell ?_ ?_ _) | (with_reducible refine Below.drew ?_) | (with_reducible refine below_drewN ?_ _) | (with_reducible refine below_via ?_ (by with_reducible assumption) ?_) | omega | (simp; done) | (simp; omega))))⟩
end Go.Proofs.Ytiidplinmempcaa

/- Contract of the reference's Gross (11). -/
namespace Go.Proofs.Ytiidplinmempcaa
open Go.RowKit
theorem isBig_abs {w : World} {n : Int} {s : Bool} {A : Option Addr} {l : List Int} {c : Nat} (h : IsBig w n s A l c) : IsBig w (iabs n) false A l c :=
  ⟨h.rd, h.bit, h.top, by rw [h.val]; unfold iabs; split <;> (try split) <;> omega, h.cap, h.room, by symm; rw [decide_eq_false_iff_not]; unfold iabs; split <;> omega⟩
theorem absL_snoc {l : List Leg} {k : Nat} (h : k < l.length) : (absL (l.take (k + 1))).sum = (absL (l.take k)).sum + iabs l[k].qty := by
  unfold absL; rw [map_snoc h, List.sum_append]; simp
end Go.Proofs.Ytiidplinmempcaa

/- The law VecBack: its walk. -/
namespace Go.Proofs.Ytiidplinmempcaa
open Go.RowKit
/-- The legs of a row that was handed in, as the law takes them: 12 at most. -/
theorem take12 {w : World} {l0 : List Leg} {A : Option Addr} {c : Nat} (hr : Rs w 2 (l0.map encLeg) A c) (h64 : Legs64 l0) : ∃ l, l = l0.take 12 ∧ l.length ≤ 12 ∧ Legs64 l ∧ Rs w 2 (l.map encLeg) A c :=
  ⟨_, rfl, by rw [List.length_take]; omega, fun x hx => h64 x (List.mem_of_mem_take hx), hr.takeL 12⟩
theorem addC_len (ls : List (List Leg)) : (addL ls).length ≤ 8 := addL_len ls
end Go.Proofs.Ytiidplinmempcaa
