/- Joined. -/
import Derived.Test.YtalgfpegaobacaaGreatDoorQa4
import Derived.Test.YtalgfpegaobacaaGreatDoorQa5
namespace Go.Proofs.YtalgfpegaobacaaGreatDoor
set_option linter.all false
set_option maxHeartbeats 4000000
set_option maxRecDepth 100000
open Go.RowKit
open Lib (hid)
theorem ownB_zeros (w : World) (n : Nat) (hn : n ≤ maxLen) (cs : Array Value) (hcs : cs = ((List.replicate n [Value.bool false, .slice none 0 0]).flatten).toArray) {base : Nat} (hb : base ≤ w.heap.size) (L : Nat) :
  OwnB (w.alloc (.cells cs 141)) base L (.slice (some ⟨w.heap.size, 0, none⟩) n n) (List.replicate n 0) := by
 have hall : ∀ r ∈ List.replicate n [Value.bool false, .slice none 0 0], r.length = 2 := by
  intro r hr; rw [List.eq_of_mem_replicate hr]; rfl
 refine ⟨List.replicate n [.bool false, .slice none 0 0], ⟨by simp, fun i a b h1 h2 => ?_⟩, hall, ?_, .inr ⟨w.heap.size, n, cs, by simp, hb, heap_alloc_new w _, by simp, hn, ?_, ?_⟩⟩
 ·have e1 := List.eq_of_mem_replicate (List.mem_of_getElem? h1)
  have e2 := List.eq_of_mem_replicate (List.mem_of_getElem? h2)
  subst e1 e2
  exact ⟨false, none, [], 0, rfl, isBig_zero _, by simp⟩
 ·rw [flatten_length hall]
 ·rw [hcs]; simp only [List.size_toArray]; rw [flatten_length hall]; simp
 ·rw [hcs]
  simp only []
  rw [List.take_of_length_le]
  rw [flatten_length hall]; exact Nat.le_refl _
def f8 (f : Int → Int) : List Int := (List.range 8).map fun (k : Nat) => f ((k : Int) + 1)
theorem f8_at (f : Int → Int) {k : Nat} (h : k < 8) : (f8 f)[k]? = some (f ((k : Int) + 1)) := by simp [f8, h]
theorem f8_len (f : Int → Int) : (f8 f).length = 8 := by simp [f8]
theorem ref11Of (f : Int → Int) (g c base L : Nat) (w : World) (hL : L ≤ 900000) (hr : OwnB w base L (.slice (some ⟨g, 0, none⟩) 8 c) (f8 f)) :
  Calls Tryz.prog 178 #[.slice (some ⟨g, 0, none⟩) 8 c] w (LegsPost w (vecC f) (vecL f)) := by
 have HR := hid hr
 have hf := hr.frozen
 have hg := hf.2.2
 clear hr hf
 go_enter Tryz.func178, Tryz.ntmps178
 go_wp2_with fail
 go_loopw [4, 5] (fun v i wr => ∃ j : Nat, j ≤ 8 ∧ i = .int .i64 j ∧ fitN f j = true ∧ Own wr w.heap.size 64 2 v ((sumsL f j).map encLeg) ∧ Below w.heap.size w wr) (fun _ i _ => 8 - (intOf i).toNat)
 case atStart => exact ⟨0, Nat.zero_le _, rfl, rfl, Own.nil _ _ _ _, Below.refl _ _⟩
 case round =>
  obtain ⟨j, hj, rfl, hfit, hown, hbl⟩ := hrel
  have Hfit := hid hfit
  have Hown := hid hown
  have Hbl := hid hbl
  have hz := hbl.size
  have hsl := sumsL_len f j
  clear hfit hown hbl
  by_cases h8 : j < 8
  ·obtain ⟨s, A, l, d, c0, c1, hB, hl⟩ := HR.out.at (f8_at f h8)
   have e0 := (Hbl.out.cell (p := ⟨g, j * 2, none⟩) hg).trans c0
   have e1 := (Hbl.out.cell (p := ⟨g, j * 2 + 1, none⟩) hg).trans c1
   have HB := hid (hB.keep Hbl.out)
   have HSL := hid (show sumsL f (j + 1) = sumsL f j ++ (if f ((j : Int) + 1) = 0 then [] else [⟨(j : Int) + 1, f ((j : Int) + 1)⟩]) from rfl)
   have HFN := hid (show fitN f (j + 1) = (fitN f j && in64 (f ((j : Int) + 1))) from rfl)
   have HNO := fun h => fit_no (f := f) h8 h
   obtain ⟨n, hn⟩ : ∃ n, n = f ((j : Int) + 1) := ⟨_, rfl⟩
   rw [← hn] at HB HSL HFN HNO
   clear c0 c1 hB hn
   cases h64 : in64 n
   ·have HF := hid (HNO h64)
    have c2 := fun W (h : IsBig W n s A l d) => bigFits n s l A d L W hL hl h
    rw [h64] at c2
    have C2 := hid c2
    clear c2 h64 HNO
    go_wp2_with (go_at_call 119; (with_reducible refine (C2.out _ HB.out).mono ?_); rintro e w2 ⟨rfl, hb2⟩; have hz2 := hb2.size; have Hb2 := hid hb2; clear hb2)
    go_ret2
    exact ⟨_, by rw [vecC, HF.out]; rfl, by rw [vecL, HF.out]; exact Own.nil _ _ _ _, by (have hbl := Hbl.out; have hb2 := Hb2.out; exact tB)⟩
   ·have HF := hid (show fitN f (j + 1) = true from by rw [HFN.out, Hfit.out, h64]; rfl)
    have I64 := hid (in64_iff.1 h64)
    have c2 := fun W (h : IsBig W n s A l d) => bigFits n s l A d L W hL hl h
    rw [h64] at c2
    have C2 := hid c2
    clear c2 h64 HNO
    cases hq : (n == 0)
    ·have HNE := hid (show sumsL f (j + 1) = sumsL f j ++ [⟨(j : Int) + 1, n⟩] from by rw [HSL.out, if_neg (by simpa using hq)])
     go_wp2_with (first | (go_at_call 119; (with_reducible refine cM (C2.out _ HB.out) fun w2 hb2 fc2 fg2 hc2 hf2 hz2 => ?_); (try simp at hz2); have Hb2 := hid hb2; clear hb2) | (go_at_call 120; (with_reducible refine cM (bigInt n s l A d _ (by omega) I64.out (HB.out.keep Hb2.out)) fun w3 hb3 fc3 fg3 hc3 hf3 hz3 => ?_); (try simp at hz3); have Hb3 := hid hb3; clear hb3) | (at_builtin; refine wpList_app rfl _ _ _ rfl elLeg w.heap.size _ _ rfl ((((Hown.out.keep Hb2.out).keep Hb3.out)).alloc _) (some ⟨w3.heap.size, 0, none⟩) 1 1 rfl [encLeg ⟨(j : Int) + 1, n⟩] rfl (fun h => by cases h) rd_one (rowsLeg [⟨(j : Int) + 1, n⟩]) (by unfold maxLen; exact tE) tE tZ ?_; intro v' w6 hown6 hb6))
     go_roundw
     case rel => exact ⟨j + 1, by omega, by go_num, HF.out, by rw [HNE.out, List.map_append]; exact hown6, by have hbl := Hbl.out; have hb2 := Hb2.out; have hb3 := Hb3.out; exact tB⟩
     case measure => simp [intOf]; omega
    ·have HNE := hid (show sumsL f (j + 1) = sumsL f j from by rw [HSL.out, if_pos (by simpa using hq), List.append_nil])
     go_wp2_with (first | (go_at_call 119; (with_reducible refine cM (C2.out _ HB.out) fun w2 hb2 fc2 fg2 hc2 hf2 hz2 => ?_); (try simp at hz2); have Hb2 := hid hb2; clear hb2) | (go_at_call 120; (with_reducible refine cM (bigInt n s l A d _ (by omega) I64.out (HB.out.keep Hb2.out)) fun w3 hb3 fc3 fg3 hc3 hf3 hz3 => ?_); (try simp at hz3); have Hb3 := hid hb3; clear hb3))
     go_roundw
     case rel => exact ⟨j + 1, by omega, by go_num, HF.out, by rw [HNE.out]; exact (Hown.out.keep Hb2.out).keep Hb3.out, by have hbl := Hbl.out; have hb2 := Hb2.out; have hb3 := Hb3.out; exact tB⟩
     case measure => simp [intOf]; omega
  ·obtain rfl : j = 8 := by omega
   go_wp2_with fail
   go_ret2
   exact ⟨_, by rw [vecC, Hfit.out]; rfl, by rw [vecL, Hfit.out]; exact Hown.out, Hbl.out⟩
def mix (a b : List Int) (k : Nat) : List Int := a.take k ++ b.drop k
theorem mix_len {a b : List Int} {k : Nat} (h : a.length = b.length) (hk : k ≤ b.length) : (mix a b k).length = b.length := by
 unfold mix; rw [List.length_append, List.length_take, List.length_drop]; omega
theorem mix_at {a b : List Int} {k : Nat} {x : Int} (h : a.length = b.length) (hk : k < b.length) (hx : b[k]? = some x) : (mix a b k)[k]? = some x := by
 unfold mix
 rw [List.getElem?_append_right (by rw [List.length_take]; omega), List.length_take, Nat.min_eq_left (by omega), List.getElem?_drop, Nat.sub_self]
 exact hx
theorem mix_set {a b : List Int} {k : Nat} {x : Int} (h : a.length = b.length) (hk : k < b.length) (hx : a[k]? = some x) : (mix a b k).set k x = mix a b (k + 1) := by
 unfold mix
 have hl : (a.take k).length = k := by rw [List.length_take]; omega
 obtain ⟨ha, rfl⟩ := List.getElem?_eq_some_iff.1 hx
 rw [List.set_append_right _ _ (by omega), hl, Nat.sub_self, List.drop_eq_getElem_cons hk, List.set_cons_zero, List.take_succ_eq_append_getElem ha, List.append_assoc]
 rfl
theorem mix_zero (a b : List Int) : mix a b 0 = b := by simp [mix]
theorem mix_all {a b : List Int} {k : Nat} (ha : a.length ≤ k) (hb : b.length ≤ k) : mix a b k = a := by
 unfold mix; rw [List.take_of_length_le ha, List.drop_eq_nil_of_le hb]; simp
theorem sumG_snoc {ls : List (List Leg)} {k : Nat} (h : k < ls.length) (i : Int) : sumG (ls.take (k + 1)) i = sumG (ls.take k) i + getF i ls[k] := by
 unfold sumG; rw [map_snoc h, List.sum_append]; simp
theorem make8 (W : World) : (Instr.makeSlice 235 (.int .i64 8) (.int .i64 8)).run Tryz.prog W = .ok (.slice (some ⟨W.heap.size, 0, none⟩) 8 8) (W.alloc (.cells #[.bool false, .slice none 0 0, .bool false, .slice none 0 0, .bool false, .slice none 0 0, .bool false, .slice none 0 0, .bool false, .slice none 0 0, .bool false, .slice none 0 0, .bool false, .slice none 0 0, .bool false, .slice none 0 0] 141)) := by kernel_rfl
theorem f8_zero : f8 (sumG []) = List.replicate 8 0 := by decide
theorem ref11Add (ls : List (List Leg)) (A : Option Addr) (c : Nat) (w : World) (hll : ls.length ≤ 100000) (hl : Short ls) (h64 : ∀ l ∈ ls, Legs64 l) (hr : RsS 2 encLeg w ls A c) :
  Calls Tryz.prog 150 #[.slice A ls.length c] w (LegsPost w (addC ls) (addL ls)) := by
 have HR := hid hr
 have HL := hid hl
 have H64 := hid h64
 clear hr hl h64
 have hmk := make8
 go_enter Tryz.func150, Tryz.ntmps150
 go_wp2_with fail
 clear hmk
 go_loopw [5] (fun i wr => ∃ k : Nat, k ≤ ls.length ∧ i = .int .i64 k ∧ (allV ls = allV (ls.drop k)) ∧ OwnB wr w.heap.size (65 + 8 * k) (.slice (some ⟨w.heap.size, 0, none⟩) 8 8) (f8 (sumG (ls.take k))) ∧ Below w.heap.size w wr) (fun i _ => ls.length - (intOf i).toNat)
 case atStart => exact ⟨0, Nat.zero_le _, rfl, rfl, by rw [List.take_zero, f8_zero]; exact ownB_zeros w 8 (by unfold maxLen; omega) _ rfl (Nat.le_refl _) _, tB⟩
 case round =>
  obtain ⟨k, hk, rfl, hv, hown, hbl⟩ := hrel
  have Hown := hid hown
  clear hown
  have Hbl := hid hbl
  have HV := hid hv
  have hz := hbl.size
  clear hbl hv
  by_cases hlt : k < ls.length
  ·obtain ⟨b, o, B, d, rfl, hb, hq, hrk⟩ := HR.out.row hlt
   have HD := hid (drop_cons' hlt)
   have e0 := (Hbl.out.cell (p := ⟨b, o + k, none⟩) hb).trans hq
   have HK := hid (hrk.keep Hbl.out)
   have HRK := hid hrk
   have HKL := HL.out.pt hlt
   have c1 := fun W (h : Rd W B 2 (ls[k].map encLeg)) => refIs11 ls[k] B d W HKL h
   have HQ := hid hq
   clear hq hrk
   cases hm : isV ls[k]
   ·rw [hm] at c1
    have C1 := hid c1
    have HN := hid (show allV (ls[k] :: ls.drop (k + 1)) = false from by unfold allV; rw [List.all_cons, hm]; rfl)
    clear c1 hm
    go_wp2_with (go_at_call 92; (with_reducible refine (C1.out _ HK.out.rd).mono ?_); rintro e w2 ⟨rfl, hb2⟩; have hz2 := hb2.size; have Hb2 := hid hb2; clear hb2)
    go_ret2
    exact ⟨_, by unfold addC; rw [HV.out, HD.out, HN.out]; rfl, by unfold addL; rw [HV.out, HD.out, HN.out]; exact Own.nil _ _ _ _, by (have hbl := Hbl.out; have hb2 := Hb2.out; exact tB)⟩
   ·rw [hm] at c1
    have C1 := hid c1
    have HN := hid (show allV (ls[k] :: ls.drop (k + 1)) = allV (ls.drop (k + 1)) from by unfold allV; rw [List.all_cons, hm]; rfl)
    clear c1 hm
    go_wp2_with (go_at_call 92; (with_reducible refine cM (C1.out _ HK.out.rd) fun w2 hb2 fc2 fg2 hc2 hf2 hz2 => ?_); (try simp at hz2); have Hb2 := hid hb2; clear hb2)
    obtain ⟨wo, hwo⟩ : ∃ wo : World, wo = w2 := ⟨_, rfl⟩
    have HO2 := hid (Hown.out.keep Hb2.out)
    have HB2 := hid (Hbl.out.trans (Hb2.out.mono hz))
    have hzz := HB2.out.size
    clear hc2 hf2 e0
    rw [← hwo] at HO2 HB2 hzz ⊢
    clear hwo
    go_loopw [6] (fun i wr => ∃ j : Nat, j ≤ 8 ∧ i = .int .i64 j ∧ OwnB wr w.heap.size (65 + 8 * k + j) (.slice (some ⟨w.heap.size, 0, none⟩) 8 8) (mix (f8 (sumG (ls.take (k + 1)))) (f8 (sumG (ls.take k))) j) ∧ Below w.heap.size w wr) (fun i _ => 8 - (intOf i).toNat)
    case atStart => exact ⟨0, Nat.zero_le _, rfl, by rw [mix_zero]; exact HO2.out.mono (Nat.le_refl _) (by omega), HB2.out⟩
    case round =>
     obtain ⟨j, hj, rfl, hown, hbl⟩ := hrel
     have Hown3 := hid hown
     have Hbl3 := hid hbl
     have hz3 := hbl.size
     clear hown hbl
     by_cases h8 : j < 8
     ·obtain ⟨s, A1, l1, d1, c0, c1, hB, hl1⟩ := Hown3.out.at (mix_at (by rw [f8_len, f8_len]) (by rw [f8_len]; exact h8) (f8_at _ h8))
      have e0 := (Hbl3.out.cell (p := ⟨b, o + k, none⟩) hb).trans HQ.out
      have c3 := fun W (h : Rd W B 2 (ls[k].map encLeg)) => refGet11 ls[k] ((j : Int) + 1) B d W HKL h
      have I3 := get64 (i := (j : Int) + 1) (H64.out _ (List.getElem_mem hlt))
      have HSG := hid (sumG_snoc hlt ((j : Int) + 1))
      obtain ⟨n, hn⟩ : ∃ n, n = getF ((j : Int) + 1) ls[k] := ⟨_, rfl⟩
      rw [← hn] at c3 I3 HSG
      have C3 := hid c3
      have HK3 := hid (HRK.out.keep Hbl3.out)
      have HB := hid hB
      have hfz := Hown3.out.frozen.1
      have hgz := Hown3.out.frozen.2.2
      have jb : (j : Int) < 8 := by omega
      have wj : IntKind.i64.wrap ((j : Int) + 1) = (j : Int) + 1 := IntWalk.i64_in _ (by omega)
      clear c3 hn hB
      go_wp2_with fail
      go_region_with (first | (go_at_call 177; (with_reducible refine cM (C3.out _ (HK3.out.keep tB).rd) fun w3 hb3 fc3 fg3 hc3 hf3 hz3 => ?_); try simp at hz3) | (go_at_call 80; (with_reducible refine (bigOf n _ I3).mono ?_); rintro e w4 ⟨s4, A4, l4, c4, rfl, hB4, hl4, hb4⟩; have HB4 := hid hB4; clear hB4; obtain ⟨fc4, fg4, hc4, hf4, hz4⟩ := bget hb4; (try simp at hz4)) | (go_at_call 118; (with_reducible refine (bigAdd _ n s s4 l1 l4 A1 A4 d1 c4 (65 + 8 * k + j) _ (by omega) hl1 (by omega) (HB.out.keep tB) (HB4.out.keep tB)).mono ?_); rintro e w5 ⟨s5, A5, l5, c5, rfl, hB5, hl5, hb5⟩; have HB5 := hid hB5; clear hB5; obtain ⟨fc5, fg5, hc5, hf5, hz5⟩ := bget hb5; (try simp at hz5)))
      clear wj
      all_goals
       have HNX := hid (show mix (f8 (sumG (ls.take (k + 1)))) (f8 (sumG (ls.take k))) (j + 1) = (mix (f8 (sumG (ls.take (k + 1)))) (f8 (sumG (ls.take k))) j).set j (sumG (ls.take k) ((j : Int) + 1) + n) from
        (mix_set (by rw [f8_len, f8_len]) (by rw [f8_len]; exact h8) (by rw [f8_at _ h8, HSG.out])).symm)
       have HST := hid ((Hown3.out.keep (w' := w5) tB).store (M := 65 + 8 * k + (j + 1)) (i := j) (by rw [mix_len (by rw [f8_len, f8_len]) (by rw [f8_len]; omega), f8_len]; exact h8) HB5.out (by omega) (by omega))
       have Hb5 : Hid (Below w.heap.size w w5) := by have hbl := Hbl3.out; unfold Hid; exact tB
       clear hc4 hc5 hf4 hf5
       go_wp2_with fail
       go_roundw
       case rel => exact ⟨j + 1, by omega, by go_num, by rw [HNX.out]; exact HST.out, by have hbl := Hb5.out; exact tB⟩
       case measure => simp [intOf]; omega
     ·obtain rfl : j = 8 := by omega
      have ho := Hown3.out
      rw [mix_all (by rw [f8_len]; omega) (by rw [f8_len]; omega)] at ho
      have HO3 := hid ho
      clear ho
      go_wp2_with fail
      go_roundw
      case rel => exact ⟨k + 1, by omega, by go_num, by rw [HV.out, HD.out, HN.out], HO3.out.mono (Nat.le_refl _) (by omega), Hbl3.out⟩
      case measure => simp [intOf]; omega
  ·have HD := hid (drop_all (l := ls) (k := k) (by omega))
   have ho := Hown.out
   rw [List.take_of_length_le (by omega)] at ho
   have HO := hid (ho.mono (M := 900000) (Nat.le_refl _) (by omega))
   have HAV : Hid (allV ls = true) := by unfold Hid; rw [HV.out, HD.out]; rfl
   clear ho
   go_wp2_with (go_at_call 178; (with_reducible refine (ref11Of (sumG ls) _ _ w.heap.size 900000 _ (by omega) HO.out).mono ?_); rintro e w2 ⟨v, rfl, hown2, hb2⟩)
   go_ret2
   exact ⟨_, by unfold addC; rw [HAV.out]; rfl, by unfold addL; rw [HAV.out]; exact hown2.mono hz, by (have hbl := Hbl.out; exact tB)⟩
theorem isBig_abs {w : World} {n : Int} {s : Bool} {A : Option Addr} {l : List Int} {c : Nat} (h : IsBig w n s A l c) : IsBig w (iabs n) false A l c :=
 ⟨h.rd, h.bit, h.top, by rw [h.val]; unfold iabs; split <;> (try split) <;> omega, h.cap, h.room, by symm; rw [decide_eq_false_iff_not]; unfold iabs; split <;> omega⟩
theorem absL_snoc {l : List Leg} {k : Nat} (h : k < l.length) : (absL (l.take (k + 1))).sum = (absL (l.take k)).sum + iabs l[k].qty := by
 unfold absL; rw [map_snoc h, List.sum_append]; simp
theorem ref11Gross (l : List Leg) (A : Option Addr) (c : Nat) (w : World) (hl : l.length ≤ 100000) (h64 : Legs64 l) (hr : Rd w A 2 (l.map encLeg)) :
  Calls Tryz.prog 117 #[.slice A l.length c] w fun e w' => e = .returned (.tuple #[.int .i64 (grossN l), .int .i64 (grossC l)]) ∧ Below w.heap.size w w' := by
 have HR := hid hr
 have H64 := hid h64
 have c1 := fun W (h : Rd W A 2 (l.map encLeg)) => refIs11 l A c W (by omega) h
 clear hr h64
 cases hv : isV l
 ·rw [hv] at c1
  have HC := hid (show grossC l = 3 from by unfold grossC; rw [hv]; rfl)
  have HA := hid (show grossN l = 0 from by unfold grossN; rw [hv]; rfl)
  have C1 := hid c1
  clear c1 hv
  go_enter Tryz.func117, Tryz.ntmps117
  go_wp2_with (go_at_call 92; (with_reducible refine cM (C1.out _ HR.out) fun w1 hb1 fc1 fg1 hc1 hf1 hz1 => ?_); try simp at hz1)
  go_ret2
  exact ⟨by rw [HC.out, HA.out]; rfl, tB⟩
 rw [hv] at c1
 have HC := hid (show grossC l = if absF l then (if in64 (absL l).sum then 0 else 7) else 7 from by unfold grossC; rw [hv]; rfl)
 have HA := hid (show grossN l = if absF l then (if in64 (absL l).sum then (absL l).sum else 0) else 0 from by unfold grossN; rw [hv]; rfl)
 have C1 := hid c1
 clear c1 hv
 go_enter Tryz.func117, Tryz.ntmps117
 go_wp2_with (go_at_call 92; (with_reducible refine cM (C1.out _ HR.out) fun w2 hb2 fc2 fg2 hc2 hf2 hz2 => ?_); (try simp at hz2); have Hb2 := hid hb2; clear hb2)
 clear hc2 hf2
 go_loopw [5] (fun i wr => ∃ (k : Nat) (s : Bool) (A1 : Option Addr) (l1 : List Int) (c1 : Nat), k ≤ l.length ∧ i = .int .i64 k ∧ (absF l = absF (l.drop k)) ∧ Blk wr w2.heap.size 141 #[.bool s, .slice A1 l1.length c1] ∧ IsBig wr (absL (l.take k)).sum s A1 l1 c1 ∧ l1.length ≤ 70 + k ∧ Below w.heap.size w wr) (fun i _ => l.length - (intOf i).toNat)
 case atStart => exact ⟨0, false, none, [], 0, Nat.zero_le _, rfl, rfl, by show Blk _ _ _ #[.bool false, .slice none 0 0]; exact tL, isBig_zero _, by simp, by have hb2 := Hb2.out; exact tB⟩
 case round =>
  obtain ⟨k, s, A1, l1, c1, hk, rfl, hv, hblk, hB, hl1, hbl⟩ := hrel
  have Hblk := hid hblk
  have HB := hid hB
  have r0 := hblk.cell 0
  have r1 := hblk.cell 1
  simp at r0 r1
  have fz := fun i => hblk.frozen i
  have hgl := hblk.lt
  clear hblk hB
  have Hbl := hid hbl
  have HV := hid hv
  have hz := hbl.size
  clear hbl hv
  by_cases hlt : k < l.length
  ·obtain ⟨be, oe, rfl, hbe, hqe⟩ := HR.out k (encLeg l[k]) (by simp [hlt])
   replace hqe := fun j v hv => (Hbl.out.cell (p := ⟨be, oe + k * 2 + j, none⟩) hbe).trans (hqe j v hv)
   have e0 := hqe 0 _ rfl
   have e1 := hqe 1 _ rfl
   simp only [Nat.add_zero] at e0
   clear hqe
   have HD := hid (drop_cons' hlt)
   have hq := H64.out l[k] (List.getElem_mem hlt)
   have HSM := hid (absL_snoc hlt)
   cases hm : in64 (iabs l[k].qty)
   ·have HN : Hid (absF (l[k] :: l.drop (k + 1)) = false) := by unfold Hid absF; simp only [List.all_cons]; rw [hm]; rfl
    have HM := hid hm
    clear hm
    go_wp2_with (first | (go_at_call 80; (with_reducible refine (bigOf l[k].qty _ hq).mono ?_); rintro e w4 ⟨s4, A4, l4, c4, rfl, hB4, hl4, hb4⟩; have HB4 := hid (isBig_abs hB4); clear hB4; obtain ⟨fc4, fg4, hc4, hf4, hz4⟩ := bget hb4; (try simp at hz4)) | (go_at_call 119; (with_reducible refine (bigFits (iabs l[k].qty) false l4 A4 c4 65 _ (by omega) hl4 (HB4.out.keep tB)).mono ?_); rw [HM.out]; rintro e w5 ⟨rfl, hb5⟩; obtain ⟨fc5, fg5, hc5, hf5, hz5⟩ := bget hb5; (try simp at hz5)))
    go_ret2
    exact ⟨by rw [HC.out, HA.out, HV.out, HD.out, HN.out]; rfl, by (have hbl := Hbl.out; exact tB)⟩
   ·have HN : Hid (absF (l[k] :: l.drop (k + 1)) = absF (l.drop (k + 1))) := by unfold Hid absF; simp only [List.all_cons]; rw [hm]; rfl
    have HM := hid hm
    clear hm
    go_wp2_with (first | (go_at_call 80; (with_reducible refine (bigOf l[k].qty _ hq).mono ?_); rintro e w4 ⟨s4, A4, l4, c4, rfl, hB4, hl4, hb4⟩; have HB4 := hid (isBig_abs hB4); clear hB4; obtain ⟨fc4, fg4, hc4, hf4, hz4⟩ := bget hb4; (try simp at hz4)) | (go_at_call 119; (with_reducible refine (bigFits (iabs l[k].qty) false l4 A4 c4 65 _ (by omega) hl4 (HB4.out.keep tB)).mono ?_); rw [HM.out]; rintro e w5 ⟨rfl, hb5⟩; obtain ⟨fc5, fg5, hc5, hf5, hz5⟩ := bget hb5; (try simp at hz5)) | (go_at_call 118; (with_reducible refine (bigAdd _ (iabs l[k].qty) s false l1 l4 A1 A4 c1 c4 (70 + k) _ (by omega) hl1 (by omega) (HB.out.keep tB) (HB4.out.keep tB)).mono ?_); rintro e w6 ⟨s6, A6, l6, c6, rfl, hB6, hl6, hb6⟩; have HB6 := hid hB6; clear hB6; obtain ⟨fc6, fg6, hc6, hf6, hz6⟩ := bget hb6; (try simp at hz6)))
    have hk6 : Blk w6 w2.heap.size 141 #[.bool s, .slice A1 l1.length c1] := by have hblk := Hblk.out; exact tL
    have x0 := hk6.cell 0
    have x1 := hk6.cell 1
    simp at x0 x1
    have hk7 : Blk ((w6.setCell ⟨w2.heap.size, 0, none⟩ (.bool s6)).setCell ⟨w2.heap.size, 1, none⟩ (.slice A6 l6.length c6)) w2.heap.size 141 #[.bool s6, .slice A6 l6.length c6] := by
     simpa using (hk6.set 0 (.bool s6)).set 1 (.slice A6 l6.length c6)
    have hb7 := (HB6.out.far x0 (by simp) (.bool s6)).far ((World.cell?_setCell_other _ _ _ _ (by simp)).trans x1) (by simp) (.slice A6 l6.length c6)
    go_roundw
    case rel => exact ⟨k + 1, s6, A6, l6, c6, by omega, by go_num, by rw [HV.out, HD.out, HN.out], hk7, by rw [HSM.out]; exact hb7, by omega, by (have hbl := Hbl.out; exact tB)⟩
    case measure => simp [intOf]; omega
  ·have HD := hid (drop_all (l := l) (k := k) (by omega))
   have hB := HB.out
   rw [List.take_of_length_le (by omega)] at hB
   have HB2 := hid hB
   have HF : Hid (absF l = true) := by unfold Hid; rw [HV.out, HD.out]; rfl
   clear hB
   cases hm : in64 (absL l).sum
   ·have HM := hid hm
    clear hm
    go_wp2_with (go_at_call 119; (with_reducible refine (bigFits _ s l1 A1 c1 (70 + k) _ (by omega) hl1 HB2.out).mono ?_); rw [HM.out]; rintro e w5 ⟨rfl, hb5⟩; obtain ⟨fc5, fg5, hc5, hf5, hz5⟩ := bget hb5; (try simp at hz5))
    go_ret2
    exact ⟨by rw [HC.out, HA.out, HF.out, HM.out]; rfl, by (have hbl := Hbl.out; exact tB)⟩
   ·have HM := hid hm
    have HI := hid (in64_iff.1 hm)
    clear hm
    go_wp2_with (first | (go_at_call 119; (with_reducible refine (bigFits _ s l1 A1 c1 (70 + k) _ (by omega) hl1 HB2.out).mono ?_); rw [HM.out]; rintro e w5 ⟨rfl, hb5⟩; obtain ⟨fc5, fg5, hc5, hf5, hz5⟩ := bget hb5; (try simp at hz5)) | (go_at_call 120; (with_reducible refine cM (bigInt _ s l1 A1 c1 _ (by omega) HI.out (HB2.out.keep tB)) fun w6 hb6 fc6 fg6 hc6 hf6 hz6 => ?_); (try simp at hz6)))
    go_ret2
    exact ⟨by rw [HC.out, HA.out, HF.out, HM.out]; rfl, by (have hbl := Hbl.out; exact tB)⟩
end Go.Proofs.YtalgfpegaobacaaGreatDoor
