/- Joined. -/
import Derived.Test.YtalgfpegaobacaaGreatDoorQa1
import Derived.Test.YtalgfpegaobacaaGreatDoorQz5
namespace Go.Proofs.YtalgfpegaobacaaGreatDoor
set_option linter.all false
set_option maxHeartbeats 2000000
set_option maxRecDepth 100000
open Go.RowKit
open Lib (hid)
def BigPost (w : World) (n : Int) (L : Nat) (e : Ending) (w' : World) : Prop :=
 ∃ s A l c, e = .returned (.agg #[.bool s, .slice A l.length c]) ∧ IsBig w' n s A l c ∧ l.length ≤ L ∧ Below w.heap.size w w'
def TrimPost (w : World) (A : Option Addr) (c : Nat) (s : Bool) (l : List Int) (e : Ending) (w' : World) : Prop :=
 ∃ l2, e = .returned (.agg #[.bool (s && decide (0 < val l)), .slice A l2.length c]) ∧ (∃ k, l2 = l.take k) ∧ Top l2 ∧ val l2 = val l ∧ Below w.heap.size w w'
theorem trim_big {w : World} {n : Int} {s : Bool} {A : Option Addr} {l l2 : List Int} {c : Nat} (hr : Rd w A 1 (l.map encB)) (hb : Bit l) (hk : ∃ k, l2 = l.take k) (ht : Top l2) (hv : val l2 = val l) (hn : val l = iabs n) (hc : l.length ≤ c) (hm : c ≤ maxLen) (hs : s = decide (n < 0)) : IsBig w n s A l2 c := by
 obtain ⟨k, rfl⟩ := hk
 exact ⟨hr.take k, bit_take hb k, ht, hv.trans hn, by rw [List.length_take]; omega, hm, hs⟩
theorem trim_len {l l2 : List Int} (hk : ∃ k, l2 = l.take k) : l2.length ≤ l.length := by
 obtain ⟨k, rfl⟩ := hk
 rw [List.length_take]; omega
theorem take_pred_zero {l : List Int} {k : Nat} (h0 : 0 < k) (hx : l.getD (k - 1) 0 = 0) : val (l.take (k - 1)) = val (l.take k) := by
 have := take_succD l (k - 1)
 rw [show k - 1 + 1 = k from by omega, hx] at this
 simp at this
 exact this.symm
theorem top_take {l : List Int} {k : Nat} (h0 : 0 < k) (hk : k ≤ l.length) (hx : l.getD (k - 1) 0 = 1) : Top (l.take k) := by
 intro b hb
 rw [List.getLast?_eq_getElem?, List.length_take, Nat.min_eq_left hk, List.getElem?_take, if_pos (by omega)] at hb
 rw [List.getD_eq_getElem?_getD, hb] at hx
 exact hx
theorem bigTrim (s : Bool) (l : List Int) (A : Option Addr) (c : Nat) (w : World) (_hl : l.length ≤ 1048576) (hr : Rd w A 1 (l.map encB)) (hb : Bit l) (hc : l.length ≤ c) (hm : c ≤ maxLen) :
  Calls Tryz.prog 145 #[.bool s, .slice A l.length c] w (TrimPost w A c s l) := by
 unfold maxLen at hm
 have Hr := hid hr
 have Hb := hid hb
 clear hr hb
 go_enter Tryz.func145, Tryz.ntmps145
 go_wp2_with fail
 go_loop [5] (fun i => ∃ k : Nat, k ≤ l.length ∧ i = .int .i64 k ∧ val (l.take k) = val l) (fun i => (intOf i).toNat)
 case atStart => exact ⟨l.length, Nat.le_refl _, rfl, by rw [List.take_length]⟩
 case round =>
  obtain ⟨k, hk, rfl, hv⟩ := hrel
  have Hv := hid hv
  clear hv
  by_cases h0 : k = 0
  ·subst h0
   have hz := Hv.out
   simp [val] at hz
   have hf : decide (0 < val l) = false := by rw [← hz]; rfl
   have HF := hid hf
   clear hz hf
   cases s
   all_goals
    go_wp2_with fail
    refine bodyPost_ret (v := .agg #[.bool false, .slice A 0 c]) (by simp [results, Tryz.results145, go_sem]) rfl ⟨l.take 0, ?_, ⟨0, rfl⟩, ?_, ?_, ?_⟩
    ·rw [HF.out]; simp
    ·simpa using top_nil
    ·exact Hv.out
    ·exact tB
  ·have d0 : decide ((0 : Int) < (k : Int)) = true := by simpa using (show (0 : Int) < k from by omega)
   have k0 : 0 < k := by omega
   obtain ⟨b1, o1, rfl, hb1, c1⟩ := bit_cell Hr.out (Below.refl w.heap.size w) (Nat.le_refl _) (show k - 1 < l.length from by omega)
   have gx := bit_get Hb.out (k - 1)
   obtain ⟨x, hx⟩ : ∃ x, x = l.getD (k - 1) 0 := ⟨_, rfl⟩
   rw [← hx] at c1 gx
   have Hx := hid hx
   clear hx
   rcases (show x = 0 ∨ x = 1 from by omega) with h1 | h1
   ·subst h1
    go_wp2_with fail
    go_round
    case rel => exact ⟨k - 1, by omega, by go_num, by rw [take_pred_zero k0 Hx.out.symm]; exact Hv.out⟩
    case measure => simp [intOf]; omega
   ·subst h1
    have ht := top_take k0 hk Hx.out.symm
    have hlen : (l.take k).length = k := by rw [List.length_take]; omega
    have hp : 0 < val l := by
     rw [← Hv.out]
     exact top_pos (bit_take Hb.out k) ht (fun e => by rw [e] at hlen; simp at hlen; omega)
    have HP := hid hp
    have HT := hid ht
    have HL := hid hlen
    clear hp ht hlen
    cases s
    ·go_wp2_with fail
     refine bodyPost_ret (v := .agg #[.bool false, .slice (some ⟨b1, o1, none⟩) k c]) (by simp [results, Tryz.results145, go_sem]) rfl ⟨l.take k, ?_, ⟨k, rfl⟩, HT.out, Hv.out, ?_⟩
     ·rw [HL.out]; simp
     ·exact tB
    ·go_wp2_with fail
     refine bodyPost_ret (v := .agg #[.bool true, .slice (some ⟨b1, o1, none⟩) k c]) (by simp [results, Tryz.results145, go_sem]) rfl ⟨l.take k, ?_, ⟨k, rfl⟩, HT.out, Hv.out, ?_⟩
     ·rw [HL.out]; simp [HP.out]
     ·exact tB
theorem nat_step {l : List Int} {k : Nat} {u n : Int} (hl : l.length = k) (hv : val l + pw k * u = n) : val (l ++ [u % 2]) + pw (k + 1) * (u / 2) = n := by
 rw [val_snoc, hl, pw_succ, Int.add_assoc, digit_step]; exact hv
theorem pw_64 : pw 64 = 18446744073709551616 := by decide
theorem nat_len {l : List Int} {k : Nat} {u n : Int} (hb : Bit l) (hv : val l + pw k * u = n) (hu : 0 < u) (hn : n ≤ 18446744073709551615) : k < 64 := by
 rcases Nat.lt_or_ge k 64 with h | h
 ·exact h
 ·have h1 := pw_le h
  rw [pw_64] at h1
  have h2 := val_nonneg hb
  have h3 := pw_pos k
  have h4 : pw k * 1 ≤ pw k * u := Int.mul_le_mul_of_nonneg_left (by omega) (by omega)
  omega
def NatPost (w : World) (n : Int) (e : Ending) (w' : World) : Prop :=
 ∃ A l c, e = .returned (.agg #[.bool false, .slice A l.length c]) ∧ IsBig w' n false A l c ∧ l.length ≤ 64 ∧ Below w.heap.size w w'
theorem bigNat (n : Int) (w : World) (h0 : 0 ≤ n) (h1 : n ≤ 18446744073709551615) :
  Calls Tryz.prog 122 #[.int .u64 n] w (NatPost w n) := by
 go_enter Tryz.func122, Tryz.ntmps122
 go_wp2_with fail
 go_loopw [0, 3] (fun a v wr => ∃ (k : Nat) (l : List Int) (u : Int), a = .int .u64 u ∧ 0 ≤ u ∧ u ≤ n ∧ Own wr (w.heap.size + 1) 5 1 v (l.map encB) ∧ Below (w.heap.size + 1) (w.alloc (.cells #[.bool false, .slice none 0 0] 141)) wr ∧ l.length = k ∧ k ≤ 64 ∧ Bit l ∧ val l + pw k * u = n ∧ (u = 0 → Top l))
  (fun a _ _ => (intOf a).toNat)
 case atStart => exact ⟨0, [], n, rfl, h0, Int.le_refl _, Own.nil _ _ _ _, tB, rfl, by omega, bit_nil, by simp [val, pw_zero], fun _ => top_nil⟩
 case round =>
  obtain ⟨k, l, u, rfl, u0, u1, hown, hbl, hl, hk, hbit, hval, htop⟩ := hrel
  have Hown := hid hown
  have Hbl := hid hbl
  have Hl := hid hl
  have Hbit := hid hbit
  have Hval := hid hval
  have Htop := hid htop
  have hz := hbl.size
  simp at hz
  clear hown hbl hl hbit hval htop
  by_cases h2 : 0 < u
  ·have hk64 := nat_len Hbit.out Hval.out h2 h1
   go_wp2_with (at_builtin; refine wpList_app rfl _ _ _ rfl elB (w.heap.size + 1) _ _ rfl (Hown.out.alloc _) (some ⟨wr.heap.size, 0, none⟩) 1 1 rfl [encB (u % 2)] rfl (fun h => by cases h) rd_one (by simp [encB]; rfl) (by have := Hl.out; unfold maxLen; simp; omega) (by have := Hl.out; simp; omega) (by simp; omega) ?_; intro v' w3 hown3 hb3)
   go_roundw
   case rel => exact ⟨k + 1, l ++ [u % 2], u / 2, by first | rfl | go_num, by omega, by omega, by simpa using hown3, (Hbl.out.alloc (by omega) _).trans hb3, by simp [Hl.out], by omega, bit_snoc Hbit.out (by omega) (by omega), nat_step Hl.out Hval.out, fun h => by
    have : u = 1 := by omega
    subst this
    intro b hb
    simpa using hb.symm⟩
   case measure => simp [intOf]; omega
  ·have hu : u = 0 := by omega
   subst hu
   have ht := Htop.out rfl
   have hv := Hval.out
   simp at hv
   obtain ⟨A, c, rfl, hc, hm, hr, _⟩ := Hown.out.shape
   have ho := Hown.out
   have B : IsBig wr n false A l c := ⟨hr, Hbit.out, ht, by rw [hv, iabs_pos h0], by simpa using hc, hm, by simpa using h0⟩
   have HB := hid B
   have r0 := (Hbl.out.cell (p := ⟨w.heap.size, 0, none⟩) (by simp))
   have r1 := (Hbl.out.cell (p := ⟨w.heap.size, 1, none⟩) (by simp))
   have z0 := (Hbl.out.frozen (p := ⟨w.heap.size, 0, none⟩) (by simp))
   have z1 := (Hbl.out.frozen (p := ⟨w.heap.size, 1, none⟩) (by simp))
   simp at r0 r1 z0 z1
   clear ht hv hc hm hr ho B
   simp only [List.length_map]
   go_wp2_with fail
   refine bodyPost_ret (v := .agg #[.bool false, .slice A l.length c]) (by simp [results, Tryz.results122, go_sem, r0, r1]) rfl ⟨A, l, c, rfl, ?_, by have := Hl.out; omega, ?_⟩
   ·have ho := (Hown.out.farLow (p := ⟨w.heap.size, 0, none⟩) (by simp) (.bool false)).farLow (p := ⟨w.heap.size, 1, none⟩) (by simp) (.slice A l.length c)
    simp only [List.length_map] at ho
    have hr := ho.rd.1
    exact ⟨hr, HB.out.bit, HB.out.top, HB.out.val, HB.out.cap, HB.out.room, HB.out.sgn⟩
   ·exact (((((Below.refl w.heap.size w).alloc (Nat.le_refl _) _).trans (Hbl.out.mono (by omega)))).setCell (Nat.le_refl _) _).setCell (Nat.le_refl _) _
attribute [local go_sem] fieldBigB
theorem rd_bit1 {w : World} {E : TypeId} : Rd (w.alloc (.cells #[.int .u8 1] E)) (some ⟨w.heap.size, 0, none⟩) 1 ([1].map encB) := by
 simpa [encB] using (rd_one (w := w) (cs := #[.int .u8 1]) (E := E) (k := 1))
theorem bigOf (n : Int) (w : World) (h : In64 n) :
  Calls Tryz.prog 80 #[.int .i64 n] w (BigPost w n 65) := by
 unfold In64 at h
 by_cases hn : n < 0
 ·have hd : decide (n < 0) = true := by simpa using hn
  have ge : decide (0 ≤ n) = false := by simpa using hn
  have HD := hid hd
  clear hd
  have g1 : -(n + 1) = - n - 1 := by omega
  have na : - n - 1 + 1 = iabs n := by rw [iabs_neg hn]; omega
  have NA := hid na
  clear na
  go_enter Tryz.func80, Tryz.ntmps80
  go_wp2_with fail
  refine (bigNat (- n - 1) _ (by omega) (by omega)).mono ?_
  rintro e w1 ⟨A, l, c, rfl, hB, hl, hb1⟩
  have HB := hid hB
  obtain ⟨fc1, fg1, hc1, hf1, hz1⟩ := bget hb1
  simp at hz1
  clear hB
  go_wp2_with fail
  refine (bigPlus l [1] A _ c 1 _ (by omega) (by simp) (HB.out.rd.keep ((Below.refl _ _).alloc (Nat.le_refl _) _)) rd_bit1 HB.out.bit (by intro b hb; simp at hb; subst hb; omega)).mono ?_
  rintro e w2 ⟨v, l2, rfl, hown, hb2, hbit2, hval2, hlen⟩
  obtain ⟨A2, c2, rfl, hc, hm, hr, _⟩ := hown.shape
  have hv : val l2 = iabs n := by rw [hval2, HB.out.val, iabs_pos (by omega), ← NA.out]; simp [val]
  have ht : Top l2 := by
   rcases hlen with h1 | ⟨_, h1⟩
   ·have hl1 : l2.length = (max l.length 1 - 1) + 1 := by rw [h1]; simp; omega
    refine top_of_ge hbit2 hl1 ?_
    rw [hval2]
    rcases Nat.eq_zero_or_pos l.length with h0 | h0
    ·rw [h0]
     have h3 := val_nonneg HB.out.bit
     simp [val, pw]
     omega
    ·have h4 := top_ge HB.out.bit HB.out.top (k := l.length - 1) (by omega)
     rw [Nat.max_eq_left h0]
     simp [val]; omega
   ·exact h1
  have B : IsBig w2 n true A2 l2 c2 := ⟨hr, hbit2, ht, hv, by simpa using hc, hm, HD.out.symm⟩
  have HB2 := hid B
  have hlen2 : l2.length ≤ 65 := by rcases hlen with h1 | ⟨h1, _⟩ <;> simp at h1 <;> omega
  have Hown := hid hown
  obtain ⟨fc2, fg2, hc2, hf2, hz2⟩ := bget hb2
  simp at hz2
  clear hown B hv ht hlen hval2 hbit2 hr hc hm
  simp only [List.length_map]
  go_wp2_with fail
  refine bodyPost_ret (v := .agg #[.bool true, .slice A2 l2.length c2]) (by simp [results, Tryz.results80, go_sem, hc1, hc2, ↓IntWalk.iteOmega]; try rfl) rfl ⟨true, A2, l2, c2, rfl, ?_, hlen2, ?_⟩
  ·have ho := ((Hown.out.farLow (p := ⟨w.heap.size, 0, none⟩) (by simp; omega) (.bool true)).farLow (p := ⟨w.heap.size, 1, none⟩) (by simp; omega) (.slice A2 l2.length c2))
   simp only [List.length_map] at ho
   exact ⟨ho.rd.1, HB2.out.bit, HB2.out.top, HB2.out.val, HB2.out.cap, HB2.out.room, HB2.out.sgn⟩
  ·exact tB
 ·have hd : decide (n < 0) = false := by simpa using hn
  have ge : decide (0 ≤ n) = true := by simp; omega
  have HD := hid hd
  clear hd
  go_enter Tryz.func80, Tryz.ntmps80
  go_wp2_with fail
  refine (bigNat n _ (by omega) (by omega)).mono ?_
  rintro e w1 ⟨A, l, c, rfl, hB, hl, hb1⟩
  have HB := hid hB
  obtain ⟨fc1, fg1, hc1, hf1, hz1⟩ := bget hb1
  simp at hz1
  have r0 := hc1 w.heap.size 0
  have r1 := hc1 w.heap.size 1
  rw [if_pos (by simp)] at r0 r1
  simp at r0 r1
  clear hB
  go_wp2_with fail
  refine bodyPost_ret (v := .agg #[.bool false, .slice A l.length c]) (by simp [results, Tryz.results80, go_sem, hc1]; try rfl) rfl ⟨false, A, l, c, rfl, ?_, by omega, ?_⟩
  ·exact (HB.out.far r0 (by simp) _).far ((World.cell?_setCell_other _ _ _ _ (by simp)).trans r1) (by simp) _
  ·exact tB
theorem bigLess (la lb : List Int) (A B : Option Addr) (c d : Nat) (w : World) (hla : la.length ≤ 1048576) (_hlb : lb.length ≤ 1048576) (ha : Rd w A 1 (la.map encB)) (hb : Rd w B 1 (lb.map encB)) (ba : Bit la) (bb : Bit lb) (ta : Top la) (tb : Top lb) :
  Calls Tryz.prog 146 #[.slice A la.length c, .slice B lb.length d] w fun e w' => e = .returned (.bool (decide (val la < val lb))) ∧ Below w.heap.size w w' := by
 by_cases hne : la.length = lb.length
 ·have d1 : ((la.length : Int) != (lb.length : Int)) = false := by simp [hne]
  have Ha := hid ha
  have Hb := hid hb
  have Ba := hid ba
  have Bb := hid bb
  have Hne := hid hne
  clear ha hb ba bb hne ta tb
  go_enter Tryz.func146, Tryz.ntmps146
  go_wp2_with fail
  go_loopw [5] (fun i wr => ∃ k : Nat, k ≤ la.length ∧ i = .int .i64 k ∧ la.drop k = lb.drop k ∧ ∃ n, wr = w.drewN n) (fun i _ => (intOf i).toNat)
  case atStart => exact ⟨la.length, Nat.le_refl _, rfl, by rw [List.drop_length, Hne.out, List.drop_length], 0, rfl⟩
  case round =>
   obtain ⟨k, hk, rfl, hdr, nn, rfl⟩ := hrel
   have Hdr := hid hdr
   clear hdr
   by_cases h0 : k = 0
   ·subst h0
    have e : la = lb := by have := Hdr.out; simpa using this
    have hf : decide (val la < val lb) = false := by rw [e]; simp
    have HF := hid hf
    clear e hf
    go_wp2_with fail
    go_ret
    exact ⟨by rw [HF.out]; rfl, tB⟩
   ·have k0 : 0 < k := by omega
    obtain ⟨b1, o1, rfl, hb1, c1⟩ := bit_cell Ha.out (Below.refl w.heap.size w) (Nat.le_refl _) (show k - 1 < la.length from by omega)
    obtain ⟨b2, o2, rfl, hb2, c2⟩ := bit_cell Hb.out (Below.refl w.heap.size w) (Nat.le_refl _) (show k - 1 < lb.length from by have := Hne.out; omega)
    have gx := bit_get Ba.out (k - 1)
    have gy := bit_get Bb.out (k - 1)
    obtain ⟨x, hx⟩ : ∃ x, x = la.getD (k - 1) 0 := ⟨_, rfl⟩
    obtain ⟨y, hy⟩ : ∃ y, y = lb.getD (k - 1) 0 := ⟨_, rfl⟩
    rw [← hx] at c1 gx
    rw [← hy] at c2 gy
    have Hx := hid hx
    have Hy := hid hy
    have kl : (k : Int) ≤ (la.length : Int) := by omega
    have kl2 : (k : Int) ≤ (lb.length : Int) := by have := Hne.out; omega
    clear hx hy
    by_cases hxy : x = y
    ·have HXY := hid hxy
     subst hxy
     go_wp2_with fail
     go_quiet (fail)
     go_wp2_with fail
     go_roundw
     case rel => exact ⟨k - 1, by omega, by go_num, drop_pred k0 (by omega) (by have := Hne.out; omega) (Hx.out.symm.trans Hy.out) Hdr.out, _, rfl⟩
     case measure => simp [intOf]; omega
    ·have dn : (x != y) = true := by simpa using hxy
     have hd2 : la.drop (k - 1 + 1) = lb.drop (k - 1 + 1) := by rw [show k - 1 + 1 = k from by omega]; exact Hdr.out
     have hf : decide (val la < val lb) = decide (x < y) := by
      have hle : k - 1 < la.length := by omega
      have hne2 : x < y ∨ y < x := by omega
      rcases hne2 with h1 | h1
      ·have := cmp_at Ba.out Bb.out Hne.out hle hd2 (by rw [← Hx.out, ← Hy.out]; exact h1)
       simp [h1, this]
      ·have := cmp_at Bb.out Ba.out Hne.out.symm (by have := Hne.out; omega) hd2.symm (by rw [← Hx.out, ← Hy.out]; exact h1)
       have h2 : ¬ val la < val lb := by omega
       have h3 : ¬ x < y := by omega
       simp [h2, h3]
     have HF := hid hf
     clear hf hd2 hxy
     go_wp2_with fail
     go_quiet (fail)
     go_wp2_with fail
     go_quiet (fail)
     go_wp2_with fail
     go_ret
     exact ⟨by rw [HF.out]; rfl, tB⟩
 ·have d1 : ((la.length : Int) != (lb.length : Int)) = true := by simp; omega
  have hf : decide (val la < val lb) = decide (la.length < lb.length) := by
   rcases (show la.length < lb.length ∨ lb.length < la.length from by omega) with h1 | h1
   ·have := lt_of_len ba bb tb h1
    simp [this, h1]
   ·have := lt_of_len bb ba ta h1
    have h2 : ¬ val la < val lb := by omega
    have h3 : ¬ la.length < lb.length := by omega
    simp [h2, h3]
  have HF := hid hf
  clear hf ha hb ba bb ta tb
  go_enter Tryz.func146, Tryz.ntmps146
  go_wp2_with fail
  go_ret
  exact ⟨by rw [HF.out]; rfl, Below.refl _ _⟩
def MinusPost (w : World) (la lb : List Int) (e : Ending) (w' : World) : Prop :=
 ∃ v l, e = .returned v ∧ Own w' w.heap.size 5 1 v (l.map encB) ∧ Below w.heap.size w w' ∧ Bit l ∧ val l = val la - val lb ∧ l.length = la.length
theorem bigMinus (la lb : List Int) (A B : Option Addr) (c d : Nat) (w : World) (hla : la.length ≤ 1048576) (hlb : lb.length ≤ la.length) (ha : Rd w A 1 (la.map encB)) (hb : Rd w B 1 (lb.map encB)) (ba : Bit la) (bb : Bit lb) (hab : val lb ≤ val la) :
  Calls Tryz.prog 147 #[.slice A la.length c, .slice B lb.length d] w (MinusPost w la lb) := by
 have Ha := hid ha
 have Hb := hid hb
 have Ba := hid ba
 have Bb := hid bb
 have Hab := hid hab
 clear ha hb ba bb hab
 go_enter Tryz.func147, Tryz.ntmps147
 go_wp2_with fail
 go_loopw [5, 6, 7] (fun v cc i wr => ∃ (k : Nat) (l : List Int) (q : Int), k ≤ la.length ∧ i = .int .i64 k ∧ cc = .int .u8 q ∧ 0 ≤ q ∧ q ≤ 1 ∧ Own wr w.heap.size 5 1 v (l.map encB) ∧ Below w.heap.size w wr ∧ l.length = k ∧ Bit l ∧ val l = val (la.take k) - val (lb.take k) + pw k * q)
  (fun _ _ i _ => la.length - (intOf i).toNat)
 case atStart => exact ⟨0, [], 0, Nat.zero_le _, rfl, rfl, by omega, by omega, Own.nil _ _ _ _, Below.refl _ _, rfl, bit_nil, by simp [val]⟩
 case round =>
  obtain ⟨k, l, q, hk, rfl, rfl, q0, q1, hown, hbl, hl, hbit, hval⟩ := hrel
  have Hown := hid hown
  have Hbl := hid hbl
  have Hl := hid hl
  have Hbit := hid hbit
  have Hval := hid hval
  have hz := hbl.size
  have ga := bit_get Ba.out k
  have gb := bit_get Bb.out k
  have Ea := hid (take_succD la k)
  have Eb := hid (take_succD lb k)
  clear hown hbl hl hbit hval
  obtain ⟨x, hx⟩ : ∃ x, x = la.getD k 0 := ⟨_, rfl⟩
  obtain ⟨y, hy⟩ : ∃ y, y = lb.getD k 0 := ⟨_, rfl⟩
  by_cases h1 : k < la.length
  ·obtain ⟨b1, o1, rfl, hb1, c1⟩ := bit_cell Ha.out Hbl.out (Nat.le_refl _) h1
   rw [← hx] at ga c1 Ea
   rw [← hy] at gb Eb
   have Hx := hid hx
   clear hx
   by_cases h2 : k < lb.length
   ·obtain ⟨b2, o2, rfl, hb2, c2⟩ := bit_cell Hb.out Hbl.out (Nat.le_refl _) h2
    rw [← hy] at c2
    have Hy := hid hy
    clear hy
    by_cases h3 : x + 2 - (q + y) < 2
    ·go_wp2_with (at_builtin; refine wpList_app rfl _ _ _ rfl elB w.heap.size _ _ rfl (Hown.out.alloc _) (some ⟨wr.heap.size, 0, none⟩) 1 1 rfl [encB ((x + 2 - (q + y)) % 2)] rfl (fun h => by cases h) rd_one (by simp [encB]; rfl) (by have := Hl.out; unfold maxLen; simp; omega) (by have := Hl.out; simp; omega) (by simp; omega) ?_; intro v' w3 hown3 hb3)
     go_roundw
     case rel => exact ⟨k + 1, l ++ [(x + 2 - (q + y)) % 2], 1, by omega, by go_num, rfl, by omega, by omega, by simpa using hown3, (Hbl.out.alloc hz _).trans hb3, by simp [Hl.out], bit_snoc Hbit.out (by omega) (by omega), minus_step Hl.out Hval.out Ea.out Eb.out (by omega)⟩
     case measure => simp [intOf]; omega
    ·go_wp2_with (at_builtin; refine wpList_app rfl _ _ _ rfl elB w.heap.size _ _ rfl (Hown.out.alloc _) (some ⟨wr.heap.size, 0, none⟩) 1 1 rfl [encB ((x + 2 - (q + y)) % 2)] rfl (fun h => by cases h) rd_one (by simp [encB]; rfl) (by have := Hl.out; unfold maxLen; simp; omega) (by have := Hl.out; simp; omega) (by simp; omega) ?_; intro v' w3 hown3 hb3)
     go_roundw
     case rel => exact ⟨k + 1, l ++ [(x + 2 - (q + y)) % 2], 0, by omega, by go_num, rfl, by omega, by omega, by simpa using hown3, (Hbl.out.alloc hz _).trans hb3, by simp [Hl.out], bit_snoc Hbit.out (by omega) (by omega), minus_step Hl.out Hval.out Ea.out Eb.out (by omega)⟩
     case measure => simp [intOf]; omega
   ·have hy0 : y = 0 := by rw [hy, List.getD_eq_getElem?_getD, List.getElem?_eq_none (by omega)]; rfl
    subst hy0
    clear hy
    have d2 := @dF k lb.length h2
    by_cases h3 : x + 2 - q < 2
    ·go_wp2_with (at_builtin; refine wpList_app rfl _ _ _ rfl elB w.heap.size _ _ rfl (Hown.out.alloc _) (some ⟨wr.heap.size, 0, none⟩) 1 1 rfl [encB ((x + 2 - q) % 2)] rfl (fun h => by cases h) rd_one (by simp [encB]; rfl) (by have := Hl.out; unfold maxLen; simp; omega) (by have := Hl.out; simp; omega) (by simp; omega) ?_; intro v' w3 hown3 hb3)
     go_roundw
     case rel => exact ⟨k + 1, l ++ [(x + 2 - (q + 0)) % 2], 1, by omega, by go_num, rfl, by omega, by omega, by simpa using hown3, (Hbl.out.alloc hz _).trans hb3, by simp [Hl.out], bit_snoc Hbit.out (by omega) (by omega), minus_step Hl.out Hval.out Ea.out Eb.out (by omega)⟩
     case measure => simp [intOf]; omega
    ·go_wp2_with (at_builtin; refine wpList_app rfl _ _ _ rfl elB w.heap.size _ _ rfl (Hown.out.alloc _) (some ⟨wr.heap.size, 0, none⟩) 1 1 rfl [encB ((x + 2 - q) % 2)] rfl (fun h => by cases h) rd_one (by simp [encB]; rfl) (by have := Hl.out; unfold maxLen; simp; omega) (by have := Hl.out; simp; omega) (by simp; omega) ?_; intro v' w3 hown3 hb3)
     go_roundw
     case rel => exact ⟨k + 1, l ++ [(x + 2 - (q + 0)) % 2], 0, by omega, by go_num, rfl, by omega, by omega, by simpa using hown3, (Hbl.out.alloc hz _).trans hb3, by simp [Hl.out], bit_snoc Hbit.out (by omega) (by omega), minus_step Hl.out Hval.out Ea.out Eb.out (by omega)⟩
     case measure => simp [intOf]; omega
  ·have hkm : k = la.length := by omega
   have hv := Hval.out
   rw [List.take_of_length_le (by omega), List.take_of_length_le (by omega)] at hv
   have hlt := val_lt Hbit.out
   rw [Hl.out] at hlt
   have h0 := Hab.out
   have hq : q = 0 := by
    rcases (show q = 0 ∨ q = 1 from by omega) with h | h
    ·exact h
    ·subst h; omega
   subst hq
   have HV := hid hv
   have HK := hid hkm
   clear hv hlt h0 hkm ga gb hx hy
   go_wp2_with fail
   go_ret
   exact ⟨u5, l, rfl, Hown.out, Hbl.out, Hbit.out, by have := HV.out; simpa using this, by rw [Hl.out, HK.out]⟩
theorem plus_len {x y z L : Nat} {p : Prop} (h1 : x ≤ L) (h2 : y ≤ L) (h : z = max x y ∨ (z = max x y + 1 ∧ p)) : z ≤ L + 1 := by
 rcases h with h | ⟨h, _⟩ <;> omega
theorem len_of_lt {a b : List Int} (ha : Bit a) (hb : Bit b) (ta : Top a) (h : val a ≤ val b) : a.length ≤ b.length := by
 rcases Nat.lt_or_ge b.length a.length with h1 | h1
 ·have := lt_of_len hb ha ta h1; omega
 ·exact h1
theorem pos_of_neg {n : Int} (h : decide (n < 0) = true) : iabs n = - n := iabs_neg (of_decide_eq_true h)
theorem pos_of_pos {n : Int} (h : decide (n < 0) = false) : iabs n = n ∧ 0 ≤ n := by have := of_decide_eq_false h; exact ⟨iabs_pos (by omega), by omega⟩
theorem bigAdd_false_false_plus (a b : Int) (hsa : decide (a < 0) = false) (hsb : decide (b < 0) = false) (la lb : List Int) (A B : Option Addr) (c d L : Nat) (w : World) (hL : L ≤ 1000000) (hla : la.length ≤ L) (hlb : lb.length ≤ L) (ha : IsBig w a false A la c) (hb : IsBig w b false B lb d) :
  Calls Tryz.prog 118 #[.agg #[.bool false, .slice A la.length c], .agg #[.bool false, .slice B lb.length d]] w (BigPost w (a + b) (L + 1)) := by
 have fa := pos_of_pos hsa
 have fb := pos_of_pos hsb
 have hn : iabs a + iabs b = iabs (a + b) := by unfold iabs at *; split at * <;> omega
 have hsg : ∀ x : Int, x = iabs (a + b) → decide (a + b < 0) = (false && decide (0 < x)) := by
  intro x hx
  rw [hx, Bool.eq_iff_iff]; simp; unfold iabs at *; split at * <;> omega
 have HN := hid hn
 have HSG := hid hsg
 have HA := hid ha
 have HB := hid hb
 clear hn hsg ha hb hsa hsb fa fb
 go_enter Tryz.func118, Tryz.ntmps118
 go_wp2_with fail
 go_region_held3 (fun w' => w'.cell? ⟨w.heap.size, 0, none⟩ = some (.bool false) ∧ w'.cell? ⟨w.heap.size, 1, none⟩ = some (.slice A la.length c) ∧ w'.cell? ⟨w.heap.size + 1, 0, none⟩ = some (.bool false) ∧ w'.cell? ⟨w.heap.size + 1, 1, none⟩ = some (.slice B lb.length d)) (exact tK) (first | (go_at_call 123; (with_reducible refine (bigPlus la lb A B c d _ (by omega) (by omega) (HA.out.rd.keep tB) (HB.out.rd.keep tB) HA.out.bit HB.out.bit).mono ?_); rintro e w1 ⟨v, l, rfl, hown, hb1, hbit, hval, hlen⟩; have hl1 := plus_len hla hlb hlen; have hb0 : Below w.heap.size w w := Below.refl _ _; obtain ⟨A1, c1, rfl, hcc, hmm, hr1, _⟩ := hown.shape; have Hval := hid hval; clear hval; have Hcc := hid hcc; clear hcc; obtain ⟨fc1, fg1, hc1, hf1, hz1⟩ := bget hb1; simp at hz1) | (go_at_call 145; (try simp only [List.length_map]); (with_reducible refine (bigTrim _ l A1 c1 _ (by omega) hr1 hbit (by simpa using Hcc.out) hmm).mono ?_); rintro e w2 ⟨l2, rfl, hk2, ht2, hv2, hb2⟩; have Hv2 := hid hv2; clear hv2; have Hk2 := hid hk2; clear hk2; obtain ⟨fc2, fg2, hc2, hf2, hz2⟩ := bget hb2))
 go_wp2_with fail
 all_goals
  have r0 : w2.cell? ⟨w.heap.size + 1 + 1, 0, none⟩ = some (.bool false) := by simp [go_sem, hc2, hc1, ↓IntWalk.iteOmega]
  have r1 : w2.cell? ⟨w.heap.size + 1 + 1, 1, none⟩ = some (.slice none 0 0) := by simp [go_sem, hc2, hc1, ↓IntWalk.iteOmega]
  have hval2 : val l = iabs (a + b) := by rw [Hval.out, ← HN.out, HA.out.val, HB.out.val]
  have hl2 := trim_len Hk2.out
  have hs := HSG.out _ hval2
  have hB := trim_big (hr1.keep hb2) hbit Hk2.out ht2 Hv2.out hval2 (by simpa using Hcc.out) hmm hs.symm
  refine bodyPost_ret (v := .agg #[.bool (false && decide (0 < val l)), .slice A1 l2.length c1]) (by simp [results, Tryz.results118, go_sem, r0, r1]; try rfl) rfl ⟨_, A1, l2, c1, rfl, (hB.far r0 (by simp) _).far ((World.cell?_setCell_other _ _ _ _ (by simp)).trans r1) (by simp) _, by omega, ?_⟩
  exact tB
theorem bigAdd_false_true_less (a b : Int) (hsa : decide (a < 0) = false) (hsb : decide (b < 0) = true) (hlt : iabs a < iabs b) (la lb : List Int) (A B : Option Addr) (c d L : Nat) (w : World) (hL : L ≤ 1000000) (hla : la.length ≤ L) (hlb : lb.length ≤ L) (ha : IsBig w a false A la c) (hb : IsBig w b true B lb d) :
  Calls Tryz.prog 118 #[.agg #[.bool false, .slice A la.length c], .agg #[.bool true, .slice B lb.length d]] w (BigPost w (a + b) (L + 1)) := by
 have fa := pos_of_pos hsa
 have fb := pos_of_neg hsb
 have hn : iabs b - iabs a = iabs (a + b) := by unfold iabs at *; split at * <;> omega
 have hsg : ∀ x : Int, x = iabs (a + b) → decide (a + b < 0) = (true && decide (0 < x)) := by
  intro x hx
  rw [hx, Bool.eq_iff_iff]; simp; unfold iabs at *; split at * <;> omega
 have HN := hid hn
 have HSG := hid hsg
 have HA := hid ha
 have HB := hid hb
 have hd : decide (val la < val lb) = true := by rw [ha.val, hb.val]; simpa using hlt
 have hvv : val la ≤ val lb := by rw [ha.val, hb.val]; omega
 have hll := len_of_lt ha.bit hb.bit ha.top hvv
 have HVV := hid hvv
 clear hvv hlt
 clear hn hsg ha hb hsa hsb fa fb
 go_enter Tryz.func118, Tryz.ntmps118
 go_wp2_with (go_at_call 146; (with_reducible refine (bigLess la lb A B c d _ (by omega) (by omega) (HA.out.rd.keep tB) (HB.out.rd.keep tB) HA.out.bit HB.out.bit HA.out.top HB.out.top).mono ?_); rintro e w0 ⟨rfl, hb0⟩; rw [hd]; obtain ⟨fc0, fg0, hc0, hf0, hz0⟩ := bget hb0; simp at hz0)
 go_region_held3 (fun w' => w'.cell? ⟨w.heap.size, 0, none⟩ = some (.bool false) ∧ w'.cell? ⟨w.heap.size, 1, none⟩ = some (.slice A la.length c) ∧ w'.cell? ⟨w.heap.size + 1, 0, none⟩ = some (.bool true) ∧ w'.cell? ⟨w.heap.size + 1, 1, none⟩ = some (.slice B lb.length d)) (exact tK) (first | (go_at_call 147; (with_reducible refine (bigMinus lb la B A d c _ (by omega) hll (HB.out.rd.keep tB) (HA.out.rd.keep tB) HB.out.bit HA.out.bit HVV.out).mono ?_); rintro e w1 ⟨v, l, rfl, hown, hb1, hbit, hval, hlen⟩; have hl1 : l.length ≤ L + 1 := (by omega); clear hlen; obtain ⟨A1, c1, rfl, hcc, hmm, hr1, _⟩ := hown.shape; have Hval := hid hval; clear hval; have Hcc := hid hcc; clear hcc; obtain ⟨fc1, fg1, hc1, hf1, hz1⟩ := bget hb1; simp at hz1) | (go_at_call 145; (try simp only [List.length_map]); (with_reducible refine (bigTrim _ l A1 c1 _ (by omega) hr1 hbit (by simpa using Hcc.out) hmm).mono ?_); rintro e w2 ⟨l2, rfl, hk2, ht2, hv2, hb2⟩; have Hv2 := hid hv2; clear hv2; have Hk2 := hid hk2; clear hk2; obtain ⟨fc2, fg2, hc2, hf2, hz2⟩ := bget hb2))
 go_wp2_with fail
 all_goals
  have r0 : w2.cell? ⟨w.heap.size + 1 + 1, 0, none⟩ = some (.bool false) := by simp [go_sem, hc2, hc1, hc0, ↓IntWalk.iteOmega]
  have r1 : w2.cell? ⟨w.heap.size + 1 + 1, 1, none⟩ = some (.slice none 0 0) := by simp [go_sem, hc2, hc1, hc0, ↓IntWalk.iteOmega]
  have hval2 : val l = iabs (a + b) := by rw [Hval.out, ← HN.out, HA.out.val, HB.out.val]
  have hl2 := trim_len Hk2.out
  have hs := HSG.out _ hval2
  have hB := trim_big (hr1.keep hb2) hbit Hk2.out ht2 Hv2.out hval2 (by simpa using Hcc.out) hmm hs.symm
  refine bodyPost_ret (v := .agg #[.bool (true && decide (0 < val l)), .slice A1 l2.length c1]) (by simp [results, Tryz.results118, go_sem, r0, r1]; try rfl) rfl ⟨_, A1, l2, c1, rfl, (hB.far r0 (by simp) _).far ((World.cell?_setCell_other _ _ _ _ (by simp)).trans r1) (by simp) _, by omega, ?_⟩
  exact tB
theorem bigAdd_false_true_more (a b : Int) (hsa : decide (a < 0) = false) (hsb : decide (b < 0) = true) (hlt : ¬ iabs a < iabs b) (la lb : List Int) (A B : Option Addr) (c d L : Nat) (w : World) (hL : L ≤ 1000000) (hla : la.length ≤ L) (hlb : lb.length ≤ L) (ha : IsBig w a false A la c) (hb : IsBig w b true B lb d) :
  Calls Tryz.prog 118 #[.agg #[.bool false, .slice A la.length c], .agg #[.bool true, .slice B lb.length d]] w (BigPost w (a + b) (L + 1)) := by
 have fa := pos_of_pos hsa
 have fb := pos_of_neg hsb
 have hn : iabs a - iabs b = iabs (a + b) := by unfold iabs at *; split at * <;> omega
 have hsg : ∀ x : Int, x = iabs (a + b) → decide (a + b < 0) = (false && decide (0 < x)) := by
  intro x hx
  rw [hx, Bool.eq_iff_iff]; simp; unfold iabs at *; split at * <;> omega
 have HN := hid hn
 have HSG := hid hsg
 have HA := hid ha
 have HB := hid hb
 have hd : decide (val la < val lb) = false := by rw [ha.val, hb.val]; simpa using hlt
 have hvv : val lb ≤ val la := by rw [ha.val, hb.val]; omega
 have hll := len_of_lt hb.bit ha.bit hb.top hvv
 have HVV := hid hvv
 clear hvv hlt
 clear hn hsg ha hb hsa hsb fa fb
 go_enter Tryz.func118, Tryz.ntmps118
 go_wp2_with (go_at_call 146; (with_reducible refine (bigLess la lb A B c d _ (by omega) (by omega) (HA.out.rd.keep tB) (HB.out.rd.keep tB) HA.out.bit HB.out.bit HA.out.top HB.out.top).mono ?_); rintro e w0 ⟨rfl, hb0⟩; rw [hd]; obtain ⟨fc0, fg0, hc0, hf0, hz0⟩ := bget hb0; simp at hz0)
 go_region_held3 (fun w' => w'.cell? ⟨w.heap.size, 0, none⟩ = some (.bool false) ∧ w'.cell? ⟨w.heap.size, 1, none⟩ = some (.slice A la.length c) ∧ w'.cell? ⟨w.heap.size + 1, 0, none⟩ = some (.bool true) ∧ w'.cell? ⟨w.heap.size + 1, 1, none⟩ = some (.slice B lb.length d)) (exact tK) (first | (go_at_call 147; (with_reducible refine (bigMinus la lb A B c d _ (by omega) hll (HA.out.rd.keep tB) (HB.out.rd.keep tB) HA.out.bit HB.out.bit HVV.out).mono ?_); rintro e w1 ⟨v, l, rfl, hown, hb1, hbit, hval, hlen⟩; have hl1 : l.length ≤ L + 1 := (by omega); clear hlen; obtain ⟨A1, c1, rfl, hcc, hmm, hr1, _⟩ := hown.shape; have Hval := hid hval; clear hval; have Hcc := hid hcc; clear hcc; obtain ⟨fc1, fg1, hc1, hf1, hz1⟩ := bget hb1; simp at hz1) | (go_at_call 145; (try simp only [List.length_map]); (with_reducible refine (bigTrim _ l A1 c1 _ (by omega) hr1 hbit (by simpa using Hcc.out) hmm).mono ?_); rintro e w2 ⟨l2, rfl, hk2, ht2, hv2, hb2⟩; have Hv2 := hid hv2; clear hv2; have Hk2 := hid hk2; clear hk2; obtain ⟨fc2, fg2, hc2, hf2, hz2⟩ := bget hb2))
 go_wp2_with fail
 all_goals
  have r0 : w2.cell? ⟨w.heap.size + 1 + 1, 0, none⟩ = some (.bool false) := by simp [go_sem, hc2, hc1, hc0, ↓IntWalk.iteOmega]
  have r1 : w2.cell? ⟨w.heap.size + 1 + 1, 1, none⟩ = some (.slice none 0 0) := by simp [go_sem, hc2, hc1, hc0, ↓IntWalk.iteOmega]
  have hval2 : val l = iabs (a + b) := by rw [Hval.out, ← HN.out, HA.out.val, HB.out.val]
  have hl2 := trim_len Hk2.out
  have hs := HSG.out _ hval2
  have hB := trim_big (hr1.keep hb2) hbit Hk2.out ht2 Hv2.out hval2 (by simpa using Hcc.out) hmm hs.symm
  refine bodyPost_ret (v := .agg #[.bool (false && decide (0 < val l)), .slice A1 l2.length c1]) (by simp [results, Tryz.results118, go_sem, r0, r1]; try rfl) rfl ⟨_, A1, l2, c1, rfl, (hB.far r0 (by simp) _).far ((World.cell?_setCell_other _ _ _ _ (by simp)).trans r1) (by simp) _, by omega, ?_⟩
  exact tB
theorem bigAdd_true_false_less (a b : Int) (hsa : decide (a < 0) = true) (hsb : decide (b < 0) = false) (hlt : iabs a < iabs b) (la lb : List Int) (A B : Option Addr) (c d L : Nat) (w : World) (hL : L ≤ 1000000) (hla : la.length ≤ L) (hlb : lb.length ≤ L) (ha : IsBig w a true A la c) (hb : IsBig w b false B lb d) :
  Calls Tryz.prog 118 #[.agg #[.bool true, .slice A la.length c], .agg #[.bool false, .slice B lb.length d]] w (BigPost w (a + b) (L + 1)) := by
 have fa := pos_of_neg hsa
 have fb := pos_of_pos hsb
 have hn : iabs b - iabs a = iabs (a + b) := by unfold iabs at *; split at * <;> omega
 have hsg : ∀ x : Int, x = iabs (a + b) → decide (a + b < 0) = (false && decide (0 < x)) := by
  intro x hx
  rw [hx, Bool.eq_iff_iff]; simp; unfold iabs at *; split at * <;> omega
 have HN := hid hn
 have HSG := hid hsg
 have HA := hid ha
 have HB := hid hb
 have hd : decide (val la < val lb) = true := by rw [ha.val, hb.val]; simpa using hlt
 have hvv : val la ≤ val lb := by rw [ha.val, hb.val]; omega
 have hll := len_of_lt ha.bit hb.bit ha.top hvv
 have HVV := hid hvv
 clear hvv hlt
 clear hn hsg ha hb hsa hsb fa fb
 go_enter Tryz.func118, Tryz.ntmps118
 go_wp2_with (go_at_call 146; (with_reducible refine (bigLess la lb A B c d _ (by omega) (by omega) (HA.out.rd.keep tB) (HB.out.rd.keep tB) HA.out.bit HB.out.bit HA.out.top HB.out.top).mono ?_); rintro e w0 ⟨rfl, hb0⟩; rw [hd]; obtain ⟨fc0, fg0, hc0, hf0, hz0⟩ := bget hb0; simp at hz0)
 go_region_held3 (fun w' => w'.cell? ⟨w.heap.size, 0, none⟩ = some (.bool true) ∧ w'.cell? ⟨w.heap.size, 1, none⟩ = some (.slice A la.length c) ∧ w'.cell? ⟨w.heap.size + 1, 0, none⟩ = some (.bool false) ∧ w'.cell? ⟨w.heap.size + 1, 1, none⟩ = some (.slice B lb.length d)) (exact tK) (first | (go_at_call 147; (with_reducible refine (bigMinus lb la B A d c _ (by omega) hll (HB.out.rd.keep tB) (HA.out.rd.keep tB) HB.out.bit HA.out.bit HVV.out).mono ?_); rintro e w1 ⟨v, l, rfl, hown, hb1, hbit, hval, hlen⟩; have hl1 : l.length ≤ L + 1 := (by omega); clear hlen; obtain ⟨A1, c1, rfl, hcc, hmm, hr1, _⟩ := hown.shape; have Hval := hid hval; clear hval; have Hcc := hid hcc; clear hcc; obtain ⟨fc1, fg1, hc1, hf1, hz1⟩ := bget hb1; simp at hz1) | (go_at_call 145; (try simp only [List.length_map]); (with_reducible refine (bigTrim _ l A1 c1 _ (by omega) hr1 hbit (by simpa using Hcc.out) hmm).mono ?_); rintro e w2 ⟨l2, rfl, hk2, ht2, hv2, hb2⟩; have Hv2 := hid hv2; clear hv2; have Hk2 := hid hk2; clear hk2; obtain ⟨fc2, fg2, hc2, hf2, hz2⟩ := bget hb2))
 go_wp2_with fail
 all_goals
  have r0 : w2.cell? ⟨w.heap.size + 1 + 1, 0, none⟩ = some (.bool false) := by simp [go_sem, hc2, hc1, hc0, ↓IntWalk.iteOmega]
  have r1 : w2.cell? ⟨w.heap.size + 1 + 1, 1, none⟩ = some (.slice none 0 0) := by simp [go_sem, hc2, hc1, hc0, ↓IntWalk.iteOmega]
  have hval2 : val l = iabs (a + b) := by rw [Hval.out, ← HN.out, HA.out.val, HB.out.val]
  have hl2 := trim_len Hk2.out
  have hs := HSG.out _ hval2
  have hB := trim_big (hr1.keep hb2) hbit Hk2.out ht2 Hv2.out hval2 (by simpa using Hcc.out) hmm hs.symm
  refine bodyPost_ret (v := .agg #[.bool (false && decide (0 < val l)), .slice A1 l2.length c1]) (by simp [results, Tryz.results118, go_sem, r0, r1]; try rfl) rfl ⟨_, A1, l2, c1, rfl, (hB.far r0 (by simp) _).far ((World.cell?_setCell_other _ _ _ _ (by simp)).trans r1) (by simp) _, by omega, ?_⟩
  exact tB
theorem bigAdd_true_false_more (a b : Int) (hsa : decide (a < 0) = true) (hsb : decide (b < 0) = false) (hlt : ¬ iabs a < iabs b) (la lb : List Int) (A B : Option Addr) (c d L : Nat) (w : World) (hL : L ≤ 1000000) (hla : la.length ≤ L) (hlb : lb.length ≤ L) (ha : IsBig w a true A la c) (hb : IsBig w b false B lb d) :
  Calls Tryz.prog 118 #[.agg #[.bool true, .slice A la.length c], .agg #[.bool false, .slice B lb.length d]] w (BigPost w (a + b) (L + 1)) := by
 have fa := pos_of_neg hsa
 have fb := pos_of_pos hsb
 have hn : iabs a - iabs b = iabs (a + b) := by unfold iabs at *; split at * <;> omega
 have hsg : ∀ x : Int, x = iabs (a + b) → decide (a + b < 0) = (true && decide (0 < x)) := by
  intro x hx
  rw [hx, Bool.eq_iff_iff]; simp; unfold iabs at *; split at * <;> omega
 have HN := hid hn
 have HSG := hid hsg
 have HA := hid ha
 have HB := hid hb
 have hd : decide (val la < val lb) = false := by rw [ha.val, hb.val]; simpa using hlt
 have hvv : val lb ≤ val la := by rw [ha.val, hb.val]; omega
 have hll := len_of_lt hb.bit ha.bit hb.top hvv
 have HVV := hid hvv
 clear hvv hlt
 clear hn hsg ha hb hsa hsb fa fb
 go_enter Tryz.func118, Tryz.ntmps118
 go_wp2_with (go_at_call 146; (with_reducible refine (bigLess la lb A B c d _ (by omega) (by omega) (HA.out.rd.keep tB) (HB.out.rd.keep tB) HA.out.bit HB.out.bit HA.out.top HB.out.top).mono ?_); rintro e w0 ⟨rfl, hb0⟩; rw [hd]; obtain ⟨fc0, fg0, hc0, hf0, hz0⟩ := bget hb0; simp at hz0)
 go_region_held3 (fun w' => w'.cell? ⟨w.heap.size, 0, none⟩ = some (.bool true) ∧ w'.cell? ⟨w.heap.size, 1, none⟩ = some (.slice A la.length c) ∧ w'.cell? ⟨w.heap.size + 1, 0, none⟩ = some (.bool false) ∧ w'.cell? ⟨w.heap.size + 1, 1, none⟩ = some (.slice B lb.length d)) (exact tK) (first | (go_at_call 147; (with_reducible refine (bigMinus la lb A B c d _ (by omega) hll (HA.out.rd.keep tB) (HB.out.rd.keep tB) HA.out.bit HB.out.bit HVV.out).mono ?_); rintro e w1 ⟨v, l, rfl, hown, hb1, hbit, hval, hlen⟩; have hl1 : l.length ≤ L + 1 := (by omega); clear hlen; obtain ⟨A1, c1, rfl, hcc, hmm, hr1, _⟩ := hown.shape; have Hval := hid hval; clear hval; have Hcc := hid hcc; clear hcc; obtain ⟨fc1, fg1, hc1, hf1, hz1⟩ := bget hb1; simp at hz1) | (go_at_call 145; (try simp only [List.length_map]); (with_reducible refine (bigTrim _ l A1 c1 _ (by omega) hr1 hbit (by simpa using Hcc.out) hmm).mono ?_); rintro e w2 ⟨l2, rfl, hk2, ht2, hv2, hb2⟩; have Hv2 := hid hv2; clear hv2; have Hk2 := hid hk2; clear hk2; obtain ⟨fc2, fg2, hc2, hf2, hz2⟩ := bget hb2))
 go_wp2_with fail
 all_goals
  have r0 : w2.cell? ⟨w.heap.size + 1 + 1, 0, none⟩ = some (.bool false) := by simp [go_sem, hc2, hc1, hc0, ↓IntWalk.iteOmega]
  have r1 : w2.cell? ⟨w.heap.size + 1 + 1, 1, none⟩ = some (.slice none 0 0) := by simp [go_sem, hc2, hc1, hc0, ↓IntWalk.iteOmega]
  have hval2 : val l = iabs (a + b) := by rw [Hval.out, ← HN.out, HA.out.val, HB.out.val]
  have hl2 := trim_len Hk2.out
  have hs := HSG.out _ hval2
  have hB := trim_big (hr1.keep hb2) hbit Hk2.out ht2 Hv2.out hval2 (by simpa using Hcc.out) hmm hs.symm
  refine bodyPost_ret (v := .agg #[.bool (true && decide (0 < val l)), .slice A1 l2.length c1]) (by simp [results, Tryz.results118, go_sem, r0, r1]; try rfl) rfl ⟨_, A1, l2, c1, rfl, (hB.far r0 (by simp) _).far ((World.cell?_setCell_other _ _ _ _ (by simp)).trans r1) (by simp) _, by omega, ?_⟩
  exact tB
theorem bigAdd_true_true_plus (a b : Int) (hsa : decide (a < 0) = true) (hsb : decide (b < 0) = true) (la lb : List Int) (A B : Option Addr) (c d L : Nat) (w : World) (hL : L ≤ 1000000) (hla : la.length ≤ L) (hlb : lb.length ≤ L) (ha : IsBig w a true A la c) (hb : IsBig w b true B lb d) :
  Calls Tryz.prog 118 #[.agg #[.bool true, .slice A la.length c], .agg #[.bool true, .slice B lb.length d]] w (BigPost w (a + b) (L + 1)) := by
 have fa := pos_of_neg hsa
 have fb := pos_of_neg hsb
 have hn : iabs a + iabs b = iabs (a + b) := by unfold iabs at *; split at * <;> omega
 have hsg : ∀ x : Int, x = iabs (a + b) → decide (a + b < 0) = (true && decide (0 < x)) := by
  intro x hx
  rw [hx, Bool.eq_iff_iff]; simp; unfold iabs at *; split at * <;> omega
 have HN := hid hn
 have HSG := hid hsg
 have HA := hid ha
 have HB := hid hb
 clear hn hsg ha hb hsa hsb fa fb
 go_enter Tryz.func118, Tryz.ntmps118
 go_wp2_with fail
 go_region_held3 (fun w' => w'.cell? ⟨w.heap.size, 0, none⟩ = some (.bool true) ∧ w'.cell? ⟨w.heap.size, 1, none⟩ = some (.slice A la.length c) ∧ w'.cell? ⟨w.heap.size + 1, 0, none⟩ = some (.bool true) ∧ w'.cell? ⟨w.heap.size + 1, 1, none⟩ = some (.slice B lb.length d)) (exact tK) (first | (go_at_call 123; (with_reducible refine (bigPlus la lb A B c d _ (by omega) (by omega) (HA.out.rd.keep tB) (HB.out.rd.keep tB) HA.out.bit HB.out.bit).mono ?_); rintro e w1 ⟨v, l, rfl, hown, hb1, hbit, hval, hlen⟩; have hl1 := plus_len hla hlb hlen; have hb0 : Below w.heap.size w w := Below.refl _ _; obtain ⟨A1, c1, rfl, hcc, hmm, hr1, _⟩ := hown.shape; have Hval := hid hval; clear hval; have Hcc := hid hcc; clear hcc; obtain ⟨fc1, fg1, hc1, hf1, hz1⟩ := bget hb1; simp at hz1) | (go_at_call 145; (try simp only [List.length_map]); (with_reducible refine (bigTrim _ l A1 c1 _ (by omega) hr1 hbit (by simpa using Hcc.out) hmm).mono ?_); rintro e w2 ⟨l2, rfl, hk2, ht2, hv2, hb2⟩; have Hv2 := hid hv2; clear hv2; have Hk2 := hid hk2; clear hk2; obtain ⟨fc2, fg2, hc2, hf2, hz2⟩ := bget hb2))
 go_wp2_with fail
 all_goals
  have r0 : w2.cell? ⟨w.heap.size + 1 + 1, 0, none⟩ = some (.bool false) := by simp [go_sem, hc2, hc1, ↓IntWalk.iteOmega]
  have r1 : w2.cell? ⟨w.heap.size + 1 + 1, 1, none⟩ = some (.slice none 0 0) := by simp [go_sem, hc2, hc1, ↓IntWalk.iteOmega]
  have hval2 : val l = iabs (a + b) := by rw [Hval.out, ← HN.out, HA.out.val, HB.out.val]
  have hl2 := trim_len Hk2.out
  have hs := HSG.out _ hval2
  have hB := trim_big (hr1.keep hb2) hbit Hk2.out ht2 Hv2.out hval2 (by simpa using Hcc.out) hmm hs.symm
  refine bodyPost_ret (v := .agg #[.bool (true && decide (0 < val l)), .slice A1 l2.length c1]) (by simp [results, Tryz.results118, go_sem, r0, r1]; try rfl) rfl ⟨_, A1, l2, c1, rfl, (hB.far r0 (by simp) _).far ((World.cell?_setCell_other _ _ _ _ (by simp)).trans r1) (by simp) _, by omega, ?_⟩
  exact tB
theorem bigAdd (a b : Int) (sa sb : Bool) (la lb : List Int) (A B : Option Addr) (c d L : Nat) (w : World) (hL : L ≤ 1000000) (hla : la.length ≤ L) (hlb : lb.length ≤ L) (ha : IsBig w a sa A la c) (hb : IsBig w b sb B lb d) :
  Calls Tryz.prog 118 #[.agg #[.bool sa, .slice A la.length c], .agg #[.bool sb, .slice B lb.length d]] w (BigPost w (a + b) (L + 1)) := by
 have e1 := ha.sgn.symm
 have e2 := hb.sgn.symm
 cases sa <;> cases sb
 ·exact bigAdd_false_false_plus a b e1 e2 la lb A B c d L w hL hla hlb ha hb
 ·by_cases h : iabs a < iabs b
  ·exact bigAdd_false_true_less a b e1 e2 h la lb A B c d L w hL hla hlb ha hb
  ·exact bigAdd_false_true_more a b e1 e2 h la lb A B c d L w hL hla hlb ha hb
 ·by_cases h : iabs a < iabs b
  ·exact bigAdd_true_false_less a b e1 e2 h la lb A B c d L w hL hla hlb ha hb
  ·exact bigAdd_true_false_more a b e1 e2 h la lb A B c d L w hL hla hlb ha hb
 ·exact bigAdd_true_true_plus a b e1 e2 la lb A B c d L w hL hla hlb ha hb
end Go.Proofs.YtalgfpegaobacaaGreatDoor
