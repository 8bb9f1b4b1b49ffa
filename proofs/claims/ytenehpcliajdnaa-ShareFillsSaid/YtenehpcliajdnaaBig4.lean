/- Contracts of the reference's less, minus. -/
import Derived.Test.YtenehpcliajdnaaBig2
namespace Go.Proofs.Ytenehpcliajdnaa
open Go.RowKit
set_option maxRecDepth 100000 in
set_option maxHeartbeats 1000000 in
theorem bigLess (la lb : List Int) (A B : Option Addr) (c d : Nat) (w : World) (hla : la.length ≤ 1048576) (_hlb : lb.length ≤ 1048576) (ha : Rd w A 1 (la.map encB)) (hb : Rd w B 1 (lb.map encB)) (ba : Bit la) (bb : Bit lb) (ta : Top la) (tb : Top lb) :
    Calls Try.prog 48 #[.slice A la.length c, .slice B lb.length d] w fun e w' => e = .returned (.bool (decide (val la < val lb))) ∧ Below w.heap.size w w' := by
  by_cases hne : la.length = lb.length
  · have d1 : ((la.length : Int) != (lb.length : Int)) = false := by simp [hne]
    have Ha := Lib.hid ha
    have Hb := Lib.hid hb
    have Ba := Lib.hid ba
    have Bb := Lib.hid bb
    have Hne := Lib.hid hne
    clear ha hb ba bb hne ta tb
    go_enter Try.func48, Try.ntmps48
    go_wp2_with fail
    go_loopw [5] (fun i wr => ∃ k : Nat, k ≤ la.length ∧ i = .int .i64 k ∧ la.drop k = lb.drop k ∧ ∃ n, wr = w.drewN n) (fun i _ => (intOf i).toNat)
    case atStart => exact ⟨la.length, Nat.le_refl _, rfl, by rw [List.drop_length, Hne.out, List.drop_length], 0, rfl⟩
    case round =>
      obtain ⟨k, hk, rfl, hdr, nn, rfl⟩ := hrel
      have Hdr := Lib.hid hdr
      clear hdr
      by_cases h0 : k = 0
      · subst h0
        have e : la = lb := by have := Hdr.out; simpa using this
        have hf : decide (val la < val lb) = false := by rw [e]; simp
        have HF := Lib.hid hf
        clear e hf
        go_wp2_with fail
        go_ret
        exact ⟨by rw [HF.out]; rfl, by (repeat' (first | (with_reducible exact Below.refl _ _) | (with_reducible assumption) | (with_reducible refine Below.alloc ?_ ?_ _) | (with_reducible refine Below.setCell ?_ ?_ _) | (with_reducible refine Below.drew ?_) | (with_reducible refine below_drewN ?_ _) | (with_reducible refine below_via ?_ (by with_reducible assumption) ?_) | omega | (simp; done) | (simp; omega)))⟩
      · have k0 : 0 < k := by omega
        obtain ⟨b1, o1, rfl, hb1, c1⟩ := bit_cell Ha.out (Below.refl w.heap.size w) (Nat.le_refl _) (show k - 1 < la.length from by omega)
        obtain ⟨b2, o2, rfl, hb2, c2⟩ := bit_cell Hb.out (Below.refl w.heap.size w) (Nat.le_refl _) (show k - 1 < lb.length from by have := Hne.out; omega)
        have gx := bit_get Ba.out (k - 1)
        have gy := bit_get Bb.out (k - 1)
        obtain ⟨x, hx⟩ : ∃ x, x = la.getD (k - 1) 0 := ⟨_, rfl⟩
        obtain ⟨y, hy⟩ : ∃ y, y = lb.getD (k - 1) 0 := ⟨_, rfl⟩
        rw [← hx] at c1 gx
        rw [← hy] at c2 gy
        have Hx := Lib.hid hx
        have Hy := Lib.hid hy
        have kl : (k : Int) ≤ (la.length : Int) := by omega
        have kl2 : (k : Int) ≤ (lb.length : Int) := by have := Hne.out; omega
        clear hx hy
        by_cases hxy : x = y
        · have HXY := Lib.hid hxy
          subst hxy
          go_wp2_with fail
          go_quiet (fail)
          go_wp2_with fail
          go_roundw
          case rel => exact ⟨k - 1, by omega, by go_num, drop_pred k0 (by omega) (by have := Hne.out; omega) (Hx.out.symm.trans Hy.out) Hdr.out, _, rfl⟩
          case measure => simp [intOf]; omega
        · have dn : (x != y) = true := by simpa using hxy
          have hd2 : la.drop (k - 1 + 1) = lb.drop (k - 1 + 1) := by rw [show k - 1 + 1 = k from by omega]; exact Hdr.out
          have hf : decide (val la < val lb) = decide (x < y) := by
            have hle : k - 1 < la.length := by omega
            have hne2 : x < y ∨ y < x := by omega
            rcases hne2 with h1 | h1
            · have := cmp_at Ba.out Bb.out Hne.out hle hd2 (by rw [← Hx.out, ← Hy.out]; exact h1)
              simp [h1, this]
            · have := cmp_at Bb.out Ba.out Hne.out.symm (by have := Hne.out; omega) hd2.symm (by rw [← Hx.out, ← Hy.out]; exact h1)
              have h2 : ¬ val la < val lb := by omega
              have h3 : ¬ x < y := by omega
              simp [h2, h3]
          have HF := Lib.hid hf
          clear hf hd2 hxy
          go_wp2_with fail
          go_quiet (fail)
          go_wp2_with fail
          go_quiet (fail)
          go_wp2_with fail
          go_ret
          exact ⟨by rw [HF.out]; rfl, by (repeat' (first | (with_reducible exact Below.refl _ _) | (with_reducible assumption) | (with_reducible refine Below.alloc ?_ ?_ _) | (with_reducible refine Below.setCell ?_ ?_ _) | (with_reducible refine Below.drew ?_) | (with_reducible refine below_drewN ?_ _) | (with_reducible refine below_via ?_ (by with_reducible assumption) ?_) | omega | (simp; done) | (simp; omega)))⟩
  · have d1 : ((la.length : Int) != (lb.length : Int)) = true := by simp; omega
    have hf : decide (val la < val lb) = decide (la.length < lb.length) := by
      rcases (show la.length < lb.length ∨ lb.length < la.length from by omega) with h1 | h1
      · have := lt_of_len ba bb tb h1
        simp [this, h1]
      · have := lt_of_len bb ba ta h1
        have h2 : ¬ val la < val lb := by omega
        have h3 : ¬ la.length < lb.length := by omega
        simp [h2, h3]
    have HF := Lib.hid hf
    clear hf ha hb ba bb ta tb
    go_enter Try.func48, Try.ntmps48
    go_wp2_with fail
    go_ret
    exact ⟨by rw [HF.out]; rfl, Below.refl _ _⟩
def MinusPost (w : World) (la lb : List Int) (e : Ending) (w' : World) : Prop :=
  ∃ v l, e = .returned v ∧ Own w' w.heap.size 5 1 v (l.map encB) ∧ Below w.heap.size w w' ∧ Bit l ∧ val l = val la - val lb ∧ l.length = la.length
set_option maxRecDepth 100000 in
set_option maxHeartbeats 2000000 in
theorem bigMinus (la lb : List Int) (A B : Option Addr) (c d : Nat) (w : World) (hla : la.length ≤ 1048576) (hlb : lb.length ≤ la.length) (ha : Rd w A 1 (la.map encB)) (hb : Rd w B 1 (lb.map encB)) (ba : Bit la) (bb : Bit lb) (hab : val lb ≤ val la) :
    Calls Try.prog 49 #[.slice A la.length c, .slice B lb.length d] w (MinusPost w la lb) := by
  have Ha := Lib.hid ha
  have Hb := Lib.hid hb
  have Ba := Lib.hid ba
  have Bb := Lib.hid bb
  have Hab := Lib.hid hab
  clear ha hb ba bb hab
  go_enter Try.func49, Try.ntmps49
  go_wp2_with fail
  go_loopw [5, 6, 7] (fun v cc i wr => ∃ (k : Nat) (l : List Int) (q : Int), k ≤ la.length ∧ i = .int .i64 k ∧ cc = .int .u8 q ∧ 0 ≤ q ∧ q ≤ 1 ∧ Own wr w.heap.size 5 1 v (l.map encB) ∧ Below w.heap.size w wr ∧ l.length = k ∧ Bit l ∧ val l = val (la.take k) - val (lb.take k) + pw k * q)
    (fun _ _ i _ => la.length - (intOf i).toNat)
  case atStart => exact ⟨0, [], 0, Nat.zero_le _, rfl, rfl, by omega, by omega, Own.nil _ _ _ _, Below.refl _ _, rfl, bit_nil, by simp [val]⟩
  case round =>
    obtain ⟨k, l, q, hk, rfl, rfl, q0, q1, hown, hbl, hl, hbit, hval⟩ := hrel
    have Hown := Lib.hid hown
    have Hbl := Lib.hid hbl
    have Hl := Lib.hid hl
    have Hbit := Lib.hid hbit
    have Hval := Lib.hid hval
    have hz := hbl.size
    have ga := bit_get Ba.out k
    have gb := bit_get Bb.out k
    have Ea := Lib.hid (take_succD la k)
    have Eb := Lib.hid (take_succD lb k)
    clear hown hbl hl hbit hval
    obtain ⟨x, hx⟩ : ∃ x, x = la.getD k 0 := ⟨_, rfl⟩
    obtain ⟨y, hy⟩ : ∃ y, y = lb.getD k 0 := ⟨_, rfl⟩
    by_cases h1 : k < la.length
    · obtain ⟨b1, o1, rfl, hb1, c1⟩ := bit_cell Ha.out Hbl.out (Nat.le_refl _) h1
      rw [← hx] at ga c1 Ea
      rw [← hy] at gb Eb
      have Hx := Lib.hid hx
      clear hx
      by_cases h2 : k < lb.length
      · obtain ⟨b2, o2, rfl, hb2, c2⟩ := bit_cell Hb.out Hbl.out (Nat.le_refl _) h2
        rw [← hy] at c2
        have Hy := Lib.hid hy
        clear hy
        by_cases h3 : x + 2 - (q + y) < 2
        · go_wp2_with (at_builtin; refine wpList_app rfl _ _ _ rfl elB w.heap.size _ _ rfl (Hown.out.alloc _) (some ⟨wr.heap.size, 0, none⟩) 1 1 rfl [encB ((x + 2 - (q + y)) % 2)] rfl (fun h => by cases h) rd_one (by simp [encB]; rfl) (by have := Hl.out; unfold maxLen; simp; omega) (by have := Hl.out; simp; omega) (by simp; omega) ?_; intro v' w3 hown3 hb3)
          go_roundw
          case rel => exact ⟨k + 1, l ++ [(x + 2 - (q + y)) % 2], 1, by omega, by go_num, rfl, by omega, by omega, by simpa using hown3, (Hbl.out.alloc hz _).trans hb3, by simp [Hl.out], bit_snoc Hbit.out (by omega) (by omega), minus_step Hl.out Hval.out Ea.out Eb.out (by omega)⟩
          case measure => simp [intOf]; omega
        · go_wp2_with (at_builtin; refine wpList_app rfl _ _ _ rfl elB w.heap.size _ _ rfl (Hown.out.alloc _) (some ⟨wr.heap.size, 0, none⟩) 1 1 rfl [encB ((x + 2 - (q + y)) % 2)] rfl (fun h => by cases h) rd_one (by simp [encB]; rfl) (by have := Hl.out; unfold maxLen; simp; omega) (by have := Hl.out; simp; omega) (by simp; omega) ?_; intro v' w3 hown3 hb3)
          go_roundw
          case rel => exact ⟨k + 1, l ++ [(x + 2 - (q + y)) % 2], 0, by omega, by go_num, rfl, by omega, by omega, by simpa using hown3, (Hbl.out.alloc hz _).trans hb3, by simp [Hl.out], bit_snoc Hbit.out (by omega) (by omega), minus_step Hl.out Hval.out Ea.out Eb.out (by omega)⟩
          case measure => simp [intOf]; omega
      · have hy0 : y = 0 := by rw [hy, List.getD_eq_getElem?_getD, List.getElem?_eq_none (by omega)]; rfl
        subst hy0
        clear hy
        have d2 : decide ((k : Int) < (lb.length : Int)) = false := by simpa using h2
        by_cases h3 : x + 2 - q < 2
        · go_wp2_with (at_builtin; refine wpList_app rfl _ _ _ rfl elB w.heap.size _ _ rfl (Hown.out.alloc _) (some ⟨wr.heap.size, 0, none⟩) 1 1 rfl [encB ((x + 2 - q) % 2)] rfl (fun h => by cases h) rd_one (by simp [encB]; rfl) (by have := Hl.out; unfold maxLen; simp; omega) (by have := Hl.out; simp; omega) (by simp; omega) ?_; intro v' w3 hown3 hb3)
          go_roundw
          case rel => exact ⟨k + 1, l ++ [(x + 2 - (q + 0)) % 2], 1, by omega, by go_num, rfl, by omega, by omega, by simpa using hown3, (Hbl.out.alloc hz _).trans hb3, by simp [Hl.out], bit_snoc Hbit.out (by omega) (by omega), minus_step Hl.out Hval.out Ea.out Eb.out (by omega)⟩
          case measure => simp [intOf]; omega
        · go_wp2_with (at_builtin; refine wpList_app rfl _ _ _ rfl elB w.heap.size _ _ rfl (Hown.out.alloc _) (some ⟨wr.heap.size, 0, none⟩) 1 1 rfl [encB ((x + 2 - q) % 2)] rfl (fun h => by cases h) rd_one (by simp [encB]; rfl) (by have := Hl.out; unfold maxLen; simp; omega) (by have := Hl.out; simp; omega) (by simp; omega) ?_; intro v' w3 hown3 hb3)
          go_roundw
          case rel => exact ⟨k + 1, l ++ [(x + 2 - (q + 0)) % 2], 0, by omega, by go_num, rfl, by omega, by omega, by simpa using hown3, (Hbl.out.alloc hz _).trans hb3, by simp [Hl.out], bit_snoc Hbit.out (by omega) (by omega), minus_step Hl.out Hval.out Ea.out Eb.out (by omega)⟩
          case measure => simp [intOf]; omega
    · have hkm : k = la.length := by omega
      have hv := Hval.out
      rw [List.take_of_length_le (by omega), List.take_of_length_le (by omega)] at hv
      have hlt := val_lt Hbit.out
      rw [Hl.out] at hlt
      have h0 := Hab.out
      have hq : q = 0 := by
        rcases (show q = 0 ∨ q = 1 from by omega) with h | h
        · exact h
        · subst h; omega
      subst hq
      have HV := Lib.hid hv
      have HK := Lib.hid hkm
      clear hv hlt h0 hkm ga gb hx hy
      go_wp2_with fail
      go_ret
      exact ⟨u5, l, rfl, Hown.out, Hbl.out, Hbit.out, by have := HV.out; simpa using this, by rw [Hl.out, HK.out]⟩
end Go.Proofs.Ytenehpcliajdnaa
