/- Joined: Big4, Big5, Big6. -/
import Derived.Test.YtiidplinmempcaaJz5
import Derived.Test.YtiidplinmempcaaJz3
/- Contracts of the reference's less, minus. -/
namespace Go.Proofs.Ytiidplinmempcaa
open Go.RowKit
set_option maxRecDepth 100000 in
set_option maxHeartbeats 1000000 in
theorem bigLess (la lb : List Int) (A B : Option Addr) (c d : Nat) (w : World) (hla : la.length ≤ 1048576) (_hlb : lb.length ≤ 1048576) (ha : Rd w A 1 (la.map encB)) (hb : Rd w B 1 (lb.map encB)) (ba : Bit la) (bb : Bit lb) (ta : Top la) (tb : Top lb) :
    Calls Try.prog 88 #[.slice A la.length c, .slice B lb.length d] w fun e w' => e = .returned (.bool (decide (val la < val lb))) ∧ Below w.heap.size w w' := by
  by_cases hne : la.length = lb.length
  · have d1 : ((la.length : Int) != (lb.length : Int)) = false := by simp [hne]
    have Ha := Lib.hid ha
    have Hb := Lib.hid hb
    have Ba := Lib.hid ba
    have Bb := Lib.hid bb
    have Hne := Lib.hid hne
    clear ha hb ba bb hne ta tb
    go_enter Try.func88, Try.ntmps88
    go_wp2_with fail
    go_loopw [5] (fun i wr => ∃ k : Nat, k ≤ la.length ∧ i = .int .i64 k ∧ la.drop k = lb.drop k ∧ ∃ n, wr = w.drewN n) (fun i _ => (intOf i).toNat)
    case atStart => exact ⟨la.length, Nat.le_refl _, rfl, by rw [List.drop_length, Hne.out, List.drop_length], 0, rfl⟩
    case round =>
      obtain ⟨k, hk, rfl, hdr, nn, rfl⟩ := hrel
      have Hdr := Lib.hid hdr
      clear hdr
      by_cases h0 : k = 0
      · subst h0
        have e : la = lb := by have := Hdr.out; simpa using this
        have hf : decide (val la < val lb) = false := by rw [e]; simp
        have HF := Lib.hid hf
        clear e hf
        go_wp2_with fail
        go_ret
        exact ⟨by rw [HF.out]; rfl, by (repeat' (first | (with_reducible exact Below.refl _ _) | (with_reducible assumption) | (with_reducible refine Below.alloc ?_ ?_ _) | (with_reducible refine Below.setCell ?_ ?_ _) | (with_reducible refine Below.drew ?_) | (with_reducible refine below_drewN ?_ _) | (with_reducible refine below_via ?_ (by with_reducible assumption) ?_) | omega | (simp; done) | (simp; omega)))⟩
      · have k0 : 0 < k := by omega
        obtain ⟨b1, o1, rfl, hb1, c1⟩ := bit_cell Ha.out (Below.refl w.heap.size w) (Nat.le_refl _) (show k - 1 < la.length from by omega)
        obtain ⟨b2, o2, rfl, hb2, c2⟩ := bit_cell Hb.out (Below.refl w.heap.size w) (Nat.le_refl _) (show k - 1 < lb.length from by have := Hne.out; omega)
        have gx := bit_get Ba.out (k - 1)
        have gy := bit_get Bb.out (k - 1)
        obtain ⟨x, hx⟩ : ∃ x, x = la.getD (k - 1) 0 := ⟨_, rfl⟩
        obtain ⟨y, hy⟩ : ∃ y, y = lb.getD (k - 1) 0 := ⟨_, rfl⟩
        rw [← hx] at c1 gx
        rw [← hy] at c2 gy
        have Hx := Lib.hid hx
        have Hy := Lib.hid hy
        have kl : (k : Int) ≤ (la.length : Int) := by omega
        have kl2 : (k : Int) ≤ (lb.length : Int) := by have := Hne.out; omega
        clear hx hy
        by_cases hxy : x = y
        · have HXY := Lib.hid hxy
          subst hxy
          go_wp2_with fail
          go_quiet (fail)
          go_wp2_with fail
          go_roundw
          case rel => exact ⟨k - 1, by omega, by go_num, drop_pred k0 (by omega) (by have := Hne.out; omega) (Hx.out.symm.trans Hy.out) Hdr.out, _, rfl⟩
          case measure => simp [intOf]; omega
        · have dn : (x != y) = true := by simpa using hxy
          have hd2 : la.drop (k - 1 + 1) = lb.drop (k - 1 + 1) := by rw [show k - 1 + 1 = k from by omega]; exact Hdr.out
          have hf : decide (val la < val lb) = decide (x < y) := by
            have hle : k - 1 < la.length := by omega
            have hne2 : x < y ∨ y < x := by omega
            rcases hne2 with h1 | h1
            · have := cmp_at Ba.out Bb.out Hne.out hle hd2 (by rw [← Hx.out, ← Hy.out]; exact h1)
              simp [h1, this]
            · have := cmp_at Bb.out Ba.out Hne.out.symm (by have := Hne.out; omega) hd2.symm (by rw [← Hx.out, ← Hy.out]; exact h1)
              have h2 : ¬ val la < val lb := by omega
              have h3 : ¬ x < y := by omega
              simp [h2, h3]
          have HF := Lib.hid hf
          clear hf hd2 hxy
          go_wp2_with fail
          go_quiet (fail)
          go_wp2_with fail
          go_quiet (fail)
          go_wp2_with fail
          go_ret
          exact ⟨by rw [HF.out]; rfl, by (repeat' (first | (with_reducible exact Below.refl _ _) | (with_reducible assumption) | (with_reducible refine Below.alloc ?_ ?_ _) | (with_reducible refine Below.setCell ?_ ?_ _) | (with_reducible refine Below.drew ?_) | (with_reducible refine below_drewN ?_ _) | (with_reducible refine below_via ?_ (by with_reducible assumption) ?_) | omega | (simp; done) | (simp; omega)))⟩
  · have d1 : ((la.length : Int) != (lb.length : Int)) = true := by simp; omega
    have hf : decide (val la < val lb) = decide (la.length < lb.length) := by
      rcases (show la.length < lb.length ∨ lb.length < la.length from by omega) with h1 | h1
      · have := lt_of_len ba bb tb h1
        simp [this, h1]
      · have := lt_of_len bb ba ta h1
        have h2 : ¬ val la < val lb := by omega
        have h3 : ¬ la.length < lb.length := by omega
        simp [h2, h3]
    have HF := Lib.hid hf
    clear hf ha hb ba bb ta tb
    go_enter Try.func88, Try.ntmps88
    go_wp2_with fail
    go_ret
    exact ⟨by rw [HF.out]; rfl, Below.refl _ _⟩
def MinusPost (w : World) (la lb : List Int) (e : Ending) (w' : World) : Prop :=
  ∃ v l, e = .returned v ∧ Own w' w.heap.size 5 1 v (l.map encB) ∧ Below w.heap.size w w' ∧ Bit l ∧ val l = val la - val lb ∧ l.length = la.length
set_option maxRecDepth 100000 in
set_option maxHeartbeats 2000000 in
theorem bigMinus (la lb : List Int) (A B : Option Addr) (c d : Nat) (w : World) (hla : la.length ≤ 1048576) (hlb : lb.length ≤ la.length) (ha : Rd w A 1 (la.map encB)) (hb : Rd w B 1 (lb.map encB)) (ba : Bit la) (bb : Bit lb) (hab : val lb ≤ val la) :
    Calls Try.prog 89 #[.slice A la.length c, .slice B lb.length d] w (MinusPost w la lb) := by
  have Ha := Lib.hid ha
  have Hb := Lib.hid hb
  have Ba := Lib.hid ba
  have Bb := Lib.hid bb
  have Hab := Lib.hid hab
  clear ha hb ba bb hab
  go_enter Try.func89, Try.ntmps89
  go_wp2_with fail
  go_loopw [5, 6, 7] (fun v cc i wr => ∃ (k : Nat) (l : List Int) (q : Int), k ≤ la.length ∧ i = .int .i64 k ∧ cc = .int .u8 q ∧ 0 ≤ q ∧ q ≤ 1 ∧ Own wr w.heap.size 5 1 v (l.map encB) ∧ Below w.heap.size w wr ∧ l.length = k ∧ Bit l ∧ val l = val (la.take k) - val (lb.take k) + pw k * q)
    (fun _ _ i _ => la.length - (intOf i).toNat)
  case atStart => exact ⟨0, [], 0, Nat.zero_le _, rfl, rfl, by omega, by omega, Own.nil _ _ _ _, Below.refl _ _, rfl, bit_nil, by simp [val]⟩
  case round =>
    obtain ⟨k, l, q, hk, rfl, rfl, q0, q1, hown, hbl, hl, hbit, hval⟩ := hrel
    have Hown := Lib.hid hown
    have Hbl := Lib.hid hbl
    have Hl := Lib.hid hl
    have Hbit := Lib.hid hbit
    have Hval := Lib.hid hval
    have hz := hbl.size
    have ga := bit_get Ba.out k
    have gb := bit_get Bb.out k
    have Ea := Lib.hid (take_succD la k)
    have Eb := Lib.hid (take_succD lb k)
    clear hown hbl hl hbit hval
    obtain ⟨x, hx⟩ : ∃ x, x = la.getD k 0 := ⟨_, rfl⟩
    obtain ⟨y, hy⟩ : ∃ y, y = lb.getD k 0 := ⟨_, rfl⟩
    by_cases h1 : k < la.length
    · obtain ⟨b1, o1, rfl, hb1, c1⟩ := bit_cell Ha.out Hbl.out (Nat.le_refl _) h1
      rw [← hx] at ga c1 Ea
      rw [← hy] at gb Eb
      have Hx := Lib.hid hx
      clear hx
      by_cases h2 : k < lb.length
      · obtain ⟨b2, o2, rfl, hb2, c2⟩ := bit_cell Hb.out Hbl.out (Nat.le_refl _) h2
        rw [← hy] at c2
        have Hy := Lib.hid hy
        clear hy
        by_cases h3 : x + 2 - (q + y) < 2
        · go_wp2_with (at_builtin; refine wpList_app rfl _ _ _ rfl elB w.heap.size _ _ rfl (Hown.out.alloc _) (some ⟨wr.heap.size, 0, none⟩) 1 1 rfl [encB ((x + 2 - (q + y)) % 2)] rfl (fun h => by cases h) rd_one (by simp [encB]; rfl) (by have := Hl.out; unfold maxLen; simp; omega) (by have := Hl.out; simp; omega) (by simp; omega) ?_; intro v' w3 hown3 hb3)
          go_roundw
          case rel => exact ⟨k + 1, l ++ [(x + 2 - (q + y)) % 2], 1, by omega, by go_num, rfl, by omega, by omega, by simpa using hown3, (Hbl.out.alloc hz _).trans hb3, by simp [Hl.out], bit_snoc Hbit.out (by omega) (by omega), minus_step Hl.out Hval.out Ea.out Eb.out (by omega)⟩
          case measure => simp [intOf]; omega
        · go_wp2_with (at_builtin; refine wpList_app rfl _ _ _ rfl elB w.heap.size _ _ rfl (Hown.out.alloc _) (some ⟨wr.heap.size, 0, none⟩) 1 1 rfl [encB ((x + 2 - (q + y)) % 2)] rfl (fun h => by cases h) rd_one (by simp [encB]; rfl) (by have := Hl.out; unfold maxLen; simp; omega) (by have := Hl.out; simp; omega) (by simp; omega) ?_; intro v' w3 hown3 hb3)
          go_roundw
          case rel => exact ⟨k + 1, l ++ [(x + 2 - (q + y)) % 2], 0, by omega, by go_num, rfl, by omega, by omega, by simpa using hown3, (Hbl.out.alloc hz _).trans hb3, by simp [Hl.out], bit_snoc Hbit.out (by omega) (by omega), minus_step Hl.out Hval.out Ea.out Eb.out (by omega)⟩
          case measure => simp [intOf]; omega
      · have hy0 : y = 0 := by rw [hy, List.getD_eq_getElem?_getD, List.getElem?_eq_none (by omega)]; rfl
        subst hy0
        clear hy
        have d2 : decide ((k : Int) < (lb.length : Int)) = false := by simpa using h2
        by_cases h3 : x + 2 - q < 2
        · go_wp2_with (at_builtin; refine wpList_app rfl _ _ _ rfl elB w.heap.size _ _ rfl (Hown.out.alloc _) (some ⟨wr.heap.size, 0, none⟩) 1 1 rfl [encB ((x + 2 - q) % 2)] rfl (fun h => by cases h) rd_one (by simp [encB]; rfl) (by have := Hl.out; unfold maxLen; simp; omega) (by have := Hl.out; simp; omega) (by simp; omega) ?_; intro v' w3 hown3 hb3)
          go_roundw
          case rel => exact ⟨k + 1, l ++ [(x + 2 - (q + 0)) % 2], 1, by omega, by go_num, rfl, by omega, by omega, by simpa using hown3, (Hbl.out.alloc hz _).trans hb3, by simp [Hl.out], bit_snoc Hbit.out (by omega) (by omega), minus_step Hl.out Hval.out Ea.out Eb.out (by omega)⟩
          case measure => simp [intOf]; omega
        · go_wp2_with (at_builtin; refine wpList_app rfl _ _ _ rfl elB w.heap.size _ _ rfl (Hown.out.alloc _) (some ⟨wr.heap.size, 0, none⟩) 1 1 rfl [encB ((x + 2 - q) % 2)] rfl (fun h => by cases h) rd_one (by simp [encB]; rfl) (by have := Hl.out; unfold maxLen; simp; omega) (by have := Hl.out; simp; omega) (by simp; omega) ?_; intro v' w3 hown3 hb3)
          go_roundw
          case rel => exact ⟨k + 1, l ++ [(x + 2 - (q + 0)) % 2], 0, by omega, by go_num, rfl, by omega, by omega, by simpa using hown3, (Hbl.out.alloc hz _).trans hb3, by simp [Hl.out], bit_snoc Hbit.out (by omega) (by omega), minus_step Hl.out Hval.out Ea.out Eb.out (by omega)⟩
          case measure => simp [intOf]; omega
    · have hkm : k = la.length := by omega
      have hv := Hval.out
      rw [List.take_of_length_le (by omega), List.take_of_length_le (by omega)] at hv
      have hlt := val_lt Hbit.out
      rw [Hl.out] at hlt
      have h0 := Hab.out
      have hq : q = 0 := by
        rcases (show q = 0 ∨ q = 1 from by omega) with h | h
        · exact h
        · subst h; omega
      subst hq
      have HV := Lib.hid hv
      have HK := Lib.hid hkm
      clear hv hlt h0 hkm ga gb hx hy
      go_wp2_with fail
      go_ret
      exact ⟨u5, l, rfl, Hown.out, Hbl.out, Hbit.out, by have := HV.out; simpa using this, by rw [Hl.out, HK.out]⟩
end Go.Proofs.Ytiidplinmempcaa

/- Contracts of the reference's Add. -/
namespace Go.Proofs.Ytiidplinmempcaa
open Go.RowKit
theorem iabs_nonneg (n : Int) : 0 ≤ iabs n := by unfold iabs; split <;> omega
theorem plus_len {x y z L : Nat} {p : Prop} (h1 : x ≤ L) (h2 : y ≤ L) (h : z = max x y ∨ (z = max x y + 1 ∧ p)) : z ≤ L + 1 := by
  rcases h with h | ⟨h, _⟩ <;> omega
theorem len_of_lt {a b : List Int} (ha : Bit a) (hb : Bit b) (ta : Top a) (h : val a ≤ val b) : a.length ≤ b.length := by
  rcases Nat.lt_or_ge b.length a.length with h1 | h1
  · have := lt_of_len hb ha ta h1; omega
  · exact h1
theorem pos_of_neg {n : Int} (h : decide (n < 0) = true) : iabs n = - n := iabs_neg (of_decide_eq_true h)
theorem pos_of_pos {n : Int} (h : decide (n < 0) = false) : iabs n = n ∧ 0 ≤ n := by have := of_decide_eq_false h; exact ⟨iabs_pos (by omega), by omega⟩
set_option maxRecDepth 100000 in
set_option maxHeartbeats 2000000 in
theorem bigAdd_false_false_plus (a b : Int) (hsa : decide (a < 0) = false) (hsb : decide (b < 0) = false) (la lb : List Int) (A B : Option Addr) (c d L : Nat) (w : World) (hL : L ≤ 1000000) (hla : la.length ≤ L) (hlb : lb.length ≤ L) (ha : IsBig w a false A la c) (hb : IsBig w b false B lb d) :
    Calls Try.prog 24 #[.agg #[.bool false, .slice A la.length c], .agg #[.bool false, .slice B lb.length d]] w (BigPost w (a + b) (L + 1)) := by
  have fa := pos_of_pos hsa
  have fb := pos_of_pos hsb
  have hn : iabs a + iabs b = iabs (a + b) := by unfold iabs at *; split at * <;> omega
  have hsg : ∀ x : Int, x = iabs (a + b) → decide (a + b < 0) = (false && decide (0 < x)) := by
    intro x hx
    rw [hx, Bool.eq_iff_iff]; simp; unfold iabs at *; split at * <;> omega
  have HN := Lib.hid hn
  have HSG := Lib.hid hsg
  have HA := Lib.hid ha
  have HB := Lib.hid hb
  clear hn hsg ha hb hsa hsb fa fb
  go_enter Try.func24, Try.ntmps24
  go_wp2_with fail
  go_region_held3 (fun w' => w'.cell? ⟨w.heap.size, 0, none⟩ = some (.bool false) ∧ w'.cell? ⟨w.heap.size, 1, none⟩ = some (.slice A la.length c) ∧ w'.cell? ⟨w.heap.size + 1, 0, none⟩ = some (.bool false) ∧ w'.cell? ⟨w.heap.size + 1, 1, none⟩ = some (.slice B lb.length d)) (first | (simp [go_sem]; done) | (repeat' (first | (with_reducible assumption) | (with_reducible refine And.intro ?_ ?_) | (with_reducible refine cell_drew ?_) | (with_reducible refine cell_via (by with_reducible assumption) ?_ ?_) | (simp [*]; done) | (simp [go_sem]; done) | (with_reducible refine cell_alloc ?_ ?_) | (with_reducible refine cell_set_far ?_ ?_) | omega | (simp; omega)))) (first | (go_at_call 87; (with_reducible refine (bigPlus la lb A B c d _ (by omega) (by omega) (HA.out.rd.keep (by (repeat' (first | (with_reducible exact Below.refl _ _) | (with_reducible assumption) | (with_reducible refine Below.alloc ?_ ?_ _) | (with_reducible refine Below.setCell ?_ ?_ _) | (with_reducible refine Below.drew ?_) | (with_reducible refine below_drewN ?_ _) | (with_reducible refine below_via ?_ (by with_reducible assumption) ?_) | omega | (simp; done) | (simp; omega))))) (HB.out.rd.keep (by (repeat' (first | (with_reducible exact Below.refl _ _) | (with_reducible assumption) | (with_reducible refine Below.alloc ?_ ?_ _) | (with_reducible refine Below.setCell ?_ ?_ _) | (with_reducible refine Below.drew ?_) | (with_reducible refine below_drewN ?_ _) | (with_reducible refine below_via ?_ (by with_reducible assumption) ?_) | omega | (simp; done) | (simp; omega))))) HA.out.bit HB.out.bit).mono ?_); rintro e w1 ⟨v, l, rfl, hown, hb1, hbit, hval, hlen⟩; have hl1 := plus_len hla hlb hlen; have hb0 : Below w.heap.size w w := Below.refl _ _; obtain ⟨A1, c1, rfl, hcc, hmm, hr1, _⟩ := hown.shape; have Hval := Lib.hid hval; clear hval; have Hcc := Lib.hid hcc; clear hcc; obtain ⟨fc1, fg1, hc1, hf1, hz1⟩ := bget hb1; simp at hz1) | (go_at_call 86; (try simp only [List.length_map]); (with_reducible refine (bigTrim _ l A1 c1 _ (by omega) hr1 hbit (by simpa using Hcc.out) hmm).mono ?_); rintro e w2 ⟨l2, rfl, hk2, ht2, hv2, hb2⟩; have Hv2 := Lib.hid hv2; clear hv2; have Hk2 := Lib.hid hk2; clear hk2; obtain ⟨fc2, fg2, hc2, hf2, hz2⟩ := bget hb2))
  go_wp2_with fail
  all_goals
    have r0 : w2.cell? ⟨w.heap.size + 1 + 1, 0, none⟩ = some (.bool false) := by simp [go_sem, hc2, hc1, ↓IntWalk.iteOmega]
    have r1 : w2.cell? ⟨w.heap.size + 1 + 1, 1, none⟩ = some (.slice none 0 0) := by simp [go_sem, hc2, hc1, ↓IntWalk.iteOmega]
    have hval2 : val l = iabs (a + b) := by rw [Hval.out, ← HN.out, HA.out.val, HB.out.val]
    have hl2 := trim_len Hk2.out
    have hs := HSG.out _ hval2
    have hB := trim_big (hr1.keep hb2) hbit Hk2.out ht2 Hv2.out hval2 (by simpa using Hcc.out) hmm hs.symm
    refine bodyPost_ret (v := .agg #[.bool (false && decide (0 < val l)), .slice A1 l2.length c1]) (by simp [results, Try.results24, go_sem, r0, r1]; try rfl) rfl ⟨_, A1, l2, c1, rfl, (hB.far r0 (by simp) _).far ((World.cell?_setCell_other _ _ _ _ (by simp)).trans r1) (by simp) _, by omega, ?_⟩
    (repeat' (first | (with_reducible exact Below.refl _ _) | (with_reducible assumption) | (with_reducible refine Below.alloc ?_ ?_ _) | (with_reducible refine Below.setCell ?_ ?_ _) | (with_reducible refine Below.drew ?_) | (with_reducible refine below_drewN ?_ _) | (with_reducible refine below_via ?_ (by with_reducible assumption) ?_) | omega | (simp; done) | (simp; omega)))
set_option maxRecDepth 100000 in
set_option maxHeartbeats 2000000 in
theorem bigAdd_false_true_less (a b : Int) (hsa : decide (a < 0) = false) (hsb : decide (b < 0) = true) (hlt : iabs a < iabs b) (la lb : List Int) (A B : Option Addr) (c d L : Nat) (w : World) (hL : L ≤ 1000000) (hla : la.length ≤ L) (hlb : lb.length ≤ L) (ha : IsBig w a false A la c) (hb : IsBig w b true B lb d) :
    Calls Try.prog 24 #[.agg #[.bool false, .slice A la.length c], .agg #[.bool true, .slice B lb.length d]] w (BigPost w (a + b) (L + 1)) := by
  have fa := pos_of_pos hsa
  have fb := pos_of_neg hsb
  have hn : iabs b - iabs a = iabs (a + b) := by unfold iabs at *; split at * <;> omega
  have hsg : ∀ x : Int, x = iabs (a + b) → decide (a + b < 0) = (true && decide (0 < x)) := by
    intro x hx
    rw [hx, Bool.eq_iff_iff]; simp; unfold iabs at *; split at * <;> omega
  have HN := Lib.hid hn
  have HSG := Lib.hid hsg
  have HA := Lib.hid ha
  have HB := Lib.hid hb
  have hd : decide (val la < val lb) = true := by rw [ha.val, hb.val]; simpa using hlt
  have hvv : val la ≤ val lb := by rw [ha.val, hb.val]; omega
  have hll := len_of_lt ha.bit hb.bit ha.top hvv
  have HVV := Lib.hid hvv
  clear hvv hlt
  clear hn hsg ha hb hsa hsb fa fb
  go_enter Try.func24, Try.ntmps24
  go_wp2_with (go_at_call 88; (with_reducible refine (bigLess la lb A B c d _ (by omega) (by omega) (HA.out.rd.keep (by (repeat' (first | (with_reducible exact Below.refl _ _) | (with_reducible assumption) | (with_reducible refine Below.alloc ?_ ?_ _) | (with_reducible refine Below.setCell ?_ ?_ _) | (with_reducible refine Below.drew ?_) | (with_reducible refine below_drewN ?_ _) | (with_reducible refine below_via ?_ (by with_reducible assumption) ?_) | omega | (simp; done) | (simp; omega))))) (HB.out.rd.keep (by (repeat' (first | (with_reducible exact Below.refl _ _) | (with_reducible assumption) | (with_reducible refine Below.alloc ?_ ?_ _) | (with_reducible refine Below.setCell ?_ ?_ _) | (with_reducible refine Below.drew ?_) | (with_reducible refine below_drewN ?_ _) | (with_reducible refine below_via ?_ (by with_reducible assumption) ?_) | omega | (simp; done) | (simp; omega))))) HA.out.bit HB.out.bit HA.out.top HB.out.top).mono ?_); rintro e w0 ⟨rfl, hb0⟩; rw [hd]; obtain ⟨fc0, fg0, hc0, hf0, hz0⟩ := bget hb0; simp at hz0)
  go_region_held3 (fun w' => w'.cell? ⟨w.heap.size, 0, none⟩ = some (.bool false) ∧ w'.cell? ⟨w.heap.size, 1, none⟩ = some (.slice A la.length c) ∧ w'.cell? ⟨w.heap.size + 1, 0, none⟩ = some (.bool true) ∧ w'.cell? ⟨w.heap.size + 1, 1, none⟩ = some (.slice B lb.length d)) (first | (simp [go_sem]; done) | (repeat' (first | (with_reducible assumption) | (with_reducible refine And.intro ?_ ?_) | (with_reducible refine cell_drew ?_) | (with_reducible refine cell_via (by with_reducible assumption) ?_ ?_) | (simp [*]; done) | (simp [go_sem]; done) | (with_reducible refine cell_alloc ?_ ?_) | (with_reducible refine cell_set_far ?_ ?_) | omega | (simp; omega)))) (first | (go_at_call 89; (with_reducible refine (bigMinus lb la B A d c _ (by omega) hll (HB.out.rd.keep (by (repeat' (first | (with_reducible exact Below.refl _ _) | (with_reducible assumption) | (with_reducible refine Below.alloc ?_ ?_ _) | (with_reducible refine Below.setCell ?_ ?_ _) | (with_reducible refine Below.drew ?_) | (with_reducible refine below_drewN ?_ _) | (with_reducible refine below_via ?_ (by with_reducible assumption) ?_) | omega | (simp; done) | (simp; omega))))) (HA.out.rd.keep (by (repeat' (first | (with_reducible exact Below.refl _ _) | (with_reducible assumption) | (with_reducible refine Below.alloc ?_ ?_ _) | (with_reducible refine Below.setCell ?_ ?_ _) | (with_reducible refine Below.drew ?_) | (with_reducible refine below_drewN ?_ _) | (with_reducible refine below_via ?_ (by with_reducible assumption) ?_) | omega | (simp; done) | (simp; omega))))) HB.out.bit HA.out.bit HVV.out).mono ?_); rintro e w1 ⟨v, l, rfl, hown, hb1, hbit, hval, hlen⟩; have hl1 : l.length ≤ L + 1 := (by omega); clear hlen; obtain ⟨A1, c1, rfl, hcc, hmm, hr1, _⟩ := hown.shape; have Hval := Lib.hid hval; clear hval; have Hcc := Lib.hid hcc; clear hcc; obtain ⟨fc1, fg1, hc1, hf1, hz1⟩ := bget hb1; simp at hz1) | (go_at_call 86; (try simp only [List.length_map]); (with_reducible refine (bigTrim _ l A1 c1 _ (by omega) hr1 hbit (by simpa using Hcc.out) hmm).mono ?_); rintro e w2 ⟨l2, rfl, hk2, ht2, hv2, hb2⟩; have Hv2 := Lib.hid hv2; clear hv2; have Hk2 := Lib.hid hk2; clear hk2; obtain ⟨fc2, fg2, hc2, hf2, hz2⟩ := bget hb2))
  go_wp2_with fail
  all_goals
    have r0 : w2.cell? ⟨w.heap.size + 1 + 1, 0, none⟩ = some (.bool false) := by simp [go_sem, hc2, hc1, hc0, ↓IntWalk.iteOmega]
    have r1 : w2.cell? ⟨w.heap.size + 1 + 1, 1, none⟩ = some (.slice none 0 0) := by simp [go_sem, hc2, hc1, hc0, ↓IntWalk.iteOmega]
    have hval2 : val l = iabs (a + b) := by rw [Hval.out, ← HN.out, HA.out.val, HB.out.val]
    have hl2 := trim_len Hk2.out
    have hs := HSG.out _ hval2
    have hB := trim_big (hr1.keep hb2) hbit Hk2.out ht2 Hv2.out hval2 (by simpa using Hcc.out) hmm hs.symm
    refine bodyPost_ret (v := .agg #[.bool (true && decide (0 < val l)), .slice A1 l2.length c1]) (by simp [results, Try.results24, go_sem, r0, r1]; try rfl) rfl ⟨_, A1, l2, c1, rfl, (hB.far r0 (by simp) _).far ((World.cell?_setCell_other _ _ _ _ (by simp)).trans r1) (by simp) _, by omega, ?_⟩
    (repeat' (first | (with_reducible exact Below.refl _ _) | (with_reducible assumption) | (with_reducible refine Below.alloc ?_ ?_ _) | (with_reducible refine Below.setCell ?_ ?_ _) | (with_reducible refine Below.drew ?_) | (with_reducible refine below_drewN ?_ _) | (with_reducible refine below_via ?_ (by with_reducible assumption) ?_) | omega | (simp; done) | (simp; omega)))
set_option maxRecDepth 100000 in
set_option maxHeartbeats 2000000 in
theorem bigAdd_false_true_more (a b : Int) (hsa : decide (a < 0) = false) (hsb : decide (b < 0) = true) (hlt : ¬ iabs a < iabs b) (la lb : List Int) (A B : Option Addr) (c d L : Nat) (w : World) (hL : L ≤ 1000000) (hla : la.length ≤ L) (hlb : lb.length ≤ L) (ha : IsBig w a false A la c) (hb : IsBig w b true B lb d) :
    Calls Try.prog 24 #[.agg #[.bool false, .slice A la.length c], .agg #[.bool true, .slice B lb.length d]] w (BigPost w (a + b) (L + 1)) := by
  have fa := pos_of_pos hsa
  have fb := pos_of_neg hsb
  have hn : iabs a - iabs b = iabs (a + b) := by unfold iabs at *; split at * <;> omega
  have hsg : ∀ x : Int, x = iabs (a + b) → decide (a + b < 0) = (false && decide (0 < x)) := by
    intro x hx
    rw [hx, Bool.eq_iff_iff]; simp; unfold iabs at *; split at * <;> omega
  have HN := Lib.hid hn
  have HSG := Lib.hid hsg
  have HA := Lib.hid ha
  have HB := Lib.hid hb
  have hd : decide (val la < val lb) = false := by rw [ha.val, hb.val]; simpa using hlt
  have hvv : val lb ≤ val la := by rw [ha.val, hb.val]; omega
  have hll := len_of_lt hb.bit ha.bit hb.top hvv
  have HVV := Lib.hid hvv
  clear hvv hlt
  clear hn hsg ha hb hsa hsb fa fb
  go_enter Try.func24, Try.ntmps24
  go_wp2_with (go_at_call 88; (with_reducible refine (bigLess la lb A B c d _ (by omega) (by omega) (HA.out.rd.keep (by (repeat' (first | (with_reducible exact Below.refl _ _) | (with_reducible assumption) | (with_reducible refine Below.alloc ?_ ?_ _) | (with_reducible refine Below.setCell ?_ ?_ _) | (with_reducible refine Below.drew ?_) | (with_reducible refine below_drewN ?_ _) | (with_reducible refine below_via ?_ (by with_reducible assumption) ?_) | omega | (simp; done) | (simp; omega))))) (HB.out.rd.keep (by (repeat' (first | (with_reducible exact Below.refl _ _) | (with_reducible assumption) | (with_reducible refine Below.alloc ?_ ?_ _) | (with_reducible refine Below.setCell ?_ ?_ _) | (with_reducible refine Below.drew ?_) | (with_reducible refine below_drewN ?_ _) | (with_reducible refine below_via ?_ (by with_reducible assumption) ?_) | omega | (simp; done) | (simp; omega))))) HA.out.bit HB.out.bit HA.out.top HB.out.top).mono ?_); rintro e w0 ⟨rfl, hb0⟩; rw [hd]; obtain ⟨fc0, fg0, hc0, hf0, hz0⟩ := bget hb0; simp at hz0)
  go_region_held3 (fun w' => w'.cell? ⟨w.heap.size, 0, none⟩ = some (.bool false) ∧ w'.cell? ⟨w.heap.size, 1, none⟩ = some (.slice A la.length c) ∧ w'.cell? ⟨w.heap.size + 1, 0, none⟩ = some (.bool true) ∧ w'.cell? ⟨w.heap.size + 1, 1, none⟩ = some (.slice B lb.length d)) (first | (simp [go_sem]; done) | (repeat' (first | (with_reducible assumption) | (with_reducible refine And.intro ?_ ?_) | (with_reducible refine cell_drew ?_) | (with_reducible refine cell_via (by with_reducible assumption) ?_ ?_) | (simp [*]; done) | (simp [go_sem]; done) | (with_reducible refine cell_alloc ?_ ?_) | (with_reducible refine cell_set_far ?_ ?_) | omega | (simp; omega)))) (first | (go_at_call 89; (with_reducible refine (bigMinus la lb A B c d _ (by omega) hll (HA.out.rd.keep (by (repeat' (first | (with_reducible exact Below.refl _ _) | (with_reducible assumption) | (with_reducible refine Below.alloc ?_ ?_ _) | (with_reducible refine Below.setCell ?_ ?_ _) | (with_reducible refine Below.drew ?_) | (with_reducible refine below_drewN ?_ _) | (with_reducible refine below_via ?_ (by with_reducible assumption) ?_) | omega | (simp; done) | (simp; omega))))) (HB.out.rd.keep (by (repeat' (first | (with_reducible exact Below.refl _ _) | (with_reducible assumption) | (with_reducible refine Below.alloc ?_ ?_ _) | (with_reducible refine Below.setCell ?_ ?_ _) | (with_reducible refine Below.drew ?_) | (with_reducible refine below_drewN ?_ _) | (with_reducible refine below_via ?_ (by with_reducible assumption) ?_) | omega | (simp; done) | (simp; omega))))) HA.out.bit HB.out.bit HVV.out).mono ?_); rintro e w1 ⟨v, l, rfl, hown, hb1, hbit, hval, hlen⟩; have hl1 : l.length ≤ L + 1 := (by omega); clear hlen; obtain ⟨A1, c1, rfl, hcc, hmm, hr1, _⟩ := hown.shape; have Hval := Lib.hid hval; clear hval; have Hcc := Lib.hid hcc; clear hcc; obtain ⟨fc1, fg1, hc1, hf1, hz1⟩ := bget hb1; simp at hz1) | (go_at_call 86; (try simp only [List.length_map]); (with_reducible refine (bigTrim _ l A1 c1 _ (by omega) hr1 hbit (by simpa using Hcc.out) hmm).mono ?_); rintro e w2 ⟨l2, rfl, hk2, ht2, hv2, hb2⟩; have Hv2 := Lib.hid hv2; clear hv2; have Hk2 := Lib.hid hk2; clear hk2; obtain ⟨fc2, fg2, hc2, hf2, hz2⟩ := bget hb2))
  go_wp2_with fail
  all_goals
    have r0 : w2.cell? ⟨w.heap.size + 1 + 1, 0, none⟩ = some (.bool false) := by simp [go_sem, hc2, hc1, hc0, ↓IntWalk.iteOmega]
    have r1 : w2.cell? ⟨w.heap.size + 1 + 1, 1, none⟩ = some (.slice none 0 0) := by simp [go_sem, hc2, hc1, hc0, ↓IntWalk.iteOmega]
    have hval2 : val l = iabs (a + b) := by rw [Hval.out, ← HN.out, HA.out.val, HB.out.val]
    have hl2 := trim_len Hk2.out
    have hs := HSG.out _ hval2
    have hB := trim_big (hr1.keep hb2) hbit Hk2.out ht2 Hv2.out hval2 (by simpa using Hcc.out) hmm hs.symm
    refine bodyPost_ret (v := .agg #[.bool (false && decide (0 < val l)), .slice A1 l2.length c1]) (by simp [results, Try.results24, go_sem, r0, r1]; try rfl) rfl ⟨_, A1, l2, c1, rfl, (hB.far r0 (by simp) _).far ((World.cell?_setCell_other _ _ _ _ (by simp)).trans r1) (by simp) _, by omega, ?_⟩
    (repeat' (first | (with_reducible exact Below.refl _ _) | (with_reducible assumption) | (with_reducible refine Below.alloc ?_ ?_ _) | (with_reducible refine Below.setCell ?_ ?_ _) | (with_reducible refine Below.drew ?_) | (with_reducible refine below_drewN ?_ _) | (with_reducible refine below_via ?_ (by with_reducible assumption) ?_) | omega | (simp; done) | (simp; omega)))
set_option maxRecDepth 100000 in
set_option maxHeartbeats 2000000 in
theorem bigAdd_true_false_less (a b : Int) (hsa : decide (a < 0) = true) (hsb : decide (b < 0) = false) (hlt : iabs a < iabs b) (la lb : List Int) (A B : Option Addr) (c d L : Nat) (w : World) (hL : L ≤ 1000000) (hla : la.length ≤ L) (hlb : lb.length ≤ L) (ha : IsBig w a true A la c) (hb : IsBig w b false B lb d) :
    Calls Try.prog 24 #[.agg #[.bool true, .slice A la.length c], .agg #[.bool false, .slice B lb.length d]] w (BigPost w (a + b) (L + 1)) := by
  have fa := pos_of_neg hsa
  have fb := pos_of_pos hsb
  have hn : iabs b - iabs a = iabs (a + b) := by unfold iabs at *; split at * <;> omega
  have hsg : ∀ x : Int, x = iabs (a + b) → decide (a + b < 0) = (false && decide (0 < x)) := by
    intro x hx
    rw [hx, Bool.eq_iff_iff]; simp; unfold iabs at *; split at * <;> omega
  have HN := Lib.hid hn
  have HSG := Lib.hid hsg
  have HA := Lib.hid ha
  have HB := Lib.hid hb
  have hd : decide (val la < val lb) = true := by rw [ha.val, hb.val]; simpa using hlt
  have hvv : val la ≤ val lb := by rw [ha.val, hb.val]; omega
  have hll := len_of_lt ha.bit hb.bit ha.top hvv
  have HVV := Lib.hid hvv
  clear hvv hlt
  clear hn hsg ha hb hsa hsb fa fb
  go_enter Try.func24, Try.ntmps24
  go_wp2_with (go_at_call 88; (with_reducible refine (bigLess la lb A B c d _ (by omega) (by omega) (HA.out.rd.keep (by (repeat' (first | (with_reducible exact Below.refl _ _) | (with_reducible assumption) | (with_reducible refine Below.alloc ?_ ?_ _) | (with_reducible refine Below.setCell ?_ ?_ _) | (with_reducible refine Below.drew ?_) | (with_reducible refine below_drewN ?_ _) | (with_reducible refine below_via ?_ (by with_reducible assumption) ?_) | omega | (simp; done) | (simp; omega))))) (HB.out.rd.keep (by (repeat' (first | (with_reducible exact Below.refl _ _) | (with_reducible assumption) | (with_reducible refine Below.alloc ?_ ?_ _) | (with_reducible refine Below.setCell ?_ ?_ _) | (with_reducible refine Below.drew ?_) | (with_reducible refine below_drewN ?_ _) | (with_reducible refine below_via ?_ (by with_reducible assumption) ?_) | omega | (simp; done) | (simp; omega))))) HA.out.bit HB.out.bit HA.out.top HB.out.top).mono ?_); rintro e w0 ⟨rfl, hb0⟩; rw [hd]; obtain ⟨fc0, fg0, hc0, hf0, hz0⟩ := bget hb0; simp at hz0)
  go_region_held3 (fun w' => w'.cell? ⟨w.heap.size, 0, none⟩ = some (.bool true) ∧ w'.cell? ⟨w.heap.size, 1, none⟩ = some (.slice A la.length c) ∧ w'.cell? ⟨w.heap.size + 1, 0, none⟩ = some (.bool false) ∧ w'.cell? ⟨w.heap.size + 1, 1, none⟩ = some (.slice B lb.length d)) (first | (simp [go_sem]; done) | (repeat' (first | (with_reducible assumption) | (with_reducible refine And.intro ?_ ?_) | (with_reducible refine cell_drew ?_) | (with_reducible refine cell_via (by with_reducible assumption) ?_ ?_) | (simp [*]; done) | (simp [go_sem]; done) | (with_reducible refine cell_alloc ?_ ?_) | (with_reducible refine cell_set_far ?_ ?_) | omega | (simp; omega)))) (first | (go_at_call 89; (with_reducible refine (bigMinus lb la B A d c _ (by omega) hll (HB.out.rd.keep (by (repeat' (first | (with_reducible exact Below.refl _ _) | (with_reducible assumption) | (with_reducible refine Below.alloc ?_ ?_ _) | (with_reducible refine Below.setCell ?_ ?_ _) | (with_reducible refine Below.drew ?_) | (with_reducible refine below_drewN ?_ _) | (with_reducible refine below_via ?_ (by with_reducible assumption) ?_) | omega | (simp; done) | (simp; omega))))) (HA.out.rd.keep (by (repeat' (first | (with_reducible exact Below.refl _ _) | (with_reducible assumption) | (with_reducible refine Below.alloc ?_ ?_ _) | (with_reducible refine Below.setCell ?_ ?_ _) | (with_reducible refine Below.drew ?_) | (with_reducible refine below_drewN ?_ _) | (with_reducible refine below_via ?_ (by with_reducible assumption) ?_) | omega | (simp; done) | (simp; omega))))) HB.out.bit HA.out.bit HVV.out).mono ?_); rintro e w1 ⟨v, l, rfl, hown, hb1, hbit, hval, hlen⟩; have hl1 : l.length ≤ L + 1 := (by omega); clear hlen; obtain ⟨A1, c1, rfl, hcc, hmm, hr1, _⟩ := hown.shape; have Hval := Lib.hid hval; clear hval; have Hcc := Lib.hid hcc; clear hcc; obtain ⟨fc1, fg1, hc1, hf1, hz1⟩ := bget hb1; simp at hz1) | (go_at_call 86; (try simp only [List.length_map]); (with_reducible refine (bigTrim _ l A1 c1 _ (by omega) hr1 hbit (by simpa using Hcc.out) hmm).mono ?_); rintro e w2 ⟨l2, rfl, hk2, ht2, hv2, hb2⟩; have Hv2 := Lib.hid hv2; clear hv2; have Hk2 := Lib.hid hk2; clear hk2; obtain ⟨fc2, fg2, hc2, hf2, hz2⟩ := bget hb2))
  go_wp2_with fail
  all_goals
    have r0 : w2.cell? ⟨w.heap.size + 1 + 1, 0, none⟩ = some (.bool false) := by simp [go_sem, hc2, hc1, hc0, ↓IntWalk.iteOmega]
    have r1 : w2.cell? ⟨w.heap.size + 1 + 1, 1, none⟩ = some (.slice none 0 0) := by simp [go_sem, hc2, hc1, hc0, ↓IntWalk.iteOmega]
    have hval2 : val l = iabs (a + b) := by rw [Hval.out, ← HN.out, HA.out.val, HB.out.val]
    have hl2 := trim_len Hk2.out
    have hs := HSG.out _ hval2
    have hB := trim_big (hr1.keep hb2) hbit Hk2.out ht2 Hv2.out hval2 (by simpa using Hcc.out) hmm hs.symm
    refine bodyPost_ret (v := .agg #[.bool (false && decide (0 < val l)), .slice A1 l2.length c1]) (by simp [results, Try.results24, go_sem, r0, r1]; try rfl) rfl ⟨_, A1, l2, c1, rfl, (hB.far r0 (by simp) _).far ((World.cell?_setCell_other _ _ _ _ (by simp)).trans r1) (by simp) _, by omega, ?_⟩
    (repeat' (first | (with_reducible exact Below.refl _ _) | (with_reducible assumption) | (with_reducible refine Below.alloc ?_ ?_ _) | (with_reducible refine Below.setCell ?_ ?_ _) | (with_reducible refine Below.drew ?_) | (with_reducible refine below_drewN ?_ _) | (with_reducible refine below_via ?_ (by with_reducible assumption) ?_) | omega | (simp; done) | (simp; omega)))
set_option maxRecDepth 100000 in
set_option maxHeartbeats 2000000 in
theorem bigAdd_true_false_more (a b : Int) (hsa : decide (a < 0) = true) (hsb : decide (b < 0) = false) (hlt : ¬ iabs a < iabs b) (la lb : List Int) (A B : Option Addr) (c d L : Nat) (w : World) (hL : L ≤ 1000000) (hla : la.length ≤ L) (hlb : lb.length ≤ L) (ha : IsBig w a true A la c) (hb : IsBig w b false B lb d) :
    Calls Try.prog 24 #[.agg #[.bool true, .slice A la.length c], .agg #[.bool false, .slice B lb.length d]] w (BigPost w (a + b) (L + 1)) := by
  have fa := pos_of_neg hsa
  have fb := pos_of_pos hsb
  have hn : iabs a - iabs b = iabs (a + b) := by unfold iabs at *; split at * <;> omega
  have hsg : ∀ x : Int, x = iabs (a + b) → decide (a + b < 0) = (true && decide (0 < x)) := by
    intro x hx
    rw [hx, Bool.eq_iff_iff]; simp; unfold iabs at *; split at * <;> omega
  have HN := Lib.hid hn
  have HSG := Lib.hid hsg
  have HA := Lib.hid ha
  have HB := Lib.hid hb
  have hd : decide (val la < val lb) = false := by rw [ha.val, hb.val]; simpa using hlt
  have hvv : val lb ≤ val la := by rw [ha.val, hb.val]; omega
  have hll := len_of_lt hb.bit ha.bit hb.top hvv
  have HVV := Lib.hid hvv
  clear hvv hlt
  clear hn hsg ha hb hsa hsb fa fb
  go_enter Try.func24, Try.ntmps24
  go_wp2_with (go_at_call 88; (with_reducible refine (bigLess la lb A B c d _ (by omega) (by omega) (HA.out.rd.keep (by (repeat' (first | (with_reducible exact Below.refl _ _) | (with_reducible assumption) | (with_reducible refine Below.alloc ?_ ?_ _) | (with_reducible refine Below.setCell ?_ ?_ _) | (with_reducible refine Below.drew ?_) | (with_reducible refine below_drewN ?_ _) | (with_reducible refine below_via ?_ (by with_reducible assumption) ?_) | omega | (simp; done) | (simp; omega))))) (HB.out.rd.keep (by (repeat' (first | (with_reducible exact Below.refl _ _) | (with_reducible assumption) | (with_reducible refine Below.alloc ?_ ?_ _) | (with_reducible refine Below.setCell ?_ ?_ _) | (with_reducible refine Below.drew ?_) | (with_reducible refine below_drewN ?_ _) | (with_reducible refine below_via ?_ (by with_reducible assumption) ?_) | omega | (simp; done) | (simp; omega))))) HA.out.bit HB.out.bit HA.out.top HB.out.top).mono ?_); rintro e w0 ⟨rfl, hb0⟩; rw [hd]; obtain ⟨fc0, fg0, hc0, hf0, hz0⟩ := bget hb0; simp at hz0)
  go_region_held3 (fun w' => w'.cell? ⟨w.heap.size, 0, none⟩ = some (.bool true) ∧ w'.cell? ⟨w.heap.size, 1, none⟩ = some (.slice A la.length c) ∧ w'.cell? ⟨w.heap.size + 1, 0, none⟩ = some (.bool false) ∧ w'.cell? ⟨w.heap.size + 1, 1, none⟩ = some (.slice B lb.length d)) (first | (simp [go_sem]; done) | (repeat' (first | (with_reducible assumption) | (with_reducible refine And.intro ?_ ?_) | (with_reducible refine cell_drew ?_) | (with_reducible refine cell_via (by with_reducible assumption) ?_ ?_) | (simp [*]; done) | (simp [go_sem]; done) | (with_reducible refine cell_alloc ?_ ?_) | (with_reducible refine cell_set_far ?_ ?_) | omega | (simp; omega)))) (first | (go_at_call 89; (with_reducible refine (bigMinus la lb A B c d _ (by omega) hll (HA.out.rd.keep (by (repeat' (first | (with_reducible exact Below.refl _ _) | (with_reducible assumption) | (with_reducible refine Below.alloc ?_ ?_ _) | (with_reducible refine Below.setCell ?_ ?_ _) | (with_reducible refine Below.drew ?_) | (with_reducible refine below_drewN ?_ _) | (with_reducible refine below_via ?_ (by with_reducible assumption) ?_) | omega | (simp; done) | (simp; omega))))) (HB.out.rd.keep (by (repeat' (first | (with_reducible exact Below.refl _ _) | (with_reducible assumption) | (with_reducible refine Below.alloc ?_ ?_ _) | (with_reducible refine Below.setCell ?_ ?_ _) | (with_reducible refine Below.drew ?_) | (with_reducible refine below_drewN ?_ _) | (with_reducible refine below_via ?_ (by with_reducible assumption) ?_) | omega | (simp; done) | (simp; omega))))) HA.out.bit HB.out.bit HVV.out).mono ?_); rintro e w1 ⟨v, l, rfl, hown, hb1, hbit, hval, hlen⟩; have hl1 : l.length ≤ L + 1 := (by omega); clear hlen; obtain ⟨A1, c1, rfl, hcc, hmm, hr1, _⟩ := hown.shape; have Hval := Lib.hid hval; clear hval; have Hcc := Lib.hid hcc; clear hcc; obtain ⟨fc1, fg1, hc1, hf1, hz1⟩ := bget hb1; simp at hz1) | (go_at_call 86; (try simp only [List.length_map]); (with_reducible refine (bigTrim _ l A1 c1 _ (by omega) hr1 hbit (by simpa using Hcc.out) hmm).mono ?_); rintro e w2 ⟨l2, rfl, hk2, ht2, hv2, hb2⟩; have Hv2 := Lib.hid hv2; clear hv2; have Hk2 := Lib.hid hk2; clear hk2; obtain ⟨fc2, fg2, hc2, hf2, hz2⟩ := bget hb2))
  go_wp2_with fail
  all_goals
    have r0 : w2.cell? ⟨w.heap.size + 1 + 1, 0, none⟩ = some (.bool false) := by simp [go_sem, hc2, hc1, hc0, ↓IntWalk.iteOmega]
    have r1 : w2.cell? ⟨w.heap.size + 1 + 1, 1, none⟩ = some (.slice none 0 0) := by simp [go_sem, hc2, hc1, hc0, ↓IntWalk.iteOmega]
    have hval2 : val l = iabs (a + b) := by rw [Hval.out, ← HN.out, HA.out.val, HB.out.val]
    have hl2 := trim_len Hk2.out
    have hs := HSG.out _ hval2
    have hB := trim_big (hr1.keep hb2) hbit Hk2.out ht2 Hv2.out hval2 (by simpa using Hcc.out) hmm hs.symm
    refine bodyPost_ret (v := .agg #[.bool (true && decide (0 < val l)), .slice A1 l2.length c1]) (by simp [results, Try.results24, go_sem, r0, r1]; try rfl) rfl ⟨_, A1, l2, c1, rfl, (hB.far r0 (by simp) _).far ((World.cell?_setCell_other _ _ _ _ (by simp)).trans r1) (by simp) _, by omega, ?_⟩
    (repeat' (first | (with_reducible exact Below.refl _ _) | (with_reducible assumption) | (with_reducible refine Below.alloc ?_ ?_ _) | (with_reducible refine Below.setCell ?_ ?_ _) | (with_reducible refine Below.drew ?_) | (with_reducible refine below_drewN ?_ _) | (with_reducible refine below_via ?_ (by with_reducible assumption) ?_) | omega | (simp; done) | (simp; omega)))
set_option maxRecDepth 100000 in
set_option maxHeartbeats 2000000 in
theorem bigAdd_true_true_plus (a b : Int) (hsa : decide (a < 0) = true) (hsb : decide (b < 0) = true) (la lb : List Int) (A B : Option Addr) (c d L : Nat) (w : World) (hL : L ≤ 1000000) (hla : la.length ≤ L) (hlb : lb.length ≤ L) (ha : IsBig w a true A la c) (hb : IsBig w b true B lb d) :
    Calls Try.prog 24 #[.agg #[.bool true, .slice A la.length c], .agg #[.bool true, .slice B lb.length d]] w (BigPost w (a + b) (L + 1)) := by
  have fa := pos_of_neg hsa
  have fb := pos_of_neg hsb
  have hn : iabs a + iabs b = iabs (a + b) := by unfold iabs at *; split at * <;> omega
  have hsg : ∀ x : Int, x = iabs (a + b) → decide (a + b < 0) = (true && decide (0 < x)) := by
    intro x hx
    rw [hx, Bool.eq_iff_iff]; simp; unfold iabs at *; split at * <;> omega
  have HN := Lib.hid hn
  have HSG := Lib.hid hsg
  have HA := Lib.hid ha
  have HB := Lib.hid hb
  clear hn hsg ha hb hsa hsb fa fb
  go_enter Try.func24, Try.ntmps24
  go_wp2_with fail
  go_region_held3 (fun w' => w'.cell? ⟨w.heap.size, 0, none⟩ = some (.bool true) ∧ w'.cell? ⟨w.heap.size, 1, none⟩ = some (.slice A la.length c) ∧ w'.cell? ⟨w.heap.size + 1, 0, none⟩ = some (.bool true) ∧ w'.cell? ⟨w.heap.size + 1, 1, none⟩ = some (.slice B lb.length d)) (first | (simp [go_sem]; done) | (repeat' (first | (with_reducible assumption) | (with_reducible refine And.intro ?_ ?_) | (with_reducible refine cell_drew ?_) | (with_reducible refine cell_via (by with_reducible assumption) ?_ ?_) | (simp [*]; done) | (simp [go_sem]; done) | (with_reducible refine cell_alloc ?_ ?_) | (with_reducible refine cell_set_far ?_ ?_) | omega | (simp; omega)))) (first | (go_at_call 87; (with_reducible refine (bigPlus la lb A B c d _ (by omega) (by omega) (HA.out.rd.keep (by (repeat' (first | (with_reducible exact Below.refl _ _) | (with_reducible assumption) | (with_reducible refine Below.alloc ?_ ?_ _) | (with_reducible refine Below.setCell ?_ ?_ _) | (with_reducible refine Below.drew ?_) | (with_reducible refine below_drewN ?_ _) | (with_reducible refine below_via ?_ (by with_reducible assumption) ?_) | omega | (simp; done) | (simp; omega))))) (HB.out.rd.keep (by (repeat' (first | (with_reducible exact Below.refl _ _) | (with_reducible assumption) | (with_reducible refine Below.alloc ?_ ?_ _) | (with_reducible refine Below.setCell ?_ ?_ _) | (with_reducible refine Below.drew ?_) | (with_reducible refine below_drewN ?_ _) | (with_reducible refine below_via ?_ (by with_reducible assumption) ?_) | omega | (simp; done) | (simp; omega))))) HA.out.bit HB.out.bit).mono ?_); rintro e w1 ⟨v, l, rfl, hown, hb1, hbit, hval, hlen⟩; have hl1 := plus_len hla hlb hlen; have hb0 : Below w.heap.size w w := Below.refl _ _; obtain ⟨A1, c1, rfl, hcc, hmm, hr1, _⟩ := hown.shape; have Hval := Lib.hid hval; clear hval; have Hcc := Lib.hid hcc; clear hcc; obtain ⟨fc1, fg1, hc1, hf1, hz1⟩ := bget hb1; simp at hz1) | (go_at_call 86; (try simp only [List.length_map]); (with_reducible refine (bigTrim _ l A1 c1 _ (by omega) hr1 hbit (by simpa using Hcc.out) hmm).mono ?_); rintro e w2 ⟨l2, rfl, hk2, ht2, hv2, hb2⟩; have Hv2 := Lib.hid hv2; clear hv2; have Hk2 := Lib.hid hk2; clear hk2; obtain ⟨fc2, fg2, hc2, hf2, hz2⟩ := bget hb2))
  go_wp2_with fail
  all_goals
    have r0 : w2.cell? ⟨w.heap.size + 1 + 1, 0, none⟩ = some (.bool false) := by simp [go_sem, hc2, hc1, ↓IntWalk.iteOmega]
    have r1 : w2.cell? ⟨w.heap.size + 1 + 1, 1, none⟩ = some (.slice none 0 0) := by simp [go_sem, hc2, hc1, ↓IntWalk.iteOmega]
    have hval2 : val l = iabs (a + b) := by rw [Hval.out, ← HN.out, HA.out.val, HB.out.val]
    have hl2 := trim_len Hk2.out
    have hs := HSG.out _ hval2
    have hB := trim_big (hr1.keep hb2) hbit Hk2.out ht2 Hv2.out hval2 (by simpa using Hcc.out) hmm hs.symm
    refine bodyPost_ret (v := .agg #[.bool (true && decide (0 < val l)), .slice A1 l2.length c1]) (by simp [results, Try.results24, go_sem, r0, r1]; try rfl) rfl ⟨_, A1, l2, c1, rfl, (hB.far r0 (by simp) _).far ((World.cell?_setCell_other _ _ _ _ (by simp)).trans r1) (by simp) _, by omega, ?_⟩
    (repeat' (first | (with_reducible exact Below.refl _ _) | (with_reducible assumption) | (with_reducible refine Below.alloc ?_ ?_ _) | (with_reducible refine Below.setCell ?_ ?_ _) | (with_reducible refine Below.drew ?_) | (with_reducible refine below_drewN ?_ _) | (with_reducible refine below_via ?_ (by with_reducible assumption) ?_) | omega | (simp; done) | (simp; omega)))
theorem bigAdd (a b : Int) (sa sb : Bool) (la lb : List Int) (A B : Option Addr) (c d L : Nat) (w : World) (hL : L ≤ 1000000) (hla : la.length ≤ L) (hlb : lb.length ≤ L) (ha : IsBig w a sa A la c) (hb : IsBig w b sb B lb d) :
    Calls Try.prog 24 #[.agg #[.bool sa, .slice A la.length c], .agg #[.bool sb, .slice B lb.length d]] w (BigPost w (a + b) (L + 1)) := by
  have e1 := ha.sgn.symm
  have e2 := hb.sgn.symm
  cases sa <;> cases sb
  · exact bigAdd_false_false_plus a b e1 e2 la lb A B c d L w hL hla hlb ha hb
  · by_cases h : iabs a < iabs b
    · exact bigAdd_false_true_less a b e1 e2 h la lb A B c d L w hL hla hlb ha hb
    · exact bigAdd_false_true_more a b e1 e2 h la lb A B c d L w hL hla hlb ha hb
  · by_cases h : iabs a < iabs b
    · exact bigAdd_true_false_less a b e1 e2 h la lb A B c d L w hL hla hlb ha hb
    · exact bigAdd_true_false_more a b e1 e2 h la lb A B c d L w hL hla hlb ha hb
  · exact bigAdd_true_true_plus a b e1 e2 la lb A B c d L w hL hla hlb ha hb
end Go.Proofs.Ytiidplinmempcaa

/- Contracts of the reference's Neg, Sub, Cmp, Within, Fits, Int. -/
namespace Go.Proofs.Ytiidplinmempcaa
open Go.RowKit
theorem big_zero {w : World} {s : Bool} {A : Option Addr} {l : List Int} {c : Nat} (h : IsBig w 0 s A l c) : l = [] := val_zero_top h.bit h.top h.val
theorem iabs_neg_eq (n : Int) : iabs (- n) = iabs n := by unfold iabs; split <;> split <;> omega
theorem neg_sgn {w : World} {a : Int} {s : Bool} {A : Option Addr} {l : List Int} {c : Nat} (h : IsBig w a s A l c) : (!s && decide (0 < Go.Proofs.Ytiidplinmempcaa.val l)) = decide (- a < 0) := by
  rw [h.val, h.sgn, Bool.eq_iff_iff]; simp; unfold iabs; split <;> omega
set_option maxRecDepth 100000 in
set_option maxHeartbeats 2000000 in
theorem bigNeg (a : Int) (s : Bool) (la : List Int) (A : Option Addr) (c L : Nat) (w : World) (hL : L ≤ 1000000) (hla : la.length ≤ L) (ha : IsBig w a s A la c) :
    Calls Try.prog 133 #[.agg #[.bool s, .slice A la.length c]] w (BigPost w (- a) L) := by
  have HSG := Lib.hid (neg_sgn ha)
  have HA := Lib.hid ha
  clear ha
  go_enter Try.func133, Try.ntmps133
  go_wp2_with (go_at_call 86; (with_reducible refine (bigTrim _ la A c _ (by omega) (HA.out.rd.keep (by (repeat' (first | (with_reducible exact Below.refl _ _) | (with_reducible assumption) | (with_reducible refine Below.alloc ?_ ?_ _) | (with_reducible refine Below.setCell ?_ ?_ _) | (with_reducible refine Below.drew ?_) | (with_reducible refine below_drewN ?_ _) | (with_reducible refine below_via ?_ (by with_reducible assumption) ?_) | omega | (simp; done) | (simp; omega))))) HA.out.bit HA.out.cap HA.out.room).mono ?_); rintro e w2 ⟨l2, rfl, hk2, ht2, hv2, hb2⟩; have Hv2 := Lib.hid hv2; clear hv2; have Hk2 := Lib.hid hk2; clear hk2; obtain ⟨fc2, fg2, hc2, hf2, hz2⟩ := bget hb2; (try simp at hz2))
  have r0 : w2.cell? ⟨w.heap.size + 1, 0, none⟩ = some (.bool false) := by simp [go_sem, hc2]
  have r1 : w2.cell? ⟨w.heap.size + 1, 1, none⟩ = some (.slice none 0 0) := by simp [go_sem, hc2]
  have hB := trim_big ((HA.out.rd.keep (by (repeat' (first | (with_reducible exact Below.refl _ _) | (with_reducible assumption) | (with_reducible refine Below.alloc ?_ ?_ _) | (with_reducible refine Below.setCell ?_ ?_ _) | (with_reducible refine Below.drew ?_) | (with_reducible refine below_drewN ?_ _) | (with_reducible refine below_via ?_ (by with_reducible assumption) ?_) | omega | (simp; done) | (simp; omega))))).keep hb2) HA.out.bit Hk2.out ht2 Hv2.out (by rw [HA.out.val, ← iabs_neg_eq]) HA.out.cap HA.out.room HSG.out
  have hl2 := trim_len Hk2.out
  refine bodyPost_ret (v := .agg #[.bool (!s && decide (0 < Go.Proofs.Ytiidplinmempcaa.val la)), .slice A l2.length c]) (by simp [results, Try.results133, go_sem, r0, r1]; try rfl) rfl ⟨_, A, l2, c, rfl, (hB.far r0 (by simp) _).far ((World.cell?_setCell_other _ _ _ _ (by simp)).trans r1) (by simp) _, by omega, ?_⟩
  (repeat' (first | (with_reducible exact Below.refl _ _) | (with_reducible assumption) | (with_reducible refine Below.alloc ?_ ?_ _) | (with_reducible refine Below.setCell ?_ ?_ _) | (with_reducible refine Below.drew ?_) | (with_reducible refine below_drewN ?_ _) | (with_reducible refine below_via ?_ (by with_reducible assumption) ?_) | omega | (simp; done) | (simp; omega)))
set_option maxRecDepth 100000 in
set_option maxHeartbeats 2000000 in
theorem bigSub (a b : Int) (sa sb : Bool) (la lb : List Int) (A B : Option Addr) (c d L : Nat) (w : World) (hL : L ≤ 1000000) (hla : la.length ≤ L) (hlb : lb.length ≤ L) (ha : IsBig w a sa A la c) (hb : IsBig w b sb B lb d) :
    Calls Try.prog 78 #[.agg #[.bool sa, .slice A la.length c], .agg #[.bool sb, .slice B lb.length d]] w (BigPost w (a - b) (L + 1)) := by
  have HA := Lib.hid ha
  have HB := Lib.hid hb
  clear ha hb
  rw [show a - b = a + - b from by omega]
  go_enter Try.func78, Try.ntmps78
  go_wp2_with fail
  go_region_held3 (fun w' => w'.cell? ⟨w.heap.size, 0, none⟩ = some (.bool sa) ∧ w'.cell? ⟨w.heap.size, 1, none⟩ = some (.slice A la.length c) ∧ w'.cell? ⟨w.heap.size + 1, 0, none⟩ = some (.bool sb) ∧ w'.cell? ⟨w.heap.size + 1, 1, none⟩ = some (.slice B lb.length d)) (first | (simp [go_sem]; done) | (repeat' (first | (with_reducible assumption) | (with_reducible refine And.intro ?_ ?_) | (with_reducible refine cell_drew ?_) | (with_reducible refine cell_via (by with_reducible assumption) ?_ ?_) | (simp [*]; done) | (simp [go_sem]; done) | (with_reducible refine cell_alloc ?_ ?_) | (with_reducible refine cell_set_far ?_ ?_) | omega | (simp; omega)))) (first | (go_at_call 133; (with_reducible refine (bigNeg b sb lb B d L _ hL hlb (HB.out.keep (by (repeat' (first | (with_reducible exact Below.refl _ _) | (with_reducible assumption) | (with_reducible refine Below.alloc ?_ ?_ _) | (with_reducible refine Below.setCell ?_ ?_ _) | (with_reducible refine Below.drew ?_) | (with_reducible refine below_drewN ?_ _) | (with_reducible refine below_via ?_ (by with_reducible assumption) ?_) | omega | (simp; done) | (simp; omega)))))).mono ?_); rintro e w1 ⟨s1, A1, l1, c1, rfl, hB1, hl1, hb1⟩; obtain ⟨fc1, fg1, hc1, hf1, hz1⟩ := bget hb1; simp at hz1) | (go_at_call 24; (with_reducible refine (bigAdd a (- b) sa s1 la l1 A A1 c c1 L _ hL hla hl1 (HA.out.keep (by (repeat' (first | (with_reducible exact Below.refl _ _) | (with_reducible assumption) | (with_reducible refine Below.alloc ?_ ?_ _) | (with_reducible refine Below.setCell ?_ ?_ _) | (with_reducible refine Below.drew ?_) | (with_reducible refine below_drewN ?_ _) | (with_reducible refine below_via ?_ (by with_reducible assumption) ?_) | omega | (simp; done) | (simp; omega))))) hB1).mono ?_); rintro e w2 ⟨s2, A2, l2, c2, rfl, hB2, hl2, hb2⟩; obtain ⟨fc2, fg2, hc2, hf2, hz2⟩ := bget hb2))
  go_wp2_with fail
  all_goals
    have r0 : w2.cell? ⟨w.heap.size + 1 + 1, 0, none⟩ = some (.bool false) := by simp [go_sem, hc2, hc1, ↓IntWalk.iteOmega]
    have r1 : w2.cell? ⟨w.heap.size + 1 + 1, 1, none⟩ = some (.slice none 0 0) := by simp [go_sem, hc2, hc1, ↓IntWalk.iteOmega]
    refine bodyPost_ret (v := .agg #[.bool s2, .slice A2 l2.length c2]) (by simp [results, Try.results78, go_sem, r0, r1]; try rfl) rfl ⟨s2, A2, l2, c2, rfl, (hB2.far r0 (by simp) _).far ((World.cell?_setCell_other _ _ _ _ (by simp)).trans r1) (by simp) _, hl2, ?_⟩
    (repeat' (first | (with_reducible exact Below.refl _ _) | (with_reducible assumption) | (with_reducible refine Below.alloc ?_ ?_ _) | (with_reducible refine Below.setCell ?_ ?_ _) | (with_reducible refine Below.drew ?_) | (with_reducible refine below_drewN ?_ _) | (with_reducible refine below_via ?_ (by with_reducible assumption) ?_) | omega | (simp; done) | (simp; omega)))
theorem big_len_pos {w : World} {n : Int} {s : Bool} {A : Option Addr} {l : List Int} {c : Nat} (h : IsBig w n s A l c) (hn : n ≠ 0) : 0 < l.length := by
  rcases Nat.eq_zero_or_pos l.length with h1 | h1
  · exfalso; apply hn
    have h2 := List.eq_nil_of_length_eq_zero h1
    have h3 := h.val
    rw [h2] at h3; simp [Go.Proofs.Ytiidplinmempcaa.val] at h3; unfold iabs at h3; split at h3 <;> omega
  · exact h1
set_option maxRecDepth 100000 in
set_option maxHeartbeats 2000000 in
theorem bigCmp (a b : Int) (sa sb : Bool) (la lb : List Int) (A B : Option Addr) (c d L : Nat) (w : World) (hL : L ≤ 1000000) (hla : la.length ≤ L) (hlb : lb.length ≤ L) (ha : IsBig w a sa A la c) (hb : IsBig w b sb B lb d) :
    Calls Try.prog 20 #[.agg #[.bool sa, .slice A la.length c], .agg #[.bool sb, .slice B lb.length d]] w fun e w' => e = .returned (.int .i64 (ord a b)) ∧ Below w.heap.size w w' := by
  have HA := Lib.hid ha
  have HB := Lib.hid hb
  clear ha hb
  go_enter Try.func20, Try.ntmps20
  go_wp2_with fail
  refine (bigSub a b sa sb la lb A B c d L _ hL hla hlb (HA.out.keep (by (repeat' (first | (with_reducible exact Below.refl _ _) | (with_reducible assumption) | (with_reducible refine Below.alloc ?_ ?_ _) | (with_reducible refine Below.setCell ?_ ?_ _) | (with_reducible refine Below.drew ?_) | (with_reducible refine below_drewN ?_ _) | (with_reducible refine below_via ?_ (by with_reducible assumption) ?_) | omega | (simp; done) | (simp; omega))))) (HB.out.keep (by (repeat' (first | (with_reducible exact Below.refl _ _) | (with_reducible assumption) | (with_reducible refine Below.alloc ?_ ?_ _) | (with_reducible refine Below.setCell ?_ ?_ _) | (with_reducible refine Below.drew ?_) | (with_reducible refine below_drewN ?_ _) | (with_reducible refine below_via ?_ (by with_reducible assumption) ?_) | omega | (simp; done) | (simp; omega)))))).mono ?_
  rintro e w1 ⟨s1, A1, l1, c1, rfl, hB1, hl1, hb1⟩
  obtain ⟨fc1, fg1, hc1, hf1, hz1⟩ := bget hb1
  simp at hz1
  have HB1 := Lib.hid hB1
  clear hB1
  by_cases h0 : a - b = 0
  · have hl0 : l1 = [] := by have := HB1.out; rw [h0] at this; exact big_zero this
    subst hl0
    have ho : ord a b = 0 := by unfold ord; rw [if_neg (by omega), if_neg (by omega)]
    have HO := Lib.hid ho
    clear h0 ho
    go_wp2_with fail
    go_ret
    exact ⟨by rw [HO.out]; rfl, by (repeat' (first | (with_reducible exact Below.refl _ _) | (with_reducible assumption) | (with_reducible refine Below.alloc ?_ ?_ _) | (with_reducible refine Below.setCell ?_ ?_ _) | (with_reducible refine Below.drew ?_) | (with_reducible refine below_drewN ?_ _) | (with_reducible refine below_via ?_ (by with_reducible assumption) ?_) | omega | (simp; done) | (simp; omega)))⟩
  · have hl0 := big_len_pos HB1.out h0
    have hs := HB1.out.sgn
    by_cases h1 : a - b < 0
    · have d0 : s1 = true := by rw [hs]; simpa using h1
      subst d0
      have ho : ord a b = -1 := by unfold ord; rw [if_pos (by omega)]
      have HO := Lib.hid ho
      clear ho hs
      go_wp2_with fail
      go_ret
      exact ⟨by rw [HO.out]; rfl, by (repeat' (first | (with_reducible exact Below.refl _ _) | (with_reducible assumption) | (with_reducible refine Below.alloc ?_ ?_ _) | (with_reducible refine Below.setCell ?_ ?_ _) | (with_reducible refine Below.drew ?_) | (with_reducible refine below_drewN ?_ _) | (with_reducible refine below_via ?_ (by with_reducible assumption) ?_) | omega | (simp; done) | (simp; omega)))⟩
    · have d0 : s1 = false := by rw [hs]; simpa using h1
      subst d0
      have ho : ord a b = 1 := by unfold ord; rw [if_neg (by omega), if_pos (by omega)]
      have HO := Lib.hid ho
      clear ho hs
      go_wp2_with fail
      go_ret
      exact ⟨by rw [HO.out]; rfl, by (repeat' (first | (with_reducible exact Below.refl _ _) | (with_reducible assumption) | (with_reducible refine Below.alloc ?_ ?_ _) | (with_reducible refine Below.setCell ?_ ?_ _) | (with_reducible refine Below.drew ?_) | (with_reducible refine below_drewN ?_ _) | (with_reducible refine below_via ?_ (by with_reducible assumption) ?_) | omega | (simp; done) | (simp; omega)))⟩
end Go.Proofs.Ytiidplinmempcaa
