/- Joined: Big1, Big2, Big3, Big4. -/
import Derived.Test.YtalgfpegaobacaaGreatKz3
import Derived.Test.YtalgfpegaobacaaGreatKz1
import Derived.Test.YtalgfpegaobacaaGreatRows
import Derived.WalkKit
import Derived.WalkSpells
import Derived.WalkLawsBesides
import Derived.BigQuiet
import Derived.Deep.RegionHeld3
import Derived.Handy
/- Contracts of the reference's rows of bits: plus, trim, Nat. -/
namespace Go.Proofs.YtalgfpegaobacaaGreat
open Go.RowKit
def encB (b : Int) : List Value := [.int .u8 b]
theorem elB : Elem Tryz.prog 79 5 1 1 := elem_of Tryz.underlying79 (z := .int .u8 0) (by kernel_rfl) rfl (by omega)
/-- A row of bits in memory. -/
theorem bit_cell {w wr : World} {B : Nat} {A : Option Addr} {l : List Int} {i : Nat} (hr : Rd w A 1 (l.map encB)) (hb : Below B w wr) (hB : w.heap.size ≤ B) (hi : i < l.length) :
    ∃ b o, A = some ⟨b, o, none⟩ ∧ b < w.heap.size ∧ wr.cell? ⟨b, o + i, none⟩ = some (.int .u8 (l.getD i 0)) := by
  obtain ⟨b, o, hA, hlt, hc⟩ := hr i (encB l[i]) (by simp [hi])
  refine ⟨b, o, hA, hlt, ?_⟩
  have := (hb.cell (p := ⟨b, o + i * 1 + 0, none⟩) (by exact Nat.lt_of_lt_of_le hlt hB)).trans (hc 0 _ rfl)
  simpa [List.getD_eq_getElem?_getD, List.getElem?_eq_getElem hi] using this
def PlusPost (w : World) (la lb : List Int) (e : Ending) (w' : World) : Prop :=
  ∃ v l, e = .returned v ∧ Own w' w.heap.size 5 1 v (l.map encB) ∧ Below w.heap.size w w' ∧ Bit l ∧ val l = val la + val lb ∧ (l.length = max la.length lb.length ∨ (l.length = max la.length lb.length + 1 ∧ Top l))
set_option maxRecDepth 100000 in
set_option maxHeartbeats 2000000 in
theorem bigPlus (la lb : List Int) (A B : Option Addr) (c d : Nat) (w : World) (hla : la.length ≤ 1048576) (hlb : lb.length ≤ 1048576) (ha : Rd w A 1 (la.map encB)) (hb : Rd w B 1 (lb.map encB)) (ba : Bit la) (bb : Bit lb) :
    Calls Tryz.prog 63 #[.slice A la.length c, .slice B lb.length d] w (PlusPost w la lb) := by
  have Ha := Lib.hid ha
  have Hb := Lib.hid hb
  have Ba := Lib.hid ba
  have Bb := Lib.hid bb
  clear ha hb ba bb
  go_enter Tryz.func63, Tryz.ntmps63
  go_wp2_with fail
  go_loopw [5, 6, 7] (fun v cc i wr => ∃ (k : Nat) (l : List Int) (q : Int), k ≤ max la.length lb.length ∧ i = .int .i64 k ∧ cc = .int .u8 q ∧ 0 ≤ q ∧ q ≤ 1 ∧ Own wr w.heap.size 5 1 v (l.map encB) ∧ Below w.heap.size w wr ∧ l.length = k ∧ Bit l ∧ val l + pw k * q = val (la.take k) + val (lb.take k))
    (fun _ _ i _ => max la.length lb.length - (intOf i).toNat)
  case atStart => exact ⟨0, [], 0, Nat.zero_le _, rfl, rfl, by omega, by omega, Own.nil _ _ _ _, Below.refl _ _, rfl, bit_nil, by simp [val]⟩
  case round =>
    obtain ⟨k, l, q, hk, rfl, rfl, q0, q1, hown, hbl, hl, hbit, hval⟩ := hrel
    have Hown := Lib.hid hown
    have Hbl := Lib.hid hbl
    have Hl := Lib.hid hl
    have Hbit := Lib.hid hbit
    have Hval := Lib.hid hval
    have hz := hbl.size
    have ga := bit_get Ba.out k
    have gb := bit_get Bb.out k
    have ea := take_succD la k
    have eb := take_succD lb k
    have Ea := Lib.hid ea
    have Eb := Lib.hid eb
    clear hown hbl hl hbit hval ea eb
    obtain ⟨x, hx⟩ : ∃ x, x = la.getD k 0 := ⟨_, rfl⟩
    obtain ⟨y, hy⟩ : ∃ y, y = lb.getD k 0 := ⟨_, rfl⟩
    by_cases h1 : k < la.length
    · obtain ⟨b1, o1, rfl, hb1, c1⟩ := bit_cell Ha.out Hbl.out (Nat.le_refl _) h1
      rw [← hx] at ga c1 Ea
      rw [← hy] at gb Eb
      have Hx := Lib.hid hx
      clear hx
      have d1 : decide ((k : Int) < (la.length : Int)) = true := by simpa using h1
      by_cases h2 : k < lb.length
      · obtain ⟨b2, o2, rfl, hb2, c2⟩ := bit_cell Hb.out Hbl.out (Nat.le_refl _) h2
        rw [← hy] at c2
        have Hy := Lib.hid hy
        clear hy
        go_wp2_with (at_builtin; refine wpList_app rfl _ _ _ rfl elB w.heap.size _ _ rfl (Hown.out.alloc _) (some ⟨wr.heap.size, 0, none⟩) 1 1 rfl [encB ((q + x + y) % 2)] rfl (fun h => by cases h) rd_one (by simp [encB]; rfl) (by have := Hl.out; unfold maxLen; simp; omega) (by have := Hl.out; simp; omega) (by simp; omega) ?_; intro v' w3 hown3 hb3)
        go_roundw
        case rel => exact ⟨k + 1, l ++ [(q + x + y) % 2], (q + x + y) / 2, by omega, by go_num, rfl, by omega, by omega, by simpa using hown3, (Hbl.out.alloc hz _).trans hb3, by simp [Hl.out], bit_snoc Hbit.out (by omega) (by omega), plus_step Hl.out Hval.out Ea.out Eb.out⟩
        case measure => simp [intOf]; omega
      · have hy0 : y = 0 := by rw [hy, List.getD_eq_getElem?_getD, List.getElem?_eq_none (by omega)]; rfl
        subst hy0
        clear hy
        go_wp2_with (at_builtin; refine wpList_app rfl _ _ _ rfl elB w.heap.size _ _ rfl (Hown.out.alloc _) (some ⟨wr.heap.size, 0, none⟩) 1 1 rfl [encB ((q + x) % 2)] rfl (fun h => by cases h) rd_one (by simp [encB]; rfl) (by have := Hl.out; unfold maxLen; simp; omega) (by have := Hl.out; simp; omega) (by simp; omega) ?_; intro v' w3 hown3 hb3)
        go_roundw
        case rel => exact ⟨k + 1, l ++ [(q + x + 0) % 2], (q + x + 0) / 2, by omega, by go_num, by simp, by omega, by omega, by simpa using hown3, (Hbl.out.alloc hz _).trans hb3, by simp [Hl.out], bit_snoc Hbit.out (by omega) (by omega), plus_step Hl.out Hval.out Ea.out Eb.out⟩
        case measure => simp [intOf]; omega
    · have hx0 : x = 0 := by rw [hx, List.getD_eq_getElem?_getD, List.getElem?_eq_none (by omega)]; rfl
      rw [← hx, hx0] at Ea
      rw [← hy] at gb Eb
      clear hx hx0 ga
      have d1 : decide ((k : Int) < (la.length : Int)) = false := by simpa using h1
      by_cases h2 : k < lb.length
      · obtain ⟨b2, o2, rfl, hb2, c2⟩ := bit_cell Hb.out Hbl.out (Nat.le_refl _) h2
        rw [← hy] at c2
        have Hy := Lib.hid hy
        clear hy
        have d2 : decide ((k : Int) < (lb.length : Int)) = true := by simpa using h2
        go_wp2_with (at_builtin; refine wpList_app rfl _ _ _ rfl elB w.heap.size _ _ rfl (Hown.out.alloc _) (some ⟨wr.heap.size, 0, none⟩) 1 1 rfl [encB ((q + y) % 2)] rfl (fun h => by cases h) rd_one (by simp [encB]; rfl) (by have := Hl.out; unfold maxLen; simp; omega) (by have := Hl.out; simp; omega) (by simp; omega) ?_; intro v' w3 hown3 hb3)
        go_roundw
        case rel => exact ⟨k + 1, l ++ [(q + 0 + y) % 2], (q + 0 + y) / 2, by omega, by go_num, by simp, by omega, by omega, by simpa using hown3, (Hbl.out.alloc hz _).trans hb3, by simp [Hl.out], bit_snoc Hbit.out (by omega) (by omega), plus_step Hl.out Hval.out Ea.out Eb.out⟩
        case measure => simp [intOf]; omega
      · have d2 : decide ((k : Int) < (lb.length : Int)) = false := by simpa using h2
        clear hy gb
        have hkm : k = max la.length lb.length := by omega
        have hv := Hval.out
        rw [List.take_of_length_le (by omega), List.take_of_length_le (by omega)] at hv
        have HV := Lib.hid hv
        have HK := Lib.hid hkm
        clear hv hkm
        rcases (show q = 0 ∨ q = 1 from by omega) with h0 | h0
        · subst h0
          go_wp2_with fail
          go_ret
          exact ⟨u5, l, rfl, Hown.out, Hbl.out, Hbit.out, by have := HV.out; simpa using this, .inl (by rw [Hl.out, HK.out])⟩
        · subst h0
          go_wp2_with (at_builtin; refine wpList_app rfl _ _ _ rfl elB w.heap.size _ _ rfl (Hown.out.alloc _) (some ⟨wr.heap.size, 0, none⟩) 1 1 rfl [encB 1] rfl (fun h => by cases h) rd_one (by simp [encB]; rfl) (by have := Hl.out; unfold maxLen; simp; omega) (by have := Hl.out; simp; omega) (by simp; omega) ?_; intro v' w3 hown3 hb3)
          go_ret
          exact ⟨v', l ++ [1], rfl, by simpa using hown3, (Hbl.out.alloc hz _).trans hb3, bit_snoc Hbit.out (by omega) (by omega), by rw [val_snoc, Hl.out]; exact HV.out, .inr ⟨by simp [Hl.out, ← HK.out], fun b hb => by simpa using hb.symm⟩⟩
end Go.Proofs.YtalgfpegaobacaaGreat

/- Contracts of the reference's trim, Nat, Of. -/
namespace Go.Proofs.YtalgfpegaobacaaGreat
open Go.RowKit
/-- A whole number without bounds, as it lies in memory. -/
structure IsBig (w : World) (n : Int) (s : Bool) (A : Option Addr) (l : List Int) (c : Nat) : Prop where
  rd : Rd w A 1 (l.map encB)
  bit : Bit l
  top : Top l
  val : val l = iabs n
  cap : l.length ≤ c
  room : c ≤ maxLen
  sgn : s = decide (n < 0)
theorem IsBig.keep {w w' : World} {n : Int} {s : Bool} {A : Option Addr} {l : List Int} {c : Nat} (h : IsBig w n s A l c) (hb : Below w.heap.size w w') : IsBig w' n s A l c := ⟨h.rd.keep hb, h.bit, h.top, h.val, h.cap, h.room, h.sgn⟩
theorem IsBig.far {w : World} {n : Int} {s : Bool} {A : Option Addr} {l : List Int} {c : Nat} (h : IsBig w n s A l c) {p : Addr} {v0 : Value} (hp : w.cell? p = some v0) (hne : ∀ k x, v0 ≠ .int k x) (u : Value) : IsBig (w.setCell p u) n s A l c :=
  ⟨h.rd.far hp (fun r hr hm => by
    obtain ⟨b, _, rfl⟩ := List.mem_map.1 hr
    simp [encB] at hm
    exact hne _ _ hm) u, h.bit, h.top, h.val, h.cap, h.room, h.sgn⟩
def BigPost (w : World) (n : Int) (L : Nat) (e : Ending) (w' : World) : Prop :=
  ∃ s A l c, e = .returned (.agg #[.bool s, .slice A l.length c]) ∧ IsBig w' n s A l c ∧ l.length ≤ L ∧ Below w.heap.size w w'
def TrimPost (w : World) (A : Option Addr) (c : Nat) (s : Bool) (l : List Int) (e : Ending) (w' : World) : Prop :=
  ∃ l2, e = .returned (.agg #[.bool (s && decide (0 < val l)), .slice A l2.length c]) ∧ (∃ k, l2 = l.take k) ∧ Top l2 ∧ val l2 = val l ∧ Below w.heap.size w w'
theorem Rd.take {w : World} {A : Option Addr} {l : List Int} (h : Rd w A 1 (l.map encB)) (k : Nat) : Rd w A 1 ((l.take k).map encB) := by
  intro i r hr
  rw [List.map_take, List.getElem?_take] at hr
  split at hr
  · exact h i r hr
  · cases hr
theorem trim_big {w : World} {n : Int} {s : Bool} {A : Option Addr} {l l2 : List Int} {c : Nat} (hr : Rd w A 1 (l.map encB)) (hb : Bit l) (hk : ∃ k, l2 = l.take k) (ht : Top l2) (hv : val l2 = val l) (hn : val l = iabs n) (hc : l.length ≤ c) (hm : c ≤ maxLen) (hs : s = decide (n < 0)) : IsBig w n s A l2 c := by
  obtain ⟨k, rfl⟩ := hk
  exact ⟨hr.take k, bit_take hb k, ht, hv.trans hn, by rw [List.length_take]; omega, hm, hs⟩
theorem trim_len {l l2 : List Int} (hk : ∃ k, l2 = l.take k) : l2.length ≤ l.length := by
  obtain ⟨k, rfl⟩ := hk
  rw [List.length_take]; omega
theorem take_pred_zero {l : List Int} {k : Nat} (h0 : 0 < k) (hx : l.getD (k - 1) 0 = 0) : val (l.take (k - 1)) = val (l.take k) := by
  have := take_succD l (k - 1)
  rw [show k - 1 + 1 = k from by omega, hx] at this
  simp at this
  exact this.symm
theorem top_take {l : List Int} {k : Nat} (h0 : 0 < k) (hk : k ≤ l.length) (hx : l.getD (k - 1) 0 = 1) : Top (l.take k) := by
  intro b hb
  rw [List.getLast?_eq_getElem?, List.length_take, Nat.min_eq_left hk, List.getElem?_take, if_pos (by omega)] at hb
  rw [List.getD_eq_getElem?_getD, hb] at hx
  exact hx
set_option maxRecDepth 100000 in
set_option maxHeartbeats 1000000 in
theorem bigTrim (s : Bool) (l : List Int) (A : Option Addr) (c : Nat) (w : World) (_hl : l.length ≤ 1048576) (hr : Rd w A 1 (l.map encB)) (hb : Bit l) (hc : l.length ≤ c) (hm : c ≤ maxLen) :
    Calls Tryz.prog 62 #[.bool s, .slice A l.length c] w (TrimPost w A c s l) := by
  unfold maxLen at hm
  have Hr := Lib.hid hr
  have Hb := Lib.hid hb
  clear hr hb
  go_enter Tryz.func62, Tryz.ntmps62
  go_wp2_with fail
  go_loop [5] (fun i => ∃ k : Nat, k ≤ l.length ∧ i = .int .i64 k ∧ val (l.take k) = val l) (fun i => (intOf i).toNat)
  case atStart => exact ⟨l.length, Nat.le_refl _, rfl, by rw [List.take_length]⟩
  case round =>
    obtain ⟨k, hk, rfl, hv⟩ := hrel
    have Hv := Lib.hid hv
    clear hv
    by_cases h0 : k = 0
    · subst h0
      have hz := Hv.out
      simp [val] at hz
      have hf : decide (0 < val l) = false := by rw [← hz]; rfl
      have HF := Lib.hid hf
      clear hz hf
      cases s
      all_goals
        go_wp2_with fail
        refine bodyPost_ret (v := .agg #[.bool false, .slice A 0 c]) (by simp [results, Tryz.results62, go_sem]) rfl ⟨l.take 0, ?_, ⟨0, rfl⟩, ?_, ?_, ?_⟩
        · rw [HF.out]; simp
        · simpa using top_nil
        · exact Hv.out
        · (repeat' (first | (with_reducible exact Below.refl _ _) | (with_reducible assumption) | (with_reducible refine Below.alloc ?_ ?_ _) | (with_reducible refine Below.setCell ?_ ?_ _) | (with_reducible refine Below.drew ?_) | (with_reducible refine below_drewN ?_ _) | (with_reducible refine below_via ?_ (by with_reducible assumption) ?_) | omega | (simp; done) | (simp; omega)))
    · have d0 : decide ((0 : Int) < (k : Int)) = true := by simpa using (show (0 : Int) < k from by omega)
      have k0 : 0 < k := by omega
      obtain ⟨b1, o1, rfl, hb1, c1⟩ := bit_cell Hr.out (Below.refl w.heap.size w) (Nat.le_refl _) (show k - 1 < l.length from by omega)
      have gx := bit_get Hb.out (k - 1)
      obtain ⟨x, hx⟩ : ∃ x, x = l.getD (k - 1) 0 := ⟨_, rfl⟩
      rw [← hx] at c1 gx
      have Hx := Lib.hid hx
      clear hx
      rcases (show x = 0 ∨ x = 1 from by omega) with h1 | h1
      · subst h1
        go_wp2_with fail
        go_round
        case rel => exact ⟨k - 1, by omega, by go_num, by rw [take_pred_zero k0 Hx.out.symm]; exact Hv.out⟩
        case measure => simp [intOf]; omega
      · subst h1
        have ht := top_take k0 hk Hx.out.symm
        have hlen : (l.take k).length = k := by rw [List.length_take]; omega
        have hp : 0 < val l := by
          rw [← Hv.out]
          exact top_pos (bit_take Hb.out k) ht (fun e => by rw [e] at hlen; simp at hlen; omega)
        have HP := Lib.hid hp
        have HT := Lib.hid ht
        have HL := Lib.hid hlen
        clear hp ht hlen
        cases s
        · go_wp2_with fail
          refine bodyPost_ret (v := .agg #[.bool false, .slice (some ⟨b1, o1, none⟩) k c]) (by simp [results, Tryz.results62, go_sem]) rfl ⟨l.take k, ?_, ⟨k, rfl⟩, HT.out, Hv.out, ?_⟩
          · rw [HL.out]; simp
          · (repeat' (first | (with_reducible exact Below.refl _ _) | (with_reducible assumption) | (with_reducible refine Below.alloc ?_ ?_ _) | (with_reducible refine Below.setCell ?_ ?_ _) | (with_reducible refine Below.drew ?_) | (with_reducible refine below_drewN ?_ _) | (with_reducible refine below_via ?_ (by with_reducible assumption) ?_) | omega | (simp; done) | (simp; omega)))
        · go_wp2_with fail
          refine bodyPost_ret (v := .agg #[.bool true, .slice (some ⟨b1, o1, none⟩) k c]) (by simp [results, Tryz.results62, go_sem]) rfl ⟨l.take k, ?_, ⟨k, rfl⟩, HT.out, Hv.out, ?_⟩
          · rw [HL.out]; simp [HP.out]
          · (repeat' (first | (with_reducible exact Below.refl _ _) | (with_reducible assumption) | (with_reducible refine Below.alloc ?_ ?_ _) | (with_reducible refine Below.setCell ?_ ?_ _) | (with_reducible refine Below.drew ?_) | (with_reducible refine below_drewN ?_ _) | (with_reducible refine below_via ?_ (by with_reducible assumption) ?_) | omega | (simp; done) | (simp; omega)))
end Go.Proofs.YtalgfpegaobacaaGreat

/- Contracts of the reference's Nat, Of. -/
namespace Go.Proofs.YtalgfpegaobacaaGreat
open Go.RowKit
theorem nat_step {l : List Int} {k : Nat} {u n : Int} (hl : l.length = k) (hv : val l + pw k * u = n) : val (l ++ [u % 2]) + pw (k + 1) * (u / 2) = n := by
  rw [val_snoc, hl, pw_succ, Int.add_assoc, digit_step]; exact hv
theorem pw_64 : pw 64 = 18446744073709551616 := by decide
theorem nat_len {l : List Int} {k : Nat} {u n : Int} (hb : Bit l) (hv : val l + pw k * u = n) (hu : 0 < u) (hn : n ≤ 18446744073709551615) : k < 64 := by
  rcases Nat.lt_or_ge k 64 with h | h
  · exact h
  · have h1 := pw_le h
    rw [pw_64] at h1
    have h2 := val_nonneg hb
    have h3 := pw_pos k
    have h4 : pw k * 1 ≤ pw k * u := Int.mul_le_mul_of_nonneg_left (by omega) (by omega)
    omega
def NatPost (w : World) (n : Int) (e : Ending) (w' : World) : Prop :=
  ∃ A l c, e = .returned (.agg #[.bool false, .slice A l.length c]) ∧ IsBig w' n false A l c ∧ l.length ≤ 64 ∧ Below w.heap.size w w'
set_option maxRecDepth 100000 in
set_option maxHeartbeats 1000000 in
theorem bigNat (n : Int) (w : World) (h0 : 0 ≤ n) (h1 : n ≤ 18446744073709551615) :
    Calls Tryz.prog 66 #[.int .u64 n] w (NatPost w n) := by
  go_enter Tryz.func66, Tryz.ntmps66
  go_wp2_with fail
  go_loopw [0, 3] (fun a v wr => ∃ (k : Nat) (l : List Int) (u : Int), a = .int .u64 u ∧ 0 ≤ u ∧ u ≤ n ∧ Own wr (w.heap.size + 1) 5 1 v (l.map encB) ∧ Below (w.heap.size + 1) (w.alloc (.cells #[.bool false, .slice none 0 0] 81)) wr ∧ l.length = k ∧ k ≤ 64 ∧ Bit l ∧ val l + pw k * u = n ∧ (u = 0 → Top l))
    (fun a _ _ => (intOf a).toNat)
  case atStart => exact ⟨0, [], n, rfl, h0, Int.le_refl _, Own.nil _ _ _ _, by (repeat' (first | (with_reducible exact Below.refl _ _) | (with_reducible assumption) | (with_reducible refine Below.alloc ?_ ?_ _) | (with_reducible refine Below.setCell ?_ ?_ _) | (with_reducible refine Below.drew ?_) | (with_reducible refine below_drewN ?_ _) | (with_reducible refine below_via ?_ (by with_reducible assumption) ?_) | omega | (simp; done) | (simp; omega))), rfl, by omega, bit_nil, by simp [val, pw_zero], fun _ => top_nil⟩
  case round =>
    obtain ⟨k, l, u, rfl, u0, u1, hown, hbl, hl, hk, hbit, hval, htop⟩ := hrel
    have Hown := Lib.hid hown
    have Hbl := Lib.hid hbl
    have Hl := Lib.hid hl
    have Hbit := Lib.hid hbit
    have Hval := Lib.hid hval
    have Htop := Lib.hid htop
    have hz := hbl.size
    simp at hz
    clear hown hbl hl hbit hval htop
    by_cases h2 : 0 < u
    · have hk64 := nat_len Hbit.out Hval.out h2 h1
      go_wp2_with (at_builtin; refine wpList_app rfl _ _ _ rfl elB (w.heap.size + 1) _ _ rfl (Hown.out.alloc _) (some ⟨wr.heap.size, 0, none⟩) 1 1 rfl [encB (u % 2)] rfl (fun h => by cases h) rd_one (by simp [encB]; rfl) (by have := Hl.out; unfold maxLen; simp; omega) (by have := Hl.out; simp; omega) (by simp; omega) ?_; intro v' w3 hown3 hb3)
      go_roundw
      case rel => exact ⟨k + 1, l ++ [u % 2], u / 2, by first | rfl | go_num, by omega, by omega, by simpa using hown3, (Hbl.out.alloc (by omega) _).trans hb3, by simp [Hl.out], by omega, bit_snoc Hbit.out (by omega) (by omega), nat_step Hl.out Hval.out, fun h => by
        have : u = 1 := by omega
        subst this
        intro b hb
        simpa using hb.symm⟩
      case measure => simp [intOf]; omega
    · have hu : u = 0 := by omega
      subst hu
      have ht := Htop.out rfl
      have hv := Hval.out
      simp at hv
      obtain ⟨A, c, rfl, hc, hm, hr, _⟩ := Hown.out.shape
      have ho := Hown.out
      have B : IsBig wr n false A l c := ⟨hr, Hbit.out, ht, by rw [hv, iabs_pos h0], by simpa using hc, hm, by simpa using h0⟩
      have HB := Lib.hid B
      have r0 := (Hbl.out.cell (p := ⟨w.heap.size, 0, none⟩) (by simp))
      have r1 := (Hbl.out.cell (p := ⟨w.heap.size, 1, none⟩) (by simp))
      have z0 := (Hbl.out.frozen (p := ⟨w.heap.size, 0, none⟩) (by simp))
      have z1 := (Hbl.out.frozen (p := ⟨w.heap.size, 1, none⟩) (by simp))
      simp at r0 r1 z0 z1
      clear ht hv hc hm hr ho B
      simp only [List.length_map]
      go_wp2_with fail
      refine bodyPost_ret (v := .agg #[.bool false, .slice A l.length c]) (by simp [results, Tryz.results66, go_sem, r0, r1]) rfl ⟨A, l, c, rfl, ?_, by have := Hl.out; omega, ?_⟩
      · have ho := (Hown.out.farLow (p := ⟨w.heap.size, 0, none⟩) (by simp) (.bool false)).farLow (p := ⟨w.heap.size, 1, none⟩) (by simp) (.slice A l.length c)
        simp only [List.length_map] at ho
        have hr := ho.rd.1
        exact ⟨hr, HB.out.bit, HB.out.top, HB.out.val, HB.out.cap, HB.out.room, HB.out.sgn⟩
      · exact (((((Below.refl w.heap.size w).alloc (Nat.le_refl _) _).trans (Hbl.out.mono (by omega)))).setCell (Nat.le_refl _) _).setCell (Nat.le_refl _) _
theorem fieldBigB (s : Bool) (A : Option Addr) (n c : Nat) (w : World) : (Instr.field 81 (.agg #[.bool s, .slice A n c]) 1).run Tryz.prog w = .ok (.slice A n c) w := by kernel_rfl
attribute [local go_sem] fieldBigB
theorem rd_bit1 {w : World} {E : TypeId} : Rd (w.alloc (.cells #[.int .u8 1] E)) (some ⟨w.heap.size, 0, none⟩) 1 ([1].map encB) := by
  simpa [encB] using (rd_one (w := w) (cs := #[.int .u8 1]) (E := E) (k := 1))
set_option maxRecDepth 100000 in
set_option maxHeartbeats 1000000 in
theorem bigOf (n : Int) (w : World) (h : In64 n) :
    Calls Tryz.prog 34 #[.int .i64 n] w (BigPost w n 65) := by
  unfold In64 at h
  by_cases hn : n < 0
  · have hd : decide (n < 0) = true := by simpa using hn
    have ge : decide (0 ≤ n) = false := by simpa using hn
    have HD := Lib.hid hd
    clear hd
    have g1 : -(n + 1) = - n - 1 := by omega
    have na : - n - 1 + 1 = iabs n := by rw [iabs_neg hn]; omega
    have NA := Lib.hid na
    clear na
    go_enter Tryz.func34, Tryz.ntmps34
    go_wp2_with fail
    refine (bigNat (- n - 1) _ (by omega) (by omega)).mono ?_
    rintro e w1 ⟨A, l, c, rfl, hB, hl, hb1⟩
    have HB := Lib.hid hB
    obtain ⟨fc1, fg1, hc1, hf1, hz1⟩ := bget hb1
    simp at hz1
    clear hB
    go_wp2_with fail
    refine (bigPlus l [1] A _ c 1 _ (by omega) (by simp) (HB.out.rd.keep ((Below.refl _ _).alloc (Nat.le_refl _) _)) rd_bit1 HB.out.bit (by intro b hb; simp at hb; subst hb; omega)).mono ?_
    rintro e w2 ⟨v, l2, rfl, hown, hb2, hbit2, hval2, hlen⟩
    obtain ⟨A2, c2, rfl, hc, hm, hr, _⟩ := hown.shape
    have hv : val l2 = iabs n := by rw [hval2, HB.out.val, iabs_pos (by omega), ← NA.out]; simp [val]
    have ht : Top l2 := by
      rcases hlen with h1 | ⟨_, h1⟩
      · have hl1 : l2.length = (max l.length 1 - 1) + 1 := by rw [h1]; simp; omega
        refine top_of_ge hbit2 hl1 ?_
        rw [hval2]
        rcases Nat.eq_zero_or_pos l.length with h0 | h0
        · rw [h0]
          have h3 := val_nonneg HB.out.bit
          simp [val, pw]
          omega
        · have h4 := top_ge HB.out.bit HB.out.top (k := l.length - 1) (by omega)
          rw [Nat.max_eq_left h0]
          simp [val]; omega
      · exact h1
    have B : IsBig w2 n true A2 l2 c2 := ⟨hr, hbit2, ht, hv, by simpa using hc, hm, HD.out.symm⟩
    have HB2 := Lib.hid B
    have hlen2 : l2.length ≤ 65 := by rcases hlen with h1 | ⟨h1, _⟩ <;> simp at h1 <;> omega
    have Hown := Lib.hid hown
    obtain ⟨fc2, fg2, hc2, hf2, hz2⟩ := bget hb2
    simp at hz2
    clear hown B hv ht hlen hval2 hbit2 hr hc hm
    simp only [List.length_map]
    go_wp2_with fail
    refine bodyPost_ret (v := .agg #[.bool true, .slice A2 l2.length c2]) (by simp [results, Tryz.results34, go_sem, hc1, hc2, ↓IntWalk.iteOmega]; try rfl) rfl ⟨true, A2, l2, c2, rfl, ?_, hlen2, ?_⟩
    · have ho := ((Hown.out.farLow (p := ⟨w.heap.size, 0, none⟩) (by simp; omega) (.bool true)).farLow (p := ⟨w.heap.size, 1, none⟩) (by simp; omega) (.slice A2 l2.length c2))
      simp only [List.length_map] at ho
      exact ⟨ho.rd.1, HB2.out.bit, HB2.out.top, HB2.out.val, HB2.out.cap, HB2.out.room, HB2.out.sgn⟩
    · (repeat' (first | (with_reducible exact Below.refl _ _) | (with_reducible assumption) | (with_reducible refine Below.alloc ?_ ?_ _) | (with_reducible refine Below.setCell ?_ ?_ _) | (with_reducible refine Below.drew ?_) | (with_reducible refine below_drewN ?_ _) | (with_reducible refine below_via ?_ (by with_reducible assumption) ?_) | omega | (simp; done) | (simp; omega)))
  · have hd : decide (n < 0) = false := by simpa using hn
    have ge : decide (0 ≤ n) = true := by simp; omega
    have HD := Lib.hid hd
    clear hd
    go_enter Tryz.func34, Tryz.ntmps34
    go_wp2_with fail
    refine (bigNat n _ (by omega) (by omega)).mono ?_
    rintro e w1 ⟨A, l, c, rfl, hB, hl, hb1⟩
    have HB := Lib.hid hB
    obtain ⟨fc1, fg1, hc1, hf1, hz1⟩ := bget hb1
    simp at hz1
    have r0 := hc1 w.heap.size 0
    have r1 := hc1 w.heap.size 1
    rw [if_pos (by simp)] at r0 r1
    simp at r0 r1
    clear hB
    go_wp2_with fail
    refine bodyPost_ret (v := .agg #[.bool false, .slice A l.length c]) (by simp [results, Tryz.results34, go_sem, hc1]; try rfl) rfl ⟨false, A, l, c, rfl, ?_, by omega, ?_⟩
    · exact (HB.out.far r0 (by simp) _).far ((World.cell?_setCell_other _ _ _ _ (by simp)).trans r1) (by simp) _
    · (repeat' (first | (with_reducible exact Below.refl _ _) | (with_reducible assumption) | (with_reducible refine Below.alloc ?_ ?_ _) | (with_reducible refine Below.setCell ?_ ?_ _) | (with_reducible refine Below.drew ?_) | (with_reducible refine below_drewN ?_ _) | (with_reducible refine below_via ?_ (by with_reducible assumption) ?_) | omega | (simp; done) | (simp; omega)))
end Go.Proofs.YtalgfpegaobacaaGreat

/- Contracts of the reference's less, minus. -/
namespace Go.Proofs.YtalgfpegaobacaaGreat
open Go.RowKit
set_option maxRecDepth 100000 in
set_option maxHeartbeats 1000000 in
theorem bigLess (la lb : List Int) (A B : Option Addr) (c d : Nat) (w : World) (hla : la.length ≤ 1048576) (_hlb : lb.length ≤ 1048576) (ha : Rd w A 1 (la.map encB)) (hb : Rd w B 1 (lb.map encB)) (ba : Bit la) (bb : Bit lb) (ta : Top la) (tb : Top lb) :
    Calls Tryz.prog 64 #[.slice A la.length c, .slice B lb.length d] w fun e w' => e = .returned (.bool (decide (val la < val lb))) ∧ Below w.heap.size w w' := by
  by_cases hne : la.length = lb.length
  · have d1 : ((la.length : Int) != (lb.length : Int)) = false := by simp [hne]
    have Ha := Lib.hid ha
    have Hb := Lib.hid hb
    have Ba := Lib.hid ba
    have Bb := Lib.hid bb
    have Hne := Lib.hid hne
    clear ha hb ba bb hne ta tb
    go_enter Tryz.func64, Tryz.ntmps64
    go_wp2_with fail
    go_loopw [5] (fun i wr => ∃ k : Nat, k ≤ la.length ∧ i = .int .i64 k ∧ la.drop k = lb.drop k ∧ ∃ n, wr = w.drewN n) (fun i _ => (intOf i).toNat)
    case atStart => exact ⟨la.length, Nat.le_refl _, rfl, by rw [List.drop_length, Hne.out, List.drop_length], 0, rfl⟩
    case round =>
      obtain ⟨k, hk, rfl, hdr, nn, rfl⟩ := hrel
      have Hdr := Lib.hid hdr
      clear hdr
      by_cases h0 : k = 0
      · subst h0
        have e : la = lb := by have := Hdr.out; simpa using this
        have hf : decide (val la < val lb) = false := by rw [e]; simp
        have HF := Lib.hid hf
        clear e hf
        go_wp2_with fail
        go_ret
        exact ⟨by rw [HF.out]; rfl, by (repeat' (first | (with_reducible exact Below.refl _ _) | (with_reducible assumption) | (with_reducible refine Below.alloc ?_ ?_ _) | (with_reducible refine Below.setCell ?_ ?_ _) | (with_reducible refine Below.drew ?_) | (with_reducible refine below_drewN ?_ _) | (with_reducible refine below_via ?_ (by with_reducible assumption) ?_) | omega | (simp; done) | (simp; omega)))⟩
      · have k0 : 0 < k := by omega
        obtain ⟨b1, o1, rfl, hb1, c1⟩ := bit_cell Ha.out (Below.refl w.heap.size w) (Nat.le_refl _) (show k - 1 < la.length from by omega)
        obtain ⟨b2, o2, rfl, hb2, c2⟩ := bit_cell Hb.out (Below.refl w.heap.size w) (Nat.le_refl _) (show k - 1 < lb.length from by have := Hne.out; omega)
        have gx := bit_get Ba.out (k - 1)
        have gy := bit_get Bb.out (k - 1)
        obtain ⟨x, hx⟩ : ∃ x, x = la.getD (k - 1) 0 := ⟨_, rfl⟩
        obtain ⟨y, hy⟩ : ∃ y, y = lb.getD (k - 1) 0 := ⟨_, rfl⟩
        rw [← hx] at c1 gx
        rw [← hy] at c2 gy
        have Hx := Lib.hid hx
        have Hy := Lib.hid hy
        have kl : (k : Int) ≤ (la.length : Int) := by omega
        have kl2 : (k : Int) ≤ (lb.length : Int) := by have := Hne.out; omega
        clear hx hy
        by_cases hxy : x = y
        · have HXY := Lib.hid hxy
          subst hxy
          go_wp2_with fail
          go_quiet (fail)
          go_wp2_with fail
          go_roundw
          case rel => exact ⟨k - 1, by omega, by go_num, drop_pred k0 (by omega) (by have := Hne.out; omega) (Hx.out.symm.trans Hy.out) Hdr.out, _, rfl⟩
          case measure => simp [intOf]; omega
        · have dn : (x != y) = true := by simpa using hxy
          have hd2 : la.drop (k - 1 + 1) = lb.drop (k - 1 + 1) := by rw [show k - 1 + 1 = k from by omega]; exact Hdr.out
          have hf : decide (val la < val lb) = decide (x < y) := by
            have hle : k - 1 < la.length := by omega
            have hne2 : x < y ∨ y < x := by omega
            rcases hne2 with h1 | h1
            · have := cmp_at Ba.out Bb.out Hne.out hle hd2 (by rw [← Hx.out, ← Hy.out]; exact h1)
              simp [h1, this]
            · have := cmp_at Bb.out Ba.out Hne.out.symm (by have := Hne.out; omega) hd2.symm (by rw [← Hx.out, ← Hy.out]; exact h1)
              have h2 : ¬ val la < val lb := by omega
              have h3 : ¬ x < y := by omega
              simp [h2, h3]
          have HF := Lib.hid hf
          clear hf hd2 hxy
          go_wp2_with fail
          go_quiet (fail)
          go_wp2_with fail
          go_quiet (fail)
          go_wp2_with fail
          go_ret
          exact ⟨by rw [HF.out]; rfl, by (repeat' (first | (with_reducible exact Below.refl _ _) | (with_reducible assumption) | (with_reducible refine Below.alloc ?_ ?_ _) | (with_reducible refine Below.setCell ?_ ?_ _) | (with_reducible refine Below.drew ?_) | (with_reducible refine below_drewN ?_ _) | (with_reducible refine below_via ?_ (by with_reducible assumption) ?_) | omega | (simp; done) | (simp; omega)))⟩
  · have d1 : ((la.length : Int) != (lb.length : Int)) = true := by simp; omega
    have hf : decide (val la < val lb) = decide (la.length < lb.length) := by
      rcases (show la.length < lb.length ∨ lb.length < la.length from by omega) with h1 | h1
      · have := lt_of_len ba bb tb h1
        simp [this, h1]
      · have := lt_of_len bb ba ta h1
        have h2 : ¬ val la < val lb := by omega
        have h3 : ¬ la.length < lb.length := by omega
        simp [h2, h3]
    have HF := Lib.hid hf
    clear hf ha hb ba bb ta tb
    go_enter Tryz.func64, Tryz.ntmps64
    go_wp2_with fail
    go_ret
    exact ⟨by rw [HF.out]; rfl, Below.refl _ _⟩
def MinusPost (w : World) (la lb : List Int) (e : Ending) (w' : World) : Prop :=
  ∃ v l, e = .returned v ∧ Own w' w.heap.size 5 1 v (l.map encB) ∧ Below w.heap.size w w' ∧ Bit l ∧ val l = val la - val lb ∧ l.length = la.length
set_option maxRecDepth 100000 in
set_option maxHeartbeats 2000000 in
theorem bigMinus (la lb : List Int) (A B : Option Addr) (c d : Nat) (w : World) (hla : la.length ≤ 1048576) (hlb : lb.length ≤ la.length) (ha : Rd w A 1 (la.map encB)) (hb : Rd w B 1 (lb.map encB)) (ba : Bit la) (bb : Bit lb) (hab : val lb ≤ val la) :
    Calls Tryz.prog 65 #[.slice A la.length c, .slice B lb.length d] w (MinusPost w la lb) := by
  have Ha := Lib.hid ha
  have Hb := Lib.hid hb
  have Ba := Lib.hid ba
  have Bb := Lib.hid bb
  have Hab := Lib.hid hab
  clear ha hb ba bb hab
  go_enter Tryz.func65, Tryz.ntmps65
  go_wp2_with fail
  go_loopw [5, 6, 7] (fun v cc i wr => ∃ (k : Nat) (l : List Int) (q : Int), k ≤ la.length ∧ i = .int .i64 k ∧ cc = .int .u8 q ∧ 0 ≤ q ∧ q ≤ 1 ∧ Own wr w.heap.size 5 1 v (l.map encB) ∧ Below w.heap.size w wr ∧ l.length = k ∧ Bit l ∧ val l = val (la.take k) - val (lb.take k) + pw k * q)
    (fun _ _ i _ => la.length - (intOf i).toNat)
  case atStart => exact ⟨0, [], 0, Nat.zero_le _, rfl, rfl, by omega, by omega, Own.nil _ _ _ _, Below.refl _ _, rfl, bit_nil, by simp [val]⟩
  case round =>
    obtain ⟨k, l, q, hk, rfl, rfl, q0, q1, hown, hbl, hl, hbit, hval⟩ := hrel
    have Hown := Lib.hid hown
    have Hbl := Lib.hid hbl
    have Hl := Lib.hid hl
    have Hbit := Lib.hid hbit
    have Hval := Lib.hid hval
    have hz := hbl.size
    have ga := bit_get Ba.out k
    have gb := bit_get Bb.out k
    have Ea := Lib.hid (take_succD la k)
    have Eb := Lib.hid (take_succD lb k)
    clear hown hbl hl hbit hval
    obtain ⟨x, hx⟩ : ∃ x, x = la.getD k 0 := ⟨_, rfl⟩
    obtain ⟨y, hy⟩ : ∃ y, y = lb.getD k 0 := ⟨_, rfl⟩
    by_cases h1 : k < la.length
    · obtain ⟨b1, o1, rfl, hb1, c1⟩ := bit_cell Ha.out Hbl.out (Nat.le_refl _) h1
      rw [← hx] at ga c1 Ea
      rw [← hy] at gb Eb
      have Hx := Lib.hid hx
      clear hx
      by_cases h2 : k < lb.length
      · obtain ⟨b2, o2, rfl, hb2, c2⟩ := bit_cell Hb.out Hbl.out (Nat.le_refl _) h2
        rw [← hy] at c2
        have Hy := Lib.hid hy
        clear hy
        by_cases h3 : x + 2 - (q + y) < 2
        · go_wp2_with (at_builtin; refine wpList_app rfl _ _ _ rfl elB w.heap.size _ _ rfl (Hown.out.alloc _) (some ⟨wr.heap.size, 0, none⟩) 1 1 rfl [encB ((x + 2 - (q + y)) % 2)] rfl (fun h => by cases h) rd_one (by simp [encB]; rfl) (by have := Hl.out; unfold maxLen; simp; omega) (by have := Hl.out; simp; omega) (by simp; omega) ?_; intro v' w3 hown3 hb3)
          go_roundw
          case rel => exact ⟨k + 1, l ++ [(x + 2 - (q + y)) % 2], 1, by omega, by go_num, rfl, by omega, by omega, by simpa using hown3, (Hbl.out.alloc hz _).trans hb3, by simp [Hl.out], bit_snoc Hbit.out (by omega) (by omega), minus_step Hl.out Hval.out Ea.out Eb.out (by omega)⟩
          case measure => simp [intOf]; omega
        · go_wp2_with (at_builtin; refine wpList_app rfl _ _ _ rfl elB w.heap.size _ _ rfl (Hown.out.alloc _) (some ⟨wr.heap.size, 0, none⟩) 1 1 rfl [encB ((x + 2 - (q + y)) % 2)] rfl (fun h => by cases h) rd_one (by simp [encB]; rfl) (by have := Hl.out; unfold maxLen; simp; omega) (by have := Hl.out; simp; omega) (by simp; omega) ?_; intro v' w3 hown3 hb3)
          go_roundw
          case rel => exact ⟨k + 1, l ++ [(x + 2 - (q + y)) % 2], 0, by omega, by go_num, rfl, by omega, by omega, by simpa using hown3, (Hbl.out.alloc hz _).trans hb3, by simp [Hl.out], bit_snoc Hbit.out (by omega) (by omega), minus_step Hl.out Hval.out Ea.out Eb.out (by omega)⟩
          case measure => simp [intOf]; omega
      · have hy0 : y = 0 := by rw [hy, List.getD_eq_getElem?_getD, List.getElem?_eq_none (by omega)]; rfl
        subst hy0
        clear hy
        have d2 : decide ((k : Int) < (lb.length : Int)) = false := by simpa using h2
        by_cases h3 : x + 2 - q < 2
        · go_wp2_with (at_builtin; refine wpList_app rfl _ _ _ rfl elB w.heap.size _ _ rfl (Hown.out.alloc _) (some ⟨wr.heap.size, 0, none⟩) 1 1 rfl [encB ((x + 2 - q) % 2)] rfl (fun h => by cases h) rd_one (by simp [encB]; rfl) (by have := Hl.out; unfold maxLen; simp; omega) (by have := Hl.out; simp; omega) (by simp; omega) ?_; intro v' w3 hown3 hb3)
          go_roundw
          case rel => exact ⟨k + 1, l ++ [(x + 2 - (q + 0)) % 2], 1, by omega, by go_num, rfl, by omega, by omega, by simpa using hown3, (Hbl.out.alloc hz _).trans hb3, by simp [Hl.out], bit_snoc Hbit.out (by omega) (by omega), minus_step Hl.out Hval.out Ea.out Eb.out (by omega)⟩
          case measure => simp [intOf]; omega
        · go_wp2_with (at_builtin; refine wpList_app rfl _ _ _ rfl elB w.heap.size _ _ rfl (Hown.out.alloc _) (some ⟨wr.heap.size, 0, none⟩) 1 1 rfl [encB ((x + 2 - q) % 2)] rfl (fun h => by cases h) rd_one (by simp [encB]; rfl) (by have := Hl.out; unfold maxLen; simp; omega) (by have := Hl.out; simp; omega) (by simp; omega) ?_; intro v' w3 hown3 hb3)
          go_roundw
          case rel => exact ⟨k + 1, l ++ [(x + 2 - (q + 0)) % 2], 0, by omega, by go_num, rfl, by omega, by omega, by simpa using hown3, (Hbl.out.alloc hz _).trans hb3, by simp [Hl.out], bit_snoc Hbit.out (by omega) (by omega), minus_step Hl.out Hval.out Ea.out Eb.out (by omega)⟩
          case measure => simp [intOf]; omega
    · have hkm : k = la.length := by omega
      have hv := Hval.out
      rw [List.take_of_length_le (by omega), List.take_of_length_le (by omega)] at hv
      have hlt := val_lt Hbit.out
      rw [Hl.out] at hlt
      have h0 := Hab.out
      have hq : q = 0 := by
        rcases (show q = 0 ∨ q = 1 from by omega) with h | h
        · exact h
        · subst h; omega
      subst hq
      have HV := Lib.hid hv
      have HK := Lib.hid hkm
      clear hv hlt h0 hkm ga gb hx hy
      go_wp2_with fail
      go_ret
      exact ⟨u5, l, rfl, Hown.out, Hbl.out, Hbit.out, by have := HV.out; simpa using this, by rw [Hl.out, HK.out]⟩
end Go.Proofs.YtalgfpegaobacaaGreat
