/- Contracts of the reference's trim, Nat, Of. -/
import Derived.Test.YtenehpcliajdnaaBig1
import Derived.Test.YtenehpcliajdnaaWide1
namespace Go.Proofs.Ytenehpcliajdnaa
open Go.RowKit
/-- A whole number without bounds, as it lies in memory. -/
structure IsBig (w : World) (n : Int) (s : Bool) (A : Option Addr) (l : List Int) (c : Nat) : Prop where
  rd : Rd w A 1 (l.map encB)
  bit : Bit l
  top : Top l
  val : val l = iabs n
  cap : l.length ≤ c
  room : c ≤ maxLen
  sgn : s = decide (n < 0)
theorem IsBig.keep {w w' : World} {n : Int} {s : Bool} {A : Option Addr} {l : List Int} {c : Nat} (h : IsBig w n s A l c) (hb : Below w.heap.size w w') : IsBig w' n s A l c := ⟨h.rd.keep hb, h.bit, h.top, h.val, h.cap, h.room, h.sgn⟩
theorem IsBig.far {w : World} {n : Int} {s : Bool} {A : Option Addr} {l : List Int} {c : Nat} (h : IsBig w n s A l c) {p : Addr} {v0 : Value} (hp : w.cell? p = some v0) (hne : ∀ k x, v0 ≠ .int k x) (u : Value) : IsBig (w.setCell p u) n s A l c :=
  ⟨h.rd.far hp (fun r hr hm => by
    obtain ⟨b, _, rfl⟩ := List.mem_map.1 hr
    simp [encB] at hm
    exact hne _ _ hm) u, h.bit, h.top, h.val, h.cap, h.room, h.sgn⟩
def BigPost (w : World) (n : Int) (L : Nat) (e : Ending) (w' : World) : Prop :=
  ∃ s A l c, e = .returned (.agg #[.bool s, .slice A l.length c]) ∧ IsBig w' n s A l c ∧ l.length ≤ L ∧ Below w.heap.size w w'
def TrimPost (w : World) (A : Option Addr) (c : Nat) (s : Bool) (l : List Int) (e : Ending) (w' : World) : Prop :=
  ∃ l2, e = .returned (.agg #[.bool (s && decide (0 < val l)), .slice A l2.length c]) ∧ (∃ k, l2 = l.take k) ∧ Top l2 ∧ val l2 = val l ∧ Below w.heap.size w w'
theorem Rd.take {w : World} {A : Option Addr} {l : List Int} (h : Rd w A 1 (l.map encB)) (k : Nat) : Rd w A 1 ((l.take k).map encB) := by
  intro i r hr
  rw [List.map_take, List.getElem?_take] at hr
  split at hr
  · exact h i r hr
  · cases hr
theorem trim_big {w : World} {n : Int} {s : Bool} {A : Option Addr} {l l2 : List Int} {c : Nat} (hr : Rd w A 1 (l.map encB)) (hb : Bit l) (hk : ∃ k, l2 = l.take k) (ht : Top l2) (hv : val l2 = val l) (hn : val l = iabs n) (hc : l.length ≤ c) (hm : c ≤ maxLen) (hs : s = decide (n < 0)) : IsBig w n s A l2 c := by
  obtain ⟨k, rfl⟩ := hk
  exact ⟨hr.take k, bit_take hb k, ht, hv.trans hn, by rw [List.length_take]; omega, hm, hs⟩
theorem trim_len {l l2 : List Int} (hk : ∃ k, l2 = l.take k) : l2.length ≤ l.length := by
  obtain ⟨k, rfl⟩ := hk
  rw [List.length_take]; omega
theorem take_pred_zero {l : List Int} {k : Nat} (h0 : 0 < k) (hx : l.getD (k - 1) 0 = 0) : val (l.take (k - 1)) = val (l.take k) := by
  have := take_succD l (k - 1)
  rw [show k - 1 + 1 = k from by omega, hx] at this
  simp at this
  exact this.symm
theorem top_take {l : List Int} {k : Nat} (h0 : 0 < k) (hk : k ≤ l.length) (hx : l.getD (k - 1) 0 = 1) : Top (l.take k) := by
  intro b hb
  rw [List.getLast?_eq_getElem?, List.length_take, Nat.min_eq_left hk, List.getElem?_take, if_pos (by omega)] at hb
  rw [List.getD_eq_getElem?_getD, hb] at hx
  exact hx
set_option maxRecDepth 100000 in
set_option maxHeartbeats 1000000 in
theorem bigTrim (s : Bool) (l : List Int) (A : Option Addr) (c : Nat) (w : World) (_hl : l.length ≤ 1048576) (hr : Rd w A 1 (l.map encB)) (hb : Bit l) (hc : l.length ≤ c) (hm : c ≤ maxLen) :
    Calls Try.prog 46 #[.bool s, .slice A l.length c] w (TrimPost w A c s l) := by
  unfold maxLen at hm
  have Hr := Lib.hid hr
  have Hb := Lib.hid hb
  clear hr hb
  go_enter Try.func46, Try.ntmps46
  go_wp2_with fail
  go_loop [5] (fun i => ∃ k : Nat, k ≤ l.length ∧ i = .int .i64 k ∧ val (l.take k) = val l) (fun i => (intOf i).toNat)
  case atStart => exact ⟨l.length, Nat.le_refl _, rfl, by rw [List.take_length]⟩
  case round =>
    obtain ⟨k, hk, rfl, hv⟩ := hrel
    have Hv := Lib.hid hv
    clear hv
    by_cases h0 : k = 0
    · subst h0
      have hz := Hv.out
      simp [val] at hz
      have hf : decide (0 < val l) = false := by rw [← hz]; rfl
      have HF := Lib.hid hf
      clear hz hf
      cases s
      all_goals
        go_wp2_with fail
        refine bodyPost_ret (v := .agg #[.bool false, .slice A 0 c]) (by simp [results, Try.results46, go_sem]) rfl ⟨l.take 0, ?_, ⟨0, rfl⟩, ?_, ?_, ?_⟩
        · rw [HF.out]; simp
        · simpa using top_nil
        · exact Hv.out
        · (repeat' (first | (with_reducible exact Below.refl _ _) | (with_reducible assumption) | (with_reducible refine Below.alloc ?_ ?_ _) | (with_reducible refine Below.setCell ?_ ?_ _) | (with_reducible refine Below.drew ?_) | (with_reducible refine below_drewN ?_ _) | (with_reducible refine below_via ?_ (by with_reducible assumption) ?_) | omega | (simp; done) | (simp; omega)))
    · have d0 : decide ((0 : Int) < (k : Int)) = true := by simpa using (show (0 : Int) < k from by omega)
      have k0 : 0 < k := by omega
      obtain ⟨b1, o1, rfl, hb1, c1⟩ := bit_cell Hr.out (Below.refl w.heap.size w) (Nat.le_refl _) (show k - 1 < l.length from by omega)
      have gx := bit_get Hb.out (k - 1)
      obtain ⟨x, hx⟩ : ∃ x, x = l.getD (k - 1) 0 := ⟨_, rfl⟩
      rw [← hx] at c1 gx
      have Hx := Lib.hid hx
      clear hx
      rcases (show x = 0 ∨ x = 1 from by omega) with h1 | h1
      · subst h1
        go_wp2_with fail
        go_round
        case rel => exact ⟨k - 1, by omega, by go_num, by rw [take_pred_zero k0 Hx.out.symm]; exact Hv.out⟩
        case measure => simp [intOf]; omega
      · subst h1
        have ht := top_take k0 hk Hx.out.symm
        have hlen : (l.take k).length = k := by rw [List.length_take]; omega
        have hp : 0 < val l := by
          rw [← Hv.out]
          exact top_pos (bit_take Hb.out k) ht (fun e => by rw [e] at hlen; simp at hlen; omega)
        have HP := Lib.hid hp
        have HT := Lib.hid ht
        have HL := Lib.hid hlen
        clear hp ht hlen
        cases s
        · go_wp2_with fail
          refine bodyPost_ret (v := .agg #[.bool false, .slice (some ⟨b1, o1, none⟩) k c]) (by simp [results, Try.results46, go_sem]) rfl ⟨l.take k, ?_, ⟨k, rfl⟩, HT.out, Hv.out, ?_⟩
          · rw [HL.out]; simp
          · (repeat' (first | (with_reducible exact Below.refl _ _) | (with_reducible assumption) | (with_reducible refine Below.alloc ?_ ?_ _) | (with_reducible refine Below.setCell ?_ ?_ _) | (with_reducible refine Below.drew ?_) | (with_reducible refine below_drewN ?_ _) | (with_reducible refine below_via ?_ (by with_reducible assumption) ?_) | omega | (simp; done) | (simp; omega)))
        · go_wp2_with fail
          refine bodyPost_ret (v := .agg #[.bool true, .slice (some ⟨b1, o1, none⟩) k c]) (by simp [results, Try.results46, go_sem]) rfl ⟨l.take k, ?_, ⟨k, rfl⟩, HT.out, Hv.out, ?_⟩
          · rw [HL.out]; simp [HP.out]
          · (repeat' (first | (with_reducible exact Below.refl _ _) | (with_reducible assumption) | (with_reducible refine Below.alloc ?_ ?_ _) | (with_reducible refine Below.setCell ?_ ?_ _) | (with_reducible refine Below.drew ?_) | (with_reducible refine below_drewN ?_ _) | (with_reducible refine below_via ?_ (by with_reducible assumption) ?_) | omega | (simp; done) | (simp; omega)))
end Go.Proofs.Ytenehpcliajdnaa
