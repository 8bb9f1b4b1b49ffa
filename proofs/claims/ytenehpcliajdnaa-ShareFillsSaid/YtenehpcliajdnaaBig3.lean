/- Contracts of the reference's Nat, Of. -/
import Derived.Test.YtenehpcliajdnaaBig2
namespace Go.Proofs.Ytenehpcliajdnaa
open Go.RowKit
theorem nat_step {l : List Int} {k : Nat} {u n : Int} (hl : l.length = k) (hv : val l + pw k * u = n) : val (l ++ [u % 2]) + pw (k + 1) * (u / 2) = n := by
  rw [val_snoc, hl, pw_succ, Int.add_assoc, digit_step]; exact hv
theorem pw_64 : pw 64 = 18446744073709551616 := by decide
theorem nat_len {l : List Int} {k : Nat} {u n : Int} (hb : Bit l) (hv : val l + pw k * u = n) (hu : 0 < u) (hn : n ≤ 18446744073709551615) : k < 64 := by
  rcases Nat.lt_or_ge k 64 with h | h
  · exact h
  · have h1 := pw_le h
    rw [pw_64] at h1
    have h2 := val_nonneg hb
    have h3 := pw_pos k
    have h4 : pw k * 1 ≤ pw k * u := Int.mul_le_mul_of_nonneg_left (by omega) (by omega)
    omega
def NatPost (w : World) (n : Int) (e : Ending) (w' : World) : Prop :=
  ∃ A l c, e = .returned (.agg #[.bool false, .slice A l.length c]) ∧ IsBig w' n false A l c ∧ l.length ≤ 64 ∧ Below w.heap.size w w'
set_option maxRecDepth 100000 in
set_option maxHeartbeats 1000000 in
theorem bigNat (n : Int) (w : World) (h0 : 0 ≤ n) (h1 : n ≤ 18446744073709551615) :
    Calls Try.prog 50 #[.int .u64 n] w (NatPost w n) := by
  go_enter Try.func50, Try.ntmps50
  go_wp2_with fail
  go_loopw [0, 3] (fun a v wr => ∃ (k : Nat) (l : List Int) (u : Int), a = .int .u64 u ∧ 0 ≤ u ∧ u ≤ n ∧ Own wr (w.heap.size + 1) 5 1 v (l.map encB) ∧ Below (w.heap.size + 1) (w.alloc (.cells #[.bool false, .slice none 0 0] 30)) wr ∧ l.length = k ∧ k ≤ 64 ∧ Bit l ∧ val l + pw k * u = n ∧ (u = 0 → Top l))
    (fun a _ _ => (intOf a).toNat)
  case atStart => exact ⟨0, [], n, rfl, h0, Int.le_refl _, Own.nil _ _ _ _, by (repeat' (first | (with_reducible exact Below.refl _ _) | (with_reducible assumption) | (with_reducible refine Below.alloc ?_ ?_ _) | (with_reducible refine Below.setCell ?_ ?_ _) | (with_reducible refine Below.drew ?_) | (with_reducible refine below_drewN ?_ _) | (with_reducible refine below_via ?_ (by with_reducible assumption) ?_) | omega | (simp; done) | (simp; omega))), rfl, by omega, bit_nil, by simp [val, pw_zero], fun _ => top_nil⟩
  case round =>
    obtain ⟨k, l, u, rfl, u0, u1, hown, hbl, hl, hk, hbit, hval, htop⟩ := hrel
    have Hown := Lib.hid hown
    have Hbl := Lib.hid hbl
    have Hl := Lib.hid hl
    have Hbit := Lib.hid hbit
    have Hval := Lib.hid hval
    have Htop := Lib.hid htop
    have hz := hbl.size
    simp at hz
    clear hown hbl hl hbit hval htop
    by_cases h2 : 0 < u
    · have hk64 := nat_len Hbit.out Hval.out h2 h1
      go_wp2_with (at_builtin; refine wpList_app rfl _ _ _ rfl elB (w.heap.size + 1) _ _ rfl (Hown.out.alloc _) (some ⟨wr.heap.size, 0, none⟩) 1 1 rfl [encB (u % 2)] rfl (fun h => by cases h) rd_one (by simp [encB]; rfl) (by have := Hl.out; unfold maxLen; simp; omega) (by have := Hl.out; simp; omega) (by simp; omega) ?_; intro v' w3 hown3 hb3)
      go_roundw
      case rel => exact ⟨k + 1, l ++ [u % 2], u / 2, by first | rfl | go_num, by omega, by omega, by simpa using hown3, (Hbl.out.alloc (by omega) _).trans hb3, by simp [Hl.out], by omega, bit_snoc Hbit.out (by omega) (by omega), nat_step Hl.out Hval.out, fun h => by
        have : u = 1 := by omega
        subst this
        intro b hb
        simpa using hb.symm⟩
      case measure => simp [intOf]; omega
    · have hu : u = 0 := by omega
      subst hu
      have ht := Htop.out rfl
      have hv := Hval.out
      simp at hv
      obtain ⟨A, c, rfl, hc, hm, hr, _⟩ := Hown.out.shape
      have ho := Hown.out
      have B : IsBig wr n false A l c := ⟨hr, Hbit.out, ht, by rw [hv, iabs_pos h0], by simpa using hc, hm, by simpa using h0⟩
      have HB := Lib.hid B
      have r0 := (Hbl.out.cell (p := ⟨w.heap.size, 0, none⟩) (by simp))
      have r1 := (Hbl.out.cell (p := ⟨w.heap.size, 1, none⟩) (by simp))
      have z0 := (Hbl.out.frozen (p := ⟨w.heap.size, 0, none⟩) (by simp))
      have z1 := (Hbl.out.frozen (p := ⟨w.heap.size, 1, none⟩) (by simp))
      simp at r0 r1 z0 z1
      clear ht hv hc hm hr ho B
      simp only [List.length_map]
      go_wp2_with fail
      refine bodyPost_ret (v := .agg #[.bool false, .slice A l.length c]) (by simp [results, Try.results50, go_sem, r0, r1]) rfl ⟨A, l, c, rfl, ?_, by have := Hl.out; omega, ?_⟩
      · have ho := (Hown.out.farLow (p := ⟨w.heap.size, 0, none⟩) (by simp) (.bool false)).farLow (p := ⟨w.heap.size, 1, none⟩) (by simp) (.slice A l.length c)
        simp only [List.length_map] at ho
        have hr := ho.rd.1
        exact ⟨hr, HB.out.bit, HB.out.top, HB.out.val, HB.out.cap, HB.out.room, HB.out.sgn⟩
      · exact (((((Below.refl w.heap.size w).alloc (Nat.le_refl _) _).trans (Hbl.out.mono (by omega)))).setCell (Nat.le_refl _) _).setCell (Nat.le_refl _) _
theorem fieldBigB (s : Bool) (A : Option Addr) (n c : Nat) (w : World) : (Instr.field 30 (.agg #[.bool s, .slice A n c]) 1).run Try.prog w = .ok (.slice A n c) w := by kernel_rfl
attribute [local go_sem] fieldBigB
theorem rd_bit1 {w : World} {E : TypeId} : Rd (w.alloc (.cells #[.int .u8 1] E)) (some ⟨w.heap.size, 0, none⟩) 1 ([1].map encB) := by
  simpa [encB] using (rd_one (w := w) (cs := #[.int .u8 1]) (E := E) (k := 1))
set_option maxRecDepth 100000 in
set_option maxHeartbeats 1000000 in
theorem bigOf (n : Int) (w : World) (h : In64 n) :
    Calls Try.prog 16 #[.int .i64 n] w (BigPost w n 65) := by
  unfold In64 at h
  by_cases hn : n < 0
  · have hd : decide (n < 0) = true := by simpa using hn
    have ge : decide (0 ≤ n) = false := by simpa using hn
    have HD := Lib.hid hd
    clear hd
    have g1 : -(n + 1) = - n - 1 := by omega
    have na : - n - 1 + 1 = iabs n := by rw [iabs_neg hn]; omega
    have NA := Lib.hid na
    clear na
    go_enter Try.func16, Try.ntmps16
    go_wp2_with fail
    refine (bigNat (- n - 1) _ (by omega) (by omega)).mono ?_
    rintro e w1 ⟨A, l, c, rfl, hB, hl, hb1⟩
    have HB := Lib.hid hB
    obtain ⟨fc1, fg1, hc1, hf1, hz1⟩ := bget hb1
    simp at hz1
    clear hB
    go_wp2_with fail
    refine (bigPlus l [1] A _ c 1 _ (by omega) (by simp) (HB.out.rd.keep ((Below.refl _ _).alloc (Nat.le_refl _) _)) rd_bit1 HB.out.bit (by intro b hb; simp at hb; subst hb; omega)).mono ?_
    rintro e w2 ⟨v, l2, rfl, hown, hb2, hbit2, hval2, hlen⟩
    obtain ⟨A2, c2, rfl, hc, hm, hr, _⟩ := hown.shape
    have hv : val l2 = iabs n := by rw [hval2, HB.out.val, iabs_pos (by omega), ← NA.out]; simp [val]
    have ht : Top l2 := by
      rcases hlen with h1 | ⟨_, h1⟩
      · have hl1 : l2.length = (max l.length 1 - 1) + 1 := by rw [h1]; simp; omega
        refine top_of_ge hbit2 hl1 ?_
        rw [hval2]
        rcases Nat.eq_zero_or_pos l.length with h0 | h0
        · rw [h0]
          have h3 := val_nonneg HB.out.bit
          simp [val, pw]
          omega
        · have h4 := top_ge HB.out.bit HB.out.top (k := l.length - 1) (by omega)
          rw [Nat.max_eq_left h0]
          simp [val]; omega
      · exact h1
    have B : IsBig w2 n true A2 l2 c2 := ⟨hr, hbit2, ht, hv, by simpa using hc, hm, HD.out.symm⟩
    have HB2 := Lib.hid B
    have hlen2 : l2.length ≤ 65 := by rcases hlen with h1 | ⟨h1, _⟩ <;> simp at h1 <;> omega
    have Hown := Lib.hid hown
    obtain ⟨fc2, fg2, hc2, hf2, hz2⟩ := bget hb2
    simp at hz2
    clear hown B hv ht hlen hval2 hbit2 hr hc hm
    simp only [List.length_map]
    go_wp2_with fail
    refine bodyPost_ret (v := .agg #[.bool true, .slice A2 l2.length c2]) (by simp [results, Try.results16, go_sem, hc1, hc2, ↓IntWalk.iteOmega]; try rfl) rfl ⟨true, A2, l2, c2, rfl, ?_, hlen2, ?_⟩
    · have ho := ((Hown.out.farLow (p := ⟨w.heap.size, 0, none⟩) (by simp; omega) (.bool true)).farLow (p := ⟨w.heap.size, 1, none⟩) (by simp; omega) (.slice A2 l2.length c2))
      simp only [List.length_map] at ho
      exact ⟨ho.rd.1, HB2.out.bit, HB2.out.top, HB2.out.val, HB2.out.cap, HB2.out.room, HB2.out.sgn⟩
    · (repeat' (first | (with_reducible exact Below.refl _ _) | (with_reducible assumption) | (with_reducible refine Below.alloc ?_ ?_ _) | (with_reducible refine Below.setCell ?_ ?_ _) | (with_reducible refine Below.drew ?_) | (with_reducible refine below_drewN ?_ _) | (with_reducible refine below_via ?_ (by with_reducible assumption) ?_) | omega | (simp; done) | (simp; omega)))
  · have hd : decide (n < 0) = false := by simpa using hn
    have ge : decide (0 ≤ n) = true := by simp; omega
    have HD := Lib.hid hd
    clear hd
    go_enter Try.func16, Try.ntmps16
    go_wp2_with fail
    refine (bigNat n _ (by omega) (by omega)).mono ?_
    rintro e w1 ⟨A, l, c, rfl, hB, hl, hb1⟩
    have HB := Lib.hid hB
    obtain ⟨fc1, fg1, hc1, hf1, hz1⟩ := bget hb1
    simp at hz1
    have r0 := hc1 w.heap.size 0
    have r1 := hc1 w.heap.size 1
    rw [if_pos (by simp)] at r0 r1
    simp at r0 r1
    clear hB
    go_wp2_with fail
    refine bodyPost_ret (v := .agg #[.bool false, .slice A l.length c]) (by simp [results, Try.results16, go_sem, hc1]; try rfl) rfl ⟨false, A, l, c, rfl, ?_, by omega, ?_⟩
    · exact (HB.out.far r0 (by simp) _).far ((World.cell?_setCell_other _ _ _ _ (by simp)).trans r1) (by simp) _
    · (repeat' (first | (with_reducible exact Below.refl _ _) | (with_reducible assumption) | (with_reducible refine Below.alloc ?_ ?_ _) | (with_reducible refine Below.setCell ?_ ?_ _) | (with_reducible refine Below.drew ?_) | (with_reducible refine below_drewN ?_ _) | (with_reducible refine below_via ?_ (by with_reducible assumption) ?_) | omega | (simp; done) | (simp; omega)))
end Go.Proofs.Ytenehpcliajdnaa
