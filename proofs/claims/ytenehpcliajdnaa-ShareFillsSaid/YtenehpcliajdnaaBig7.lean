/- Contracts of the reference's Within, Fits, Int. -/
import Derived.Test.YtenehpcliajdnaaBig6
import Derived.Test.YtenehpcliajdnaaSl
import Derived.Outline
import Derived.Deep.RegionWith
namespace Go.Proofs.Ytenehpcliajdnaa
open Go.RowKit
def inW (a : Int) (n : Nat) : Bool := decide (- pw (n - 1) ≤ a ∧ a < pw (n - 1))
theorem len_lt_iff {l : List Int} (h : Bit l) (ht : Top l) {n : Nat} (hn : 1 ≤ n) : l.length < n ↔ Go.Proofs.Ytenehpcliajdnaa.val l < pw (n - 1) := by
  constructor
  · intro h1
    have := val_lt h
    have := pw_le (show l.length ≤ n - 1 by omega)
    omega
  · intro h1
    have := len_le h ht h1
    omega
theorem inW_pos {w : World} {a : Int} {A : Option Addr} {l : List Int} {c : Nat} (h : IsBig w a false A l c) {n : Nat} (hn : 1 ≤ n) : decide (l.length < n) = inW a n := by
  have ha : 0 ≤ a := by have := h.sgn; simpa using this
  have h1 := len_lt_iff h.bit h.top hn
  have h2 := h.val
  have h3 := pw_pos (n - 1)
  rw [iabs_pos ha] at h2
  unfold inW
  rw [decide_eq_decide]
  omega
theorem inW_neg {w : World} {a : Int} {s : Bool} {A : Option Addr} {l : List Int} {c : Nat} (ha : a < 0) (h : IsBig w (a + 1) s A l c) {n : Nat} (hn : 1 ≤ n) : decide (l.length < n) = inW a n := by
  have h1 := len_lt_iff h.bit h.top hn
  have h2 := h.val
  have h3 := pw_pos (n - 1)
  have h4 : iabs (a + 1) = - (a + 1) := by unfold iabs; split <;> omega
  rw [h4] at h2
  unfold inW
  rw [decide_eq_decide]
  omega
set_option maxRecDepth 100000 in
set_option maxHeartbeats 2000000 in
theorem bigWithin (a : Int) (n : Nat) (s : Bool) (l : List Int) (A : Option Addr) (c L : Nat) (w : World) (hL : L ≤ 900000) (hl : l.length ≤ L) (hn : 1 ≤ n ∧ n ≤ 1000) (ha : IsBig w a s A l c) :
    Calls Try.prog 77 #[.agg #[.bool s, .slice A l.length c], .int .i64 n] w fun e w' => e = .returned (.bool (inW a n)) ∧ Below w.heap.size w w' := by
  have HA := Lib.hid ha
  have hs := ha.sgn
  clear ha
  cases s
  · have HI := Lib.hid (inW_pos HA.out hn.1)
    clear hs
    go_enter Try.func77, Try.ntmps77
    go_wp2_with fail
    go_ret
    exact ⟨by rw [← HI.out]; rfl, by (repeat' (first | (with_reducible exact Below.refl _ _) | (with_reducible assumption) | (with_reducible refine Below.alloc ?_ ?_ _) | (with_reducible refine Below.setCell ?_ ?_ _) | (with_reducible refine Below.drew ?_) | (with_reducible refine below_drewN ?_ _) | (with_reducible refine below_via ?_ (by with_reducible assumption) ?_) | omega | (simp; done) | (simp; omega)))⟩
  · have HN : Hid (a < 0) := by unfold Hid; simpa using hs.symm
    clear hs
    go_enter Try.func77, Try.ntmps77
    go_wp2_with fail
    go_region_with (first | (go_at_call 50; (with_reducible refine (bigNat 1 _ (by omega) (by omega)).mono ?_); rintro e w1 ⟨A1, l1, c1, rfl, hB1, hl1', hb1⟩; have HB1 := Lib.hid hB1; clear hB1; obtain ⟨fc1, fg1, hc1, hf1, hz1⟩ := bget hb1; (try simp at hz1)) | (go_at_call 14; (with_reducible refine (bigAdd a 1 true false l l1 A A1 c c1 (L + 64) _ (by omega) (by omega) (by omega) (HA.out.keep (by (repeat' (first | (with_reducible exact Below.refl _ _) | (with_reducible assumption) | (with_reducible refine Below.alloc ?_ ?_ _) | (with_reducible refine Below.setCell ?_ ?_ _) | (with_reducible refine Below.drew ?_) | (with_reducible refine below_drewN ?_ _) | (with_reducible refine below_via ?_ (by with_reducible assumption) ?_) | omega | (simp; done) | (simp; omega))))) (HB1.out.keep (by (repeat' (first | (with_reducible exact Below.refl _ _) | (with_reducible assumption) | (with_reducible refine Below.alloc ?_ ?_ _) | (with_reducible refine Below.setCell ?_ ?_ _) | (with_reducible refine Below.drew ?_) | (with_reducible refine below_drewN ?_ _) | (with_reducible refine below_via ?_ (by with_reducible assumption) ?_) | omega | (simp; done) | (simp; omega)))))).mono ?_); rintro e w2 ⟨s2, A2, l2, c2, rfl, hB2, hl2, hb2⟩; have HB2 := Lib.hid hB2; clear hB2; obtain ⟨fc2, fg2, hc2, hf2, hz2⟩ := bget hb2; (try simp at hz2)))
    all_goals
      have HI := Lib.hid (inW_neg HN.out HB2.out hn.1)
      go_wp2_with fail
      go_ret
      exact ⟨by rw [← HI.out]; rfl, by (repeat' (first | (with_reducible exact Below.refl _ _) | (with_reducible assumption) | (with_reducible refine Below.alloc ?_ ?_ _) | (with_reducible refine Below.setCell ?_ ?_ _) | (with_reducible refine Below.drew ?_) | (with_reducible refine below_drewN ?_ _) | (with_reducible refine below_via ?_ (by with_reducible assumption) ?_) | omega | (simp; done) | (simp; omega)))⟩
theorem inW_64 (a : Int) : inW a 64 = decide (-9223372036854775808 ≤ a ∧ a ≤ 9223372036854775807) := by
  unfold inW
  rw [show pw (64 - 1) = 9223372036854775808 from by decide, decide_eq_decide]
  omega
theorem inW_128 (a : Int) : inW a 128 = in128 a := by
  unfold inW in128
  rw [show pw (128 - 1) = 170141183460469231731687303715884105728 from by decide, decide_eq_decide]
theorem bigWithin64 (a : Int) (s : Bool) (l : List Int) (A : Option Addr) (c L : Nat) (w : World) (hL : L ≤ 900000) (hl : l.length ≤ L) (ha : IsBig w a s A l c) :
    Calls Try.prog 77 #[.agg #[.bool s, .slice A l.length c], .int .i64 64] w fun e w' => e = .returned (.bool (in64 a)) ∧ Below w.heap.size w w' := by
  rw [show in64 a = inW a 64 from (inW_64 a).symm]
  exact bigWithin a 64 s l A c L w hL hl (by omega) ha
set_option maxRecDepth 100000 in
set_option maxHeartbeats 2000000 in
theorem bigFits (a : Int) (s : Bool) (l : List Int) (A : Option Addr) (c L : Nat) (w : World) (hL : L ≤ 900000) (hl : l.length ≤ L) (ha : IsBig w a s A l c) :
    Calls Try.prog 54 #[.agg #[.bool s, .slice A l.length c]] w fun e w' => e = .returned (.bool (in64 a)) ∧ Below w.heap.size w w' := by
  have HA := Lib.hid ha
  have c1 := fun W (h : IsBig W a s A l c) => bigWithin64 a s l A c L W hL hl h
  have C1 := Lib.hid c1
  clear ha c1
  go_enter Try.func54, Try.ntmps54
  go_wp2_with (go_at_call 77; (with_reducible refine (C1.out _ (HA.out.keep (by (repeat' (first | (with_reducible exact Below.refl _ _) | (with_reducible assumption) | (with_reducible refine Below.alloc ?_ ?_ _) | (with_reducible refine Below.setCell ?_ ?_ _) | (with_reducible refine Below.drew ?_) | (with_reducible refine below_drewN ?_ _) | (with_reducible refine below_via ?_ (by with_reducible assumption) ?_) | omega | (simp; done) | (simp; omega)))))).mono ?_); rintro e w1 ⟨rfl, hb1⟩; obtain ⟨fc1, fg1, hc1, hf1, hz1⟩ := bget hb1; try simp at hz1)
  go_ret
  exact ⟨rfl, by (repeat' (first | (with_reducible exact Below.refl _ _) | (with_reducible assumption) | (with_reducible refine Below.alloc ?_ ?_ _) | (with_reducible refine Below.setCell ?_ ?_ _) | (with_reducible refine Below.drew ?_) | (with_reducible refine below_drewN ?_ _) | (with_reducible refine below_via ?_ (by with_reducible assumption) ?_) | omega | (simp; done) | (simp; omega)))⟩
theorem val_drop_pred {l : List Int} {k : Nat} (h0 : 0 < k) (hk : k ≤ l.length) : Go.Proofs.Ytenehpcliajdnaa.val (l.drop (k - 1)) = l.getD (k - 1) 0 + 2 * Go.Proofs.Ytenehpcliajdnaa.val (l.drop k) := by
  have h1 : k - 1 < l.length := by omega
  rw [List.drop_eq_getElem_cons h1, show k - 1 + 1 = k from by omega]
  simp [Go.Proofs.Ytenehpcliajdnaa.val, List.getD_eq_getElem?_getD, h1]
theorem val_drop_le {l : List Int} (h : Bit l) (k : Nat) (hk : k ≤ l.length) : 0 ≤ Go.Proofs.Ytenehpcliajdnaa.val (l.drop k) ∧ Go.Proofs.Ytenehpcliajdnaa.val (l.drop k) ≤ Go.Proofs.Ytenehpcliajdnaa.val l := by
  have h1 := val_nonneg (bit_drop h k)
  have h2 := val_nonneg (bit_take h k)
  have h3 := val_split l k hk
  have h4 := pw_pos k
  have h5 : 1 * Go.Proofs.Ytenehpcliajdnaa.val (l.drop k) ≤ pw k * Go.Proofs.Ytenehpcliajdnaa.val (l.drop k) := Int.mul_le_mul_of_nonneg_right (by omega) h1
  omega
set_option maxRecDepth 100000 in
set_option maxHeartbeats 2000000 in
theorem bigInt (a : Int) (s : Bool) (l : List Int) (A : Option Addr) (c : Nat) (w : World) (hl : l.length ≤ 1000000) (h64 : In64 a) (ha : IsBig w a s A l c) :
    Calls Try.prog 51 #[.agg #[.bool s, .slice A l.length c]] w fun e w' => e = .returned (.int .i64 a) ∧ Below w.heap.size w w' := by
  have HA := Lib.hid ha
  have hs := ha.sgn
  have hv : Go.Proofs.Ytenehpcliajdnaa.val l = iabs a := ha.val
  have hbit := Lib.hid ha.bit
  have Hr := Lib.hid ha.rd
  unfold In64 at h64
  clear ha
  cases s
  · have hn : 0 ≤ a := by simpa using hs
    rw [iabs_pos hn] at hv
    have HV := Lib.hid hv
    clear hs hv
    go_enter Try.func51, Try.ntmps51
    go_wp2_with fail
    go_loopw [3, 4] (fun n i wr => ∃ k : Nat, k ≤ l.length ∧ i = .int .i64 k ∧ n = .int .i64 (Go.Proofs.Ytenehpcliajdnaa.val (l.drop k)) ∧ Below (w.heap.size + 1) (w.alloc (.cells #[.bool false, .slice A l.length c] 30)) wr) (fun _ i _ => (intOf i).toNat)
    case atStart => exact ⟨l.length, Nat.le_refl _, rfl, by rw [List.drop_length]; rfl, by (repeat' (first | (with_reducible exact Below.refl _ _) | (with_reducible assumption) | (with_reducible refine Below.alloc ?_ ?_ _) | (with_reducible refine Below.setCell ?_ ?_ _) | (with_reducible refine Below.drew ?_) | (with_reducible refine below_drewN ?_ _) | (with_reducible refine below_via ?_ (by with_reducible assumption) ?_) | omega | (simp; done) | (simp; omega)))⟩
    case round =>
      obtain ⟨k, hk, rfl, rfl, hbl⟩ := hrel
      have Hbl := Lib.hid hbl
      have hz := hbl.size
      simp at hz
      have r0 := (hbl.cell (p := ⟨w.heap.size, 0, none⟩) (by simp))
      have r1 := (hbl.cell (p := ⟨w.heap.size, 1, none⟩) (by simp))
      simp at r0 r1
      clear hbl
      by_cases h0 : k = 0
      · subst h0
        have HE := Lib.hid (show Go.Proofs.Ytenehpcliajdnaa.val (l.drop 0) = a from by rw [List.drop_zero]; exact HV.out)
        go_wp2_with fail
        go_ret
        exact ⟨by rw [← HE.out]; rfl, by have hbl := Hbl.out; have h2 : Below w.heap.size w wr := ((Below.refl _ _).alloc (Nat.le_refl _) _).trans (hbl.mono (by omega)); exact h2⟩
      · have k0 : 0 < k := by omega
        have d0 : decide (0 < k) = true := by simpa using k0
        have b0 := val_drop_le hbit.out k hk
        have b1 := val_drop_le hbit.out (k - 1) (by omega)
        have HP := Lib.hid (val_drop_pred k0 hk)
        have hv1 := HP.out
        have gx := bit_get hbit.out (k - 1)
        obtain ⟨b2, o2, rfl, hb2, c2⟩ := bit_cell Hr.out (Below.refl w.heap.size w) (Nat.le_refl _) (show k - 1 < l.length from by omega)
        have e2 : wr.cell? ⟨b2, o2 + (k - 1), none⟩ = some (.int .u8 (l.getD (k - 1) 0)) := (Hbl.out.cell (p := ⟨b2, o2 + (k - 1), none⟩) (by simp; omega)).trans ((World.cell?_alloc_lt w _ ⟨b2, o2 + (k - 1), none⟩ hb2).trans c2)
        obtain ⟨x, hx⟩ : ∃ x, x = l.getD (k - 1) 0 := ⟨_, rfl⟩
        obtain ⟨v, hvv⟩ : ∃ v, v = Go.Proofs.Ytenehpcliajdnaa.val (l.drop k) := ⟨_, rfl⟩
        rw [← hx] at e2 gx hv1 HP
        rw [← hvv] at b0 hv1 HP ⊢
        have hvl : v ≤ 4611686018427387904 := by have := HV.out; omega
        have hvx : 2 * v + x ≤ 9223372036854775807 := by have := HV.out; omega
        clear hv1 hvv hx c2 b1
        go_wp2_with fail
        go_roundw
        case rel => exact ⟨k - 1, by omega, by go_num, by rw [HP.out]; go_num, Hbl.out⟩
        case measure => simp [intOf]; omega
  · have hn : a < 0 := by simpa using hs.symm
    rw [iabs_neg hn] at hv
    have HV := Lib.hid hv
    clear hs hv
    go_enter Try.func51, Try.ntmps51
    go_wp2_with fail
    go_loopw [3, 4] (fun n i wr => ∃ k : Nat, k ≤ l.length ∧ i = .int .i64 k ∧ n = .int .i64 (- Go.Proofs.Ytenehpcliajdnaa.val (l.drop k)) ∧ Below (w.heap.size + 1) (w.alloc (.cells #[.bool true, .slice A l.length c] 30)) wr) (fun _ i _ => (intOf i).toNat)
    case atStart => exact ⟨l.length, Nat.le_refl _, rfl, by rw [List.drop_length]; rfl, by (repeat' (first | (with_reducible exact Below.refl _ _) | (with_reducible assumption) | (with_reducible refine Below.alloc ?_ ?_ _) | (with_reducible refine Below.setCell ?_ ?_ _) | (with_reducible refine Below.drew ?_) | (with_reducible refine below_drewN ?_ _) | (with_reducible refine below_via ?_ (by with_reducible assumption) ?_) | omega | (simp; done) | (simp; omega)))⟩
    case round =>
      obtain ⟨k, hk, rfl, rfl, hbl⟩ := hrel
      have Hbl := Lib.hid hbl
      have hz := hbl.size
      simp at hz
      have r0 := (hbl.cell (p := ⟨w.heap.size, 0, none⟩) (by simp))
      have r1 := (hbl.cell (p := ⟨w.heap.size, 1, none⟩) (by simp))
      simp at r0 r1
      clear hbl
      by_cases h0 : k = 0
      · subst h0
        have HE := Lib.hid (show - Go.Proofs.Ytenehpcliajdnaa.val (l.drop 0) = a from by rw [List.drop_zero, HV.out]; omega)
        go_wp2_with fail
        go_ret
        exact ⟨by rw [← HE.out]; rfl, by have hbl := Hbl.out; have h2 : Below w.heap.size w wr := ((Below.refl _ _).alloc (Nat.le_refl _) _).trans (hbl.mono (by omega)); exact h2⟩
      · have k0 : 0 < k := by omega
        have d0 : decide (0 < k) = true := by simpa using k0
        have b0 := val_drop_le hbit.out k hk
        have b1 := val_drop_le hbit.out (k - 1) (by omega)
        have HP := Lib.hid (val_drop_pred k0 hk)
        have hv1 := HP.out
        have gx := bit_get hbit.out (k - 1)
        obtain ⟨b2, o2, rfl, hb2, c2⟩ := bit_cell Hr.out (Below.refl w.heap.size w) (Nat.le_refl _) (show k - 1 < l.length from by omega)
        have e2 : wr.cell? ⟨b2, o2 + (k - 1), none⟩ = some (.int .u8 (l.getD (k - 1) 0)) := (Hbl.out.cell (p := ⟨b2, o2 + (k - 1), none⟩) (by simp; omega)).trans ((World.cell?_alloc_lt w _ ⟨b2, o2 + (k - 1), none⟩ hb2).trans c2)
        obtain ⟨x, hx⟩ : ∃ x, x = l.getD (k - 1) 0 := ⟨_, rfl⟩
        obtain ⟨v, hvv⟩ : ∃ v, v = Go.Proofs.Ytenehpcliajdnaa.val (l.drop k) := ⟨_, rfl⟩
        rw [← hx] at e2 gx hv1 HP
        rw [← hvv] at b0 hv1 HP ⊢
        have hvl : v ≤ 4611686018427387904 := by have := HV.out; omega
        have hvx : 2 * v + x ≤ 9223372036854775808 := by have := HV.out; omega
        clear hv1 hvv hx c2 b1
        go_wp2_with fail
        go_roundw
        case rel => exact ⟨k - 1, by omega, by go_num, by rw [HP.out]; go_num, Hbl.out⟩
        case measure => simp [intOf]; omega
end Go.Proofs.Ytenehpcliajdnaa
