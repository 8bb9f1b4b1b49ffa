/- Joined: Big7, LawF1, WideA2, Bits1, Big8, App0, Big9. -/
import Derived.Test.YtalgfpegaobacaaJz5
import Derived.Test.YtalgfpegaobacaaJz2
import Derived.Test.YtalgfpegaobacaaJz3
import Derived.Test.YtalgfpegaobacaaJz1
import Derived.Outline
import Derived.Deep.RegionWith
/- Contracts of the reference's Within, Fits, Int. -/
namespace Go.Proofs.Ytalgfpegaobacaa
open Go.RowKit
def inW (a : Int) (n : Nat) : Bool := decide (- pw (n - 1) ≤ a ∧ a < pw (n - 1))
theorem len_lt_iff {l : List Int} (h : Bit l) (ht : Top l) {n : Nat} (hn : 1 ≤ n) : l.length < n ↔ Go.Proofs.Ytalgfpegaobacaa.val l < pw (n - 1) := by
  constructor
  · intro h1
    have := val_lt h
    have := pw_le (show l.length ≤ n - 1 by omega)
    omega
  · intro h1
    have := len_le h ht h1
    omega
theorem inW_pos {w : World} {a : Int} {A : Option Addr} {l : List Int} {c : Nat} (h : IsBig w a false A l c) {n : Nat} (hn : 1 ≤ n) : decide (l.length < n) = inW a n := by
  have ha : 0 ≤ a := by have := h.sgn; simpa using this
  have h1 := len_lt_iff h.bit h.top hn
  have h2 := h.val
  have h3 := pw_pos (n - 1)
  rw [iabs_pos ha] at h2
  unfold inW
  rw [decide_eq_decide]
  omega
theorem inW_neg {w : World} {a : Int} {s : Bool} {A : Option Addr} {l : List Int} {c : Nat} (ha : a < 0) (h : IsBig w (a + 1) s A l c) {n : Nat} (hn : 1 ≤ n) : decide (l.length < n) = inW a n := by
  have h1 := len_lt_iff h.bit h.top hn
  have h2 := h.val
  have h3 := pw_pos (n - 1)
  have h4 : iabs (a + 1) = - (a + 1) := by unfold iabs; split <;> omega
  rw [h4] at h2
  unfold inW
  rw [decide_eq_decide]
  omega
set_option maxRecDepth 100000 in
set_option maxHeartbeats 2000000 in
theorem bigWithin (a : Int) (n : Nat) (s : Bool) (l : List Int) (A : Option Addr) (c L : Nat) (w : World) (hL : L ≤ 900000) (hl : l.length ≤ L) (hn : 1 ≤ n ∧ n ≤ 1000) (ha : IsBig w a s A l c) :
    Calls Try.prog 36 #[.agg #[.bool s, .slice A l.length c], .int .i64 n] w fun e w' => e = .returned (.bool (inW a n)) ∧ Below w.heap.size w w' := by
  have HA := Lib.hid ha
  have hs := ha.sgn
  clear ha
  cases s
  · have HI := Lib.hid (inW_pos HA.out hn.1)
    clear hs
    go_enter Try.func36, Try.ntmps36
    go_wp2_with fail
    go_ret
    exact ⟨by rw [← HI.out]; rfl, by (repeat' (first | (with_reducible exact Below.refl _ _) | (with_reducible assumption) | (with_reducible refine Below.alloc ?_ ?_ _) | (with_reducible refine Below.setCell ?_ ?_ _) | (with_reducible refine Below.drew ?_) | (with_reducible refine below_drewN ?_ _) | (with_reducible refine below_via ?_ (by with_reducible assumption) ?_) | omega | (simp; done) | (simp; omega)))⟩
  · have HN : Hid (a < 0) := by unfold Hid; simpa using hs.symm
    clear hs
    go_enter Try.func36, Try.ntmps36
    go_wp2_with fail
    go_region_with (first | (go_at_call 33; (with_reducible refine (bigNat 1 _ (by omega) (by omega)).mono ?_); rintro e w1 ⟨A1, l1, c1, rfl, hB1, hl1', hb1⟩; have HB1 := Lib.hid hB1; clear hB1; obtain ⟨fc1, fg1, hc1, hf1, hz1⟩ := bget hb1; (try simp at hz1)) | (go_at_call 20; (with_reducible refine (bigAdd a 1 true false l l1 A A1 c c1 (L + 64) _ (by omega) (by omega) (by omega) (HA.out.keep (by (repeat' (first | (with_reducible exact Below.refl _ _) | (with_reducible assumption) | (with_reducible refine Below.alloc ?_ ?_ _) | (with_reducible refine Below.setCell ?_ ?_ _) | (with_reducible refine Below.drew ?_) | (with_reducible refine below_drewN ?_ _) | (with_reducible refine below_via ?_ (by with_reducible assumption) ?_) | omega | (simp; done) | (simp; omega))))) (HB1.out.keep (by (repeat' (first | (with_reducible exact Below.refl _ _) | (with_reducible assumption) | (with_reducible refine Below.alloc ?_ ?_ _) | (with_reducible refine Below.setCell ?_ ?_ _) | (with_reducible refine Below.drew ?_) | (with_reducible refine below_drewN ?_ _) | (with_reducible refine below_via ?_ (by with_reducible assumption) ?_) | omega | (simp; done) | (simp; omega)))))).mono ?_); rintro e w2 ⟨s2, A2, l2, c2, rfl, hB2, hl2, hb2⟩; have HB2 := Lib.hid hB2; clear hB2; obtain ⟨fc2, fg2, hc2, hf2, hz2⟩ := bget hb2; (try simp at hz2)))
    all_goals
      have HI := Lib.hid (inW_neg HN.out HB2.out hn.1)
      go_wp2_with fail
      go_ret
      exact ⟨by rw [← HI.out]; rfl, by (repeat' (first | (with_reducible exact Below.refl _ _) | (with_reducible assumption) | (with_reducible refine Below.alloc ?_ ?_ _) | (with_reducible refine Below.setCell ?_ ?_ _) | (with_reducible refine Below.drew ?_) | (with_reducible refine below_drewN ?_ _) | (with_reducible refine below_via ?_ (by with_reducible assumption) ?_) | omega | (simp; done) | (simp; omega)))⟩
theorem inW_64 (a : Int) : inW a 64 = decide (-9223372036854775808 ≤ a ∧ a ≤ 9223372036854775807) := by
  unfold inW
  rw [show pw (64 - 1) = 9223372036854775808 from by decide, decide_eq_decide]
  omega
theorem inW_128 (a : Int) : inW a 128 = in128 a := by
  unfold inW in128
  rw [show pw (128 - 1) = 170141183460469231731687303715884105728 from by decide, decide_eq_decide]
theorem bigWithin64 (a : Int) (s : Bool) (l : List Int) (A : Option Addr) (c L : Nat) (w : World) (hL : L ≤ 900000) (hl : l.length ≤ L) (ha : IsBig w a s A l c) :
    Calls Try.prog 36 #[.agg #[.bool s, .slice A l.length c], .int .i64 64] w fun e w' => e = .returned (.bool (in64 a)) ∧ Below w.heap.size w w' := by
  rw [show in64 a = inW a 64 from (inW_64 a).symm]
  exact bigWithin a 64 s l A c L w hL hl (by omega) ha
set_option maxRecDepth 100000 in
set_option maxHeartbeats 2000000 in
theorem bigFits (a : Int) (s : Bool) (l : List Int) (A : Option Addr) (c L : Nat) (w : World) (hL : L ≤ 900000) (hl : l.length ≤ L) (ha : IsBig w a s A l c) :
    Calls Try.prog 18 #[.agg #[.bool s, .slice A l.length c]] w fun e w' => e = .returned (.bool (in64 a)) ∧ Below w.heap.size w w' := by
  have HA := Lib.hid ha
  have c1 := fun W (h : IsBig W a s A l c) => bigWithin64 a s l A c L W hL hl h
  have C1 := Lib.hid c1
  clear ha c1
  go_enter Try.func18, Try.ntmps18
  go_wp2_with (go_at_call 36; (with_reducible refine (C1.out _ (HA.out.keep (by (repeat' (first | (with_reducible exact Below.refl _ _) | (with_reducible assumption) | (with_reducible refine Below.alloc ?_ ?_ _) | (with_reducible refine Below.setCell ?_ ?_ _) | (with_reducible refine Below.drew ?_) | (with_reducible refine below_drewN ?_ _) | (with_reducible refine below_via ?_ (by with_reducible assumption) ?_) | omega | (simp; done) | (simp; omega)))))).mono ?_); rintro e w1 ⟨rfl, hb1⟩; obtain ⟨fc1, fg1, hc1, hf1, hz1⟩ := bget hb1; try simp at hz1)
  go_ret
  exact ⟨rfl, by (repeat' (first | (with_reducible exact Below.refl _ _) | (with_reducible assumption) | (with_reducible refine Below.alloc ?_ ?_ _) | (with_reducible refine Below.setCell ?_ ?_ _) | (with_reducible refine Below.drew ?_) | (with_reducible refine below_drewN ?_ _) | (with_reducible refine below_via ?_ (by with_reducible assumption) ?_) | omega | (simp; done) | (simp; omega)))⟩
theorem val_drop_pred {l : List Int} {k : Nat} (h0 : 0 < k) (hk : k ≤ l.length) : Go.Proofs.Ytalgfpegaobacaa.val (l.drop (k - 1)) = l.getD (k - 1) 0 + 2 * Go.Proofs.Ytalgfpegaobacaa.val (l.drop k) := by
  have h1 : k - 1 < l.length := by omega
  rw [List.drop_eq_getElem_cons h1, show k - 1 + 1 = k from by omega]
  simp [Go.Proofs.Ytalgfpegaobacaa.val, List.getD_eq_getElem?_getD, h1]
theorem val_drop_le {l : List Int} (h : Bit l) (k : Nat) (hk : k ≤ l.length) : 0 ≤ Go.Proofs.Ytalgfpegaobacaa.val (l.drop k) ∧ Go.Proofs.Ytalgfpegaobacaa.val (l.drop k) ≤ Go.Proofs.Ytalgfpegaobacaa.val l := by
  have h1 := val_nonneg (bit_drop h k)
  have h2 := val_nonneg (bit_take h k)
  have h3 := val_split l k hk
  have h4 := pw_pos k
  have h5 : 1 * Go.Proofs.Ytalgfpegaobacaa.val (l.drop k) ≤ pw k * Go.Proofs.Ytalgfpegaobacaa.val (l.drop k) := Int.mul_le_mul_of_nonneg_right (by omega) h1
  omega
set_option maxRecDepth 100000 in
set_option maxHeartbeats 2000000 in
theorem bigInt (a : Int) (s : Bool) (l : List Int) (A : Option Addr) (c : Nat) (w : World) (hl : l.length ≤ 1000000) (h64 : In64 a) (ha : IsBig w a s A l c) :
    Calls Try.prog 21 #[.agg #[.bool s, .slice A l.length c]] w fun e w' => e = .returned (.int .i64 a) ∧ Below w.heap.size w w' := by
  have HA := Lib.hid ha
  have hs := ha.sgn
  have hv : Go.Proofs.Ytalgfpegaobacaa.val l = iabs a := ha.val
  have hbit := Lib.hid ha.bit
  have Hr := Lib.hid ha.rd
  unfold In64 at h64
  clear ha
  cases s
  · have hn : 0 ≤ a := by simpa using hs
    rw [iabs_pos hn] at hv
    have HV := Lib.hid hv
    clear hs hv
    go_enter Try.func21, Try.ntmps21
    go_wp2_with fail
    go_loopw [3, 4] (fun n i wr => ∃ k : Nat, k ≤ l.length ∧ i = .int .i64 k ∧ n = .int .i64 (Go.Proofs.Ytalgfpegaobacaa.val (l.drop k)) ∧ Below (w.heap.size + 1) (w.alloc (.cells #[.bool false, .slice A l.length c] 46)) wr) (fun _ i _ => (intOf i).toNat)
    case atStart => exact ⟨l.length, Nat.le_refl _, rfl, by rw [List.drop_length]; rfl, by (repeat' (first | (with_reducible exact Below.refl _ _) | (with_reducible assumption) | (with_reducible refine Below.alloc ?_ ?_ _) | (with_reducible refine Below.setCell ?_ ?_ _) | (with_reducible refine Below.drew ?_) | (with_reducible refine below_drewN ?_ _) | (with_reducible refine below_via ?_ (by with_reducible assumption) ?_) | omega | (simp; done) | (simp; omega)))⟩
    case round =>
      obtain ⟨k, hk, rfl, rfl, hbl⟩ := hrel
      have Hbl := Lib.hid hbl
      have hz := hbl.size
      simp at hz
      have r0 := (hbl.cell (p := ⟨w.heap.size, 0, none⟩) (by simp))
      have r1 := (hbl.cell (p := ⟨w.heap.size, 1, none⟩) (by simp))
      simp at r0 r1
      clear hbl
      by_cases h0 : k = 0
      · subst h0
        have HE := Lib.hid (show Go.Proofs.Ytalgfpegaobacaa.val (l.drop 0) = a from by rw [List.drop_zero]; exact HV.out)
        go_wp2_with fail
        go_ret
        exact ⟨by rw [← HE.out]; rfl, by have hbl := Hbl.out; have h2 : Below w.heap.size w wr := ((Below.refl _ _).alloc (Nat.le_refl _) _).trans (hbl.mono (by omega)); exact h2⟩
      · have k0 : 0 < k := by omega
        have d0 : decide (0 < k) = true := by simpa using k0
        have b0 := val_drop_le hbit.out k hk
        have b1 := val_drop_le hbit.out (k - 1) (by omega)
        have HP := Lib.hid (val_drop_pred k0 hk)
        have hv1 := HP.out
        have gx := bit_get hbit.out (k - 1)
        obtain ⟨b2, o2, rfl, hb2, c2⟩ := bit_cell Hr.out (Below.refl w.heap.size w) (Nat.le_refl _) (show k - 1 < l.length from by omega)
        have e2 : wr.cell? ⟨b2, o2 + (k - 1), none⟩ = some (.int .u8 (l.getD (k - 1) 0)) := (Hbl.out.cell (p := ⟨b2, o2 + (k - 1), none⟩) (by simp; omega)).trans ((World.cell?_alloc_lt w _ ⟨b2, o2 + (k - 1), none⟩ hb2).trans c2)
        obtain ⟨x, hx⟩ : ∃ x, x = l.getD (k - 1) 0 := ⟨_, rfl⟩
        obtain ⟨v, hvv⟩ : ∃ v, v = Go.Proofs.Ytalgfpegaobacaa.val (l.drop k) := ⟨_, rfl⟩
        rw [← hx] at e2 gx hv1 HP
        rw [← hvv] at b0 hv1 HP ⊢
        have hvl : v ≤ 4611686018427387904 := by have := HV.out; omega
        have hvx : 2 * v + x ≤ 9223372036854775807 := by have := HV.out; omega
        clear hv1 hvv hx c2 b1
        go_wp2_with fail
        go_roundw
        case rel => exact ⟨k - 1, by omega, by go_num, by rw [HP.out]; go_num, Hbl.out⟩
        case measure => simp [intOf]; omega
  · have hn : a < 0 := by simpa using hs.symm
    rw [iabs_neg hn] at hv
    have HV := Lib.hid hv
    clear hs hv
    go_enter Try.func21, Try.ntmps21
    go_wp2_with fail
    go_loopw [3, 4] (fun n i wr => ∃ k : Nat, k ≤ l.length ∧ i = .int .i64 k ∧ n = .int .i64 (- Go.Proofs.Ytalgfpegaobacaa.val (l.drop k)) ∧ Below (w.heap.size + 1) (w.alloc (.cells #[.bool true, .slice A l.length c] 46)) wr) (fun _ i _ => (intOf i).toNat)
    case atStart => exact ⟨l.length, Nat.le_refl _, rfl, by rw [List.drop_length]; rfl, by (repeat' (first | (with_reducible exact Below.refl _ _) | (with_reducible assumption) | (with_reducible refine Below.alloc ?_ ?_ _) | (with_reducible refine Below.setCell ?_ ?_ _) | (with_reducible refine Below.drew ?_) | (with_reducible refine below_drewN ?_ _) | (with_reducible refine below_via ?_ (by with_reducible assumption) ?_) | omega | (simp; done) | (simp; omega)))⟩
    case round =>
      obtain ⟨k, hk, rfl, rfl, hbl⟩ := hrel
      have Hbl := Lib.hid hbl
      have hz := hbl.size
      simp at hz
      have r0 := (hbl.cell (p := ⟨w.heap.size, 0, none⟩) (by simp))
      have r1 := (hbl.cell (p := ⟨w.heap.size, 1, none⟩) (by simp))
      simp at r0 r1
      clear hbl
      by_cases h0 : k = 0
      · subst h0
        have HE := Lib.hid (show - Go.Proofs.Ytalgfpegaobacaa.val (l.drop 0) = a from by rw [List.drop_zero, HV.out]; omega)
        go_wp2_with fail
        go_ret
        exact ⟨by rw [← HE.out]; rfl, by have hbl := Hbl.out; have h2 : Below w.heap.size w wr := ((Below.refl _ _).alloc (Nat.le_refl _) _).trans (hbl.mono (by omega)); exact h2⟩
      · have k0 : 0 < k := by omega
        have d0 : decide (0 < k) = true := by simpa using k0
        have b0 := val_drop_le hbit.out k hk
        have b1 := val_drop_le hbit.out (k - 1) (by omega)
        have HP := Lib.hid (val_drop_pred k0 hk)
        have hv1 := HP.out
        have gx := bit_get hbit.out (k - 1)
        obtain ⟨b2, o2, rfl, hb2, c2⟩ := bit_cell Hr.out (Below.refl w.heap.size w) (Nat.le_refl _) (show k - 1 < l.length from by omega)
        have e2 : wr.cell? ⟨b2, o2 + (k - 1), none⟩ = some (.int .u8 (l.getD (k - 1) 0)) := (Hbl.out.cell (p := ⟨b2, o2 + (k - 1), none⟩) (by simp; omega)).trans ((World.cell?_alloc_lt w _ ⟨b2, o2 + (k - 1), none⟩ hb2).trans c2)
        obtain ⟨x, hx⟩ : ∃ x, x = l.getD (k - 1) 0 := ⟨_, rfl⟩
        obtain ⟨v, hvv⟩ : ∃ v, v = Go.Proofs.Ytalgfpegaobacaa.val (l.drop k) := ⟨_, rfl⟩
        rw [← hx] at e2 gx hv1 HP
        rw [← hvv] at b0 hv1 HP ⊢
        have hvl : v ≤ 4611686018427387904 := by have := HV.out; omega
        have hvx : 2 * v + x ≤ 9223372036854775808 := by have := HV.out; omega
        clear hv1 hvv hx c2 b1
        go_wp2_with fail
        go_roundw
        case rel => exact ⟨k - 1, by omega, by go_num, by rw [HP.out]; go_num, Hbl.out⟩
        case measure => simp [intOf]; omega
end Go.Proofs.Ytalgfpegaobacaa

/- Layer 2's laws: fix.Scale; what the laws call of their own: lives, Is, few. -/
namespace Go.Proofs.Ytalgfpegaobacaa
open Go.RowKit
theorem div_in' {a d : Int} (ha : In128 a) (hd : 0 < d) : In128 (a / d) := by
  unfold In128 at *
  by_cases h : 0 ≤ a
  · have h1 : 0 ≤ a / d := Int.ediv_nonneg h (by omega)
    have h2 := Int.ediv_le_self d h
    omega
  · have h1 : a / d < 0 := Int.ediv_lt_of_lt_mul hd (by omega)
    have h2 : a ≤ a / d := Int.le_ediv_of_mul_le hd (by
      have h3 : (- a) * 1 ≤ (- a) * d := Int.mul_le_mul_of_nonneg_left (by omega) (by omega)
      rw [Int.neg_mul, Int.neg_mul] at h3
      omega)
    omega
theorem in64_not' {n : Int} (h : ¬ In64 n) : in64 n = false := by cases e : in64 n; rfl; exact absurd (in64_iff.1 e) h
set_option maxRecDepth 100000 in
set_option maxHeartbeats 4000000 in
theorem fixScaleYes (a n d : Int) (w : World) (ha : In64 a) (hn : In64 n) (hd : 0 < d) (hd1 : d ≤ 9223372036854775807) (h : In64 (a * n / d)) :
    Calls Try.prog 27 #[.int .i64 a, .int .i64 n, .int .i64 d] w fun e w' => e = .returned (.tuple #[.int .i64 (a * n / d), .int .i64 (a * n % d), .int .i64 0]) ∧ Below w.heap.size w w' := by
  have hm := mul64_128 ha hn
  skip
  go_enter Try.func27, Try.ntmps27
  go_wp2_with (first | (go_at_call 46; (with_reducible refine (wideMul a n _ ha hn).mono ?_); rintro e w1 ⟨rfl, hb1⟩; obtain ⟨fc1, fg1, hc1, hf1, hz1⟩ := bget hb1; (try simp at hz1)) | (go_at_call 45; (with_reducible refine (wideDiv (a * n) d _ hm hd hd1).mono ?_); rintro e w2 ⟨rfl, hb2⟩; obtain ⟨fc2, fg2, hc2, hf2, hz2⟩ := bget hb2; (try simp at hz2)) | (go_at_call 29; (with_reducible refine (narrowYes (a * n / d) _ h).mono ?_); rintro e w3 ⟨rfl, hb3⟩; obtain ⟨fc3, fg3, hc3, hf3, hz3⟩ := bget hb3; (try simp at hz3)) | fail)
  refine bodyPost_ret (by simp [results, Try.results27, go_sem, ]; try rfl) rfl ⟨rfl, ?_⟩
  (repeat' (first | (with_reducible exact Below.refl _ _) | (with_reducible assumption) | (with_reducible refine Below.alloc ?_ ?_ _) | (with_reducible refine Below.setCell ?_ ?_ _) | (with_reducible refine Below.drew ?_) | (with_reducible refine below_drewN ?_ _) | (with_reducible refine below_via ?_ (by with_reducible assumption) ?_) | omega | (simp; done) | (simp; omega)))
set_option maxRecDepth 100000 in
set_option maxHeartbeats 4000000 in
theorem fixScaleNo (a n d : Int) (w : World) (ha : In64 a) (hn : In64 n) (hd : 0 < d) (hd1 : d ≤ 9223372036854775807) (h : ¬ In64 (a * n / d)) :
    Calls Try.prog 27 #[.int .i64 a, .int .i64 n, .int .i64 d] w fun e w' => e = .returned (.tuple #[.int .i64 0, .int .i64 0, .int .i64 7]) ∧ Below w.heap.size w w' := by
  have hm := mul64_128 ha hn
  have hq := div_in' hm hd
  go_enter Try.func27, Try.ntmps27
  go_wp2_with (first | (go_at_call 46; (with_reducible refine (wideMul a n _ ha hn).mono ?_); rintro e w1 ⟨rfl, hb1⟩; obtain ⟨fc1, fg1, hc1, hf1, hz1⟩ := bget hb1; (try simp at hz1)) | (go_at_call 45; (with_reducible refine (wideDiv (a * n) d _ hm hd hd1).mono ?_); rintro e w2 ⟨rfl, hb2⟩; obtain ⟨fc2, fg2, hc2, hf2, hz2⟩ := bget hb2; (try simp at hz2)) | (go_at_call 29; (with_reducible refine (narrowNo (a * n / d) _ hq h).mono ?_); rintro e w3 ⟨rfl, hb3⟩; obtain ⟨fc3, fg3, hc3, hf3, hz3⟩ := bget hb3; (try simp at hz3)) | fail)
  refine bodyPost_ret (by simp [results, Try.results27, go_sem, ]; try rfl) rfl ⟨rfl, ?_⟩
  (repeat' (first | (with_reducible exact Below.refl _ _) | (with_reducible assumption) | (with_reducible refine Below.alloc ?_ ?_ _) | (with_reducible refine Below.setCell ?_ ?_ _) | (with_reducible refine Below.drew ?_) | (with_reducible refine below_drewN ?_ _) | (with_reducible refine below_via ?_ (by with_reducible assumption) ?_) | omega | (simp; done) | (simp; omega)))
set_option maxRecDepth 100000 in
set_option maxHeartbeats 4000000 in
theorem fixScaleNeg (a n d : Int) (w : World) (ha : In64 a) (hn : In64 n) (hd : d < 0) :
    Calls Try.prog 27 #[.int .i64 a, .int .i64 n, .int .i64 d] w fun e w' => e = .returned (.tuple #[.int .i64 0, .int .i64 0, .int .i64 2]) ∧ Below w.heap.size w w' := by
  have hm := mul64_128 ha hn
  skip
  go_enter Try.func27, Try.ntmps27
  go_wp2_with (first | (go_at_call 46; (with_reducible refine (wideMul a n _ ha hn).mono ?_); rintro e w1 ⟨rfl, hb1⟩; obtain ⟨fc1, fg1, hc1, hf1, hz1⟩ := bget hb1; (try simp at hz1)) | (go_at_call 45; (with_reducible refine (wideDivNeg (a * n) d _ hd).mono ?_); rintro e w2 ⟨rfl, hb2⟩; obtain ⟨fc2, fg2, hc2, hf2, hz2⟩ := bget hb2; (try simp at hz2)) | (go_at_call 29; (with_reducible refine (narrowErr 0 0 2 _ rfl).mono ?_); rintro e w3 ⟨rfl, hb3⟩; obtain ⟨fc3, fg3, hc3, hf3, hz3⟩ := bget hb3; (try simp at hz3)) | fail)
  refine bodyPost_ret (by simp [results, Try.results27, go_sem, ]; try rfl) rfl ⟨rfl, ?_⟩
  (repeat' (first | (with_reducible exact Below.refl _ _) | (with_reducible assumption) | (with_reducible refine Below.alloc ?_ ?_ _) | (with_reducible refine Below.setCell ?_ ?_ _) | (with_reducible refine Below.drew ?_) | (with_reducible refine below_drewN ?_ _) | (with_reducible refine below_via ?_ (by with_reducible assumption) ?_) | omega | (simp; done) | (simp; omega)))
set_option maxRecDepth 100000 in
set_option maxHeartbeats 4000000 in
theorem fixScaleZero (a n : Int) (w : World) (ha : In64 a) (hn : In64 n) :
    Calls Try.prog 27 #[.int .i64 a, .int .i64 n, .int .i64 0] w fun e w' => e = .returned (.tuple #[.int .i64 0, .int .i64 0, .int .i64 8]) ∧ Below w.heap.size w w' := by
  go_enter Try.func27, Try.ntmps27
  go_wp2_with (first | (go_at_call 46; (with_reducible refine (wideMul a n _ ha hn).mono ?_); rintro e w1 ⟨rfl, hb1⟩; obtain ⟨fc1, fg1, hc1, hf1, hz1⟩ := bget hb1; (try simp at hz1)) | (go_at_call 45; (with_reducible refine (wideDivZero (a * n) _).mono ?_); rintro e w2 ⟨rfl, hb2⟩; obtain ⟨fc2, fg2, hc2, hf2, hz2⟩ := bget hb2; (try simp at hz2)) | (go_at_call 29; (with_reducible refine (narrowErr 0 0 8 _ rfl).mono ?_); rintro e w3 ⟨rfl, hb3⟩; obtain ⟨fc3, fg3, hc3, hf3, hz3⟩ := bget hb3; (try simp at hz3)) | fail)
  refine bodyPost_ret (by simp [results, Try.results27, go_sem, ]; try rfl) rfl ⟨rfl, ?_⟩
  (repeat' (first | (with_reducible exact Below.refl _ _) | (with_reducible assumption) | (with_reducible refine Below.alloc ?_ ?_ _) | (with_reducible refine Below.setCell ?_ ?_ _) | (with_reducible refine Below.drew ?_) | (with_reducible refine below_drewN ?_ _) | (with_reducible refine below_via ?_ (by with_reducible assumption) ?_) | omega | (simp; done) | (simp; omega)))
theorem ord_self' (n : Int) : ord n n = 0 := by unfold ord; rw [if_neg (by omega), if_neg (by omega)]
/-- A number or why none, as the code answers. -/
def okN (n : Int) : Int := if in64 n then n else 0
def okE (n : Int) : Int := if in64 n then 0 else 7
theorem okN_yes {n : Int} (h : In64 n) : okN n = n ∧ okE n = 0 := by unfold okN okE; rw [in64_iff.2 h]; exact ⟨rfl, rfl⟩
theorem okN_no {n : Int} (h : ¬ In64 n) : okN n = 0 ∧ okE n = 7 := by unfold okN okE; rw [in64_not' h]; exact ⟨rfl, rfl⟩
theorem rd_take {w : World} {A : Option Addr} {l : List Int} (h : Rd w A 1 (l.map encI)) (k : Nat) : Rd w A 1 ((l.take k).map encI) := by
  intro i r hr
  rw [List.map_take, List.getElem?_take] at hr
  split at hr
  · exact h i r hr
  · cases hr
end Go.Proofs.Ytalgfpegaobacaa

/- wide.Add of two numbers in a row built on the spot. -/
namespace Go.Proofs.Ytalgfpegaobacaa
open Go.RowKit
theorem rd_wide2 {w : World} {g : Nat} {x y : Int} (hg : g < w.heap.size) (h0 : w.cell? ⟨g, 0, none⟩ = some (.int .i64 (whi x))) (h1 : w.cell? ⟨g, 1, none⟩ = some (.int .u64 (wlo x))) (h2 : w.cell? ⟨g, 2, none⟩ = some (.int .i64 (whi y))) (h3 : w.cell? ⟨g, 3, none⟩ = some (.int .u64 (wlo y))) : Rd w (some ⟨g, 0, none⟩) 2 ([x, y].map encW) := by
  intro i r hr
  match i, hr with
  | 0, hr =>
    simp at hr
    subst hr
    refine ⟨g, 0, rfl, hg, fun j v hv => ?_⟩
    match j, hv with
    | 0, hv => simp [encW] at hv; subst hv; simpa using h0
    | 1, hv => simp [encW] at hv; subst hv; simpa using h1
  | 1, hr =>
    simp at hr
    subst hr
    refine ⟨g, 0, rfl, hg, fun j v hv => ?_⟩
    match j, hv with
    | 0, hv => simp [encW] at hv; subst hv; simpa using h2
    | 1, hv => simp [encW] at hv; subst hv; simpa using h3
theorem wideAdd2 (x y s : Int) (g : Nat) (w : World) (hx : In128 x) (hy : In128 y) (hs : x + y = s) (hs1 : In128 s) (hg : g < w.heap.size) (h0 : w.cell? ⟨g, 0, none⟩ = some (.int .i64 (whi x))) (h1 : w.cell? ⟨g, 1, none⟩ = some (.int .u64 (wlo x))) (h2 : w.cell? ⟨g, 2, none⟩ = some (.int .i64 (whi y))) (h3 : w.cell? ⟨g, 3, none⟩ = some (.int .u64 (wlo y))) :
    Calls Try.prog 30 #[.slice (some ⟨g, 0, none⟩) 2 2] w fun e w' => e = .returned (.tuple #[(.agg #[.int .i64 (whi (s)), .int .u64 (wlo (s))]), .int .i64 0]) ∧ Below w.heap.size w w' := by
  have hsum : [x, y].sum = s := by simp [hs]
  have h := wideAddYes [x, y] (some ⟨g, 0, none⟩) 2 w (by simp) (by simp [hx, hy]) (rd_wide2 hg h0 h1 h2 h3) (by rw [hsum]; exact hs1)
  rw [hsum] at h
  exact h
end Go.Proofs.Ytalgfpegaobacaa

/- Rows of bits: product, quotient, shift. Plain. -/
namespace Go.Proofs.Ytalgfpegaobacaa
theorem val_cons (b : Int) (l : List Int) : val (b :: l) = b + 2 * val l := rfl
theorem bit_cons {b : Int} {l : List Int} (h : Bit l) (h0 : 0 ≤ b) (h1 : b ≤ 1) : Bit (b :: l) := by
  intro x hx
  rcases List.mem_cons.1 hx with e | e
  · subst e; exact ⟨h0, h1⟩
  · exact h x e
theorem top_cons {b : Int} {l : List Int} (h : Top l) (hne : l ≠ []) : Top (b :: l) := by
  intro x hx
  rw [List.getLast?_cons_of_ne_nil hne] at hx
  exact h x hx
/-- The row of round i: la, i places up. -/
theorem row_next {R la : List Int} {i : Nat} (h : val R = pw i * val la) : val (0 :: R) = pw (i + 1) * val la := by
  rw [val_cons, h, pw_succ, Int.mul_assoc]; omega
theorem sum_one {S S' R la lb : List Int} {i : Nat} (hS : val S = val la * val (lb.take i)) (hR : val R = pw i * val la) (hb : lb.getD i 0 = 1) (hS' : val S' = val S + val R) : val S' = val la * val (lb.take (i + 1)) := by
  rw [hS', hS, hR, take_succD, hb, Int.mul_add, Int.mul_one, Int.mul_comm (pw i)]
theorem sum_none {S la lb : List Int} {i : Nat} (hS : val S = val la * val (lb.take i)) (hb : lb.getD i 0 = 0) : val S = val la * val (lb.take (i + 1)) := by
  rw [hS, take_succD, hb, Int.mul_zero, Int.add_zero]
/-- One round of the long division: the next bit below. -/
theorem quo_step {q : List Int} {r r' d bit x v v' : Int} (hq : val q * d + r = v) (hx : v' = x + 2 * v) (hr : 2 * r + x = bit * d + r') : val (bit :: q) * d + r' = v' := by
  rw [val_cons, Int.add_mul, Int.mul_assoc]; omega
end Go.Proofs.Ytalgfpegaobacaa

/- The contract of the reference's Wide. -/
namespace Go.Proofs.Ytalgfpegaobacaa
open Go.RowKit
theorem encB_one (l : List Int) : ∀ r ∈ l.map encB, r.length = 1 ∧ ∀ u ∈ r, u.oneCell' = true := by
  intro r hr
  obtain ⟨m, _, rfl⟩ := List.mem_map.1 hr
  refine ⟨rfl, ?_⟩
  simp only [encB, List.mem_cons, List.not_mem_nil, or_false, forall_eq]
  rfl
theorem IsBig.up {w w' : World} {x : Int} {s : Bool} {A B : Option Addr} {l : List Int} {c d : Nat} (h : IsBig w x s A l c) (hne : l ≠ []) (hr : Rd w' B 1 ((0 :: l).map encB)) (hc : (0 :: l).length ≤ d) (hm : d ≤ maxLen) : IsBig w' (2 * x) s B (0 :: l) d := by
  refine ⟨hr, bit_cons h.bit (by omega) (by omega), top_cons h.top hne, ?_, hc, hm, ?_⟩
  · rw [val_cons, h.val]; unfold iabs; split <;> split <;> omega
  · rw [h.sgn, decide_eq_decide]; omega
theorem pw64 : pw 64 = 18446744073709551616 := by decide
end Go.Proofs.Ytalgfpegaobacaa

/- append(v, x...) onto a slice of the call's own, whatever x is; a nil x too, whatever its room. -/
namespace Go.Proofs.Ytalgfpegaobacaa
open Go.RowKit
theorem run_append_none {P : Program} {w : World} (base : Nat) (t ty e : TypeId) (i : TypeInfo) (size : Nat) (ht : P.underlying t = some (.slice e)) (hi : P.info? e = some i)
    (v : Value) (n c : Nat) (xs : List Value) (hown : w.ownsRow base e size v n xs) :
    (Builtin.append_ #[t, t] ty #[v, .slice none 0 c]).run P w = .ok v w := by
  rcases hown.2 with ⟨rfl, rfl⟩ | ⟨g, cap, cur, rfl, _, _, hnc, _⟩
  · simp [Builtin.append_, run_underlying ht, sizeOf, typeInfo, hi, Builtin.lenOf, Builtin.firstCells]
  · simp [Builtin.append_, run_underlying ht, sizeOf, typeInfo, hi, Builtin.lenOf, Builtin.firstCells, hnc, storeCells]
theorem wpList_any {P : Program} {ops : Array Oper} {rest : List Oper} {o : Oper} {a : Act} {Q : Exit → Act → World → Prop} {w : World} (hgd : o.guard = none) (s x : Operand) (T : TypeId)
    (ho : o.op = .call { callee := .builtin .append, args := #[s, x], argTypes := #[T, T] }) {E k bytes : Nat} (el : Elem P T E k bytes)
    (base : Nat) (v : Value) (rows : List (List Value)) (hs : a.eval s = v) (hown : Own w base E k v rows)
    (A : Option Addr) (m c : Nat) (hx : a.eval x = .slice A m c) (news : List (List Value)) (hm : news.length = m) (hr : Rd w A k news) (hk : ∀ r ∈ news, r.length = k ∧ ∀ u ∈ r, u.oneCell' = true)
    (h63 : rows.length + m ≤ maxLen) (hbytes : (rows.length + m) * bytes ≤ 140737488355328) (hbase : base ≤ w.heap.size)
    (h : ∀ v' w', Own w' base E k v' (rows ++ news) → Below base w w' → wpList P ops Q rest (a.put o.dst v') w') : wpList P ops Q (o :: rest) a w := by
  rcases A with _ | ad
  · have hn : news = [] := by
      rcases news with _ | ⟨r, news⟩
      · rfl
      · obtain ⟨b, o, hA, _⟩ := hr 0 r rfl
        cases hA
    subst hn
    simp at hm
    subst hm
    refine wpList_plain hgd fun _ hK => ?_
    obtain ⟨i, z, hi, hz, hsize, hby, hzs⟩ := el.info
    have hrun := run_append_none (P := P) (w := w) base T o.type E i k el.ty hi v rows.length c rows.flatten hown.2
    unfold Oper.wp
    simp [execOp, ho, resolve, invoke, builtin, hs, hx, hrun, Result.andThen]
    exact hK _ _ (h v w (by simpa using hown) (Below.refl _ _))
  · exact wpList_app hgd s x T ho el base v rows hs hown (some ad) m c hx news hm (fun h => by cases h) hr hk h63 hbytes hbase h
end Go.Proofs.Ytalgfpegaobacaa

/- The contract of the reference's Mul. -/
namespace Go.Proofs.Ytalgfpegaobacaa
open Go.RowKit
theorem mul_sgn {a b x : Int} {sa sb : Bool} (ha : sa = decide (a < 0)) (hb : sb = decide (b < 0)) (hx : x = iabs (a * b)) : (!(sa == sb) && decide (0 < x)) = decide (a * b < 0) := by
  have h := sgn_mul a b
  rw [iabs_mul, ← hx, ← ha, ← hb] at h
  have h0 : 0 ≤ x := by rw [hx]; unfold iabs; split <;> omega
  cases sa <;> cases sb <;> simp [sgn] at h ⊢ <;> omega
set_option maxRecDepth 100000 in
set_option maxHeartbeats 4000000 in
theorem bigMul (a b : Int) (sa sb : Bool) (la lb : List Int) (A B : Option Addr) (c d L : Nat) (w : World) (hL : L ≤ 100000) (hla : la.length ≤ L) (hlb : lb.length ≤ L) (ha : IsBig w a sa A la c) (hb : IsBig w b sb B lb d) :
    Calls Try.prog 35 #[.agg #[.bool sa, .slice A la.length c], .agg #[.bool sb, .slice B lb.length d]] w (BigPost w (a * b) (L + L)) := by
  have HA := Lib.hid ha
  have HB := Lib.hid hb
  clear ha hb
  go_enter Try.func35, Try.ntmps35
  go_wp2_with (first | (at_builtin; refine wpList_any rfl _ _ _ rfl elB (w.heap.size + 3) _ _ rfl (Own.nil _ _ _ _) A la.length c rfl (la.map encB) (by simp) (HA.out.rd.keep (by (repeat' (first | (with_reducible exact Below.refl _ _) | (with_reducible assumption) | (with_reducible refine Below.alloc ?_ ?_ _) | (with_reducible refine Below.setCell ?_ ?_ _) | (with_reducible refine Below.drew ?_) | (with_reducible refine below_drewN ?_ _) | (with_reducible refine below_via ?_ (by with_reducible assumption) ?_) | omega | (simp; done) | (simp; omega))))) (encB_one la) (by unfold maxLen; first | (simp; done) | omega | (simp; omega)) (by first | (simp; done) | omega | (simp; omega)) (by first | omega | (simp; done) | (simp; omega)) ?_; intro v1 w1 hown1 hb1; have hown2 : Own w1 (w.heap.size + 3) 5 1 v1 (la.map encB) := (by simpa using hown1); have HO1 := Lib.hid hown2; have Hb1 := Lib.hid hb1; have hz1 := hb1.size; simp at hz1; clear hown1 hown2 hb1) | fail)
  go_loopw [5, 6, 7] (fun sv rv i wr => ∃ (k : Nat) (S R : List Int), k ≤ lb.length ∧ i = .int .i64 k ∧ Own wr (w.heap.size + 3) 5 1 sv (S.map encB) ∧ Own wr (w.heap.size + 3) 5 1 rv (R.map encB) ∧ S.length ≤ la.length + k ∧ R.length = la.length + k ∧ Bit S ∧ Bit R ∧ val S = val la * val (lb.take k) ∧ val R = pw k * val la ∧ Below (w.heap.size + 3) w1 wr) (fun _ _ i _ => lb.length - (intOf i).toNat)
  case atStart => exact ⟨0, [], la, Nat.zero_le _, rfl, Own.nil _ _ _ _, HO1.out, by simp, by simp, bit_nil, HA.out.bit, by simp [val], by rw [pw_zero, Int.one_mul], Below.refl _ _⟩
  case round =>
    obtain ⟨k, S, R, hk, rfl, hoS, hoR, hlS, hlR, hbS, hbR, hvS, hvR, hbl⟩ := hrel
    have hz := hbl.size
    have hbl0 : Below (w.heap.size + 3) (((w.alloc (.cells #[.bool sa, .slice A la.length c] 46)).alloc (.cells #[.bool sb, .slice B lb.length d] 46)).alloc (.cells #[.bool false, .slice none 0 0] 46)) wr := Hb1.out.trans hbl
    have a0 := (hbl0.cell (p := ⟨w.heap.size, 0, none⟩) (by simp))
    have b0 := (hbl0.cell (p := ⟨w.heap.size + 1, 0, none⟩) (by simp))
    have b1 := (hbl0.cell (p := ⟨w.heap.size + 1, 1, none⟩) (by simp))
    have r0 := (hbl0.cell (p := ⟨w.heap.size + 1 + 1, 0, none⟩) (by simp))
    have r1 := (hbl0.cell (p := ⟨w.heap.size + 1 + 1, 1, none⟩) (by simp))
    have f0 := (hbl0.frozen (p := ⟨w.heap.size + 1 + 1, 0, none⟩) (by simp))
    have f1 := (hbl0.frozen (p := ⟨w.heap.size + 1 + 1, 1, none⟩) (by simp))
    simp [go_sem] at a0 b0 b1 r0 r1 f0 f1
    have hbw : Below w.heap.size w wr := by (repeat' (first | (with_reducible exact Below.refl _ _) | (with_reducible assumption) | (with_reducible refine Below.alloc ?_ ?_ _) | (with_reducible refine Below.setCell ?_ ?_ _) | (with_reducible refine Below.drew ?_) | (with_reducible refine below_drewN ?_ _) | (with_reducible refine below_via ?_ (by with_reducible assumption) ?_) | omega | (simp; done) | (simp; omega)))
    have Hbl := Lib.hid hbl
    have Hbl0 := Lib.hid hbl0
    have Hbw := Lib.hid hbw
    have HBS := Lib.hid hbS
    have HBR := Lib.hid hbR
    have HVS := Lib.hid hvS
    have HVR := Lib.hid hvR
    have lLR : R.length ≤ 1000000 := by omega
    have HLR := Lib.hid hlR
    have HOS := Lib.hid hoS
    have HOR := Lib.hid hoR
    obtain ⟨AS, cS, rfl, hcS, hmS, hrS, _⟩ := hoS.shape
    obtain ⟨AR, cR, rfl, hcR, hmR, hrR, _⟩ := hoR.shape
    have HRS := Lib.hid hrS
    have HRR := Lib.hid hrR
    have HCS := Lib.hid hcS
    rw [List.length_map] at HOS HOR ⊢
    rw [List.length_map] at HCS ⊢
    clear hlR hbl hbl0 hbw hbS hbR hvS hvR hoS hoR hrS hrR hcS hcR
    by_cases hlt : k < lb.length
    · have d1 : decide ((k : Int) < (lb.length : Int)) = true := by simpa using hlt
      have hx := bit_get HB.out.bit k
      obtain ⟨bb, bo, rfl, hbb, q1⟩ := bit_cell HB.out.rd Hbw.out (Nat.le_refl _) hlt
      obtain ⟨x, hxe⟩ : ∃ x, x = lb.getD k 0 := ⟨_, rfl⟩
      rw [← hxe] at q1 hx
      have HX := Lib.hid hxe
      clear hxe
      rcases (show x = 0 ∨ x = 1 by omega) with e | e
      · subst e
        go_wp2_with (first | ((at_builtin; refine wpList_app rfl _ _ _ rfl elB wr.heap.size _ _ rfl ((Own.nil wr wr.heap.size 5 1).alloc _) (some ⟨wr.heap.size, 0, none⟩) 1 1 rfl [encB 0] rfl (fun h => by cases h) rd_one ((by simp [encB]; rfl)) (by unfold maxLen; first | (simp; done) | omega | (simp; omega)) (by first | (simp; done) | omega | (simp; omega)) (by first | omega | (simp; done) | (simp; omega)) ?_; intro v' w3 hown3 hb3); obtain ⟨fc3, fg3, hc3, hf3, hz3⟩ := bget hb3; (try simp at hz3)) | (at_builtin; refine wpList_any rfl _ _ _ rfl elB wr.heap.size _ _ rfl hown3 AR R.length cR rfl (R.map encB) (by simp) (HRR.out.keep (by (repeat' (first | (with_reducible exact Below.refl _ _) | (with_reducible assumption) | (with_reducible refine Below.alloc ?_ ?_ _) | (with_reducible refine Below.setCell ?_ ?_ _) | (with_reducible refine Below.drew ?_) | (with_reducible refine below_drewN ?_ _) | (with_reducible refine below_via ?_ (by with_reducible assumption) ?_) | omega | (simp; done) | (simp; omega))))) (encB_one R) (by unfold maxLen; first | (simp; done) | omega | (simp; omega)) (by first | (simp; done) | omega | (simp; omega)) (by have := hb3.size; simp at this; omega) ?_; intro v4 w4 hown4 hb4; have hown5 : Own w4 wr.heap.size 5 1 v4 ((0 :: R).map encB) := (by simpa [encB] using hown4); have HO5 := Lib.hid hown5; have Hb4 := Lib.hid (show Below wr.heap.size wr w4 from (by (repeat' (first | (with_reducible exact Below.refl _ _) | (with_reducible assumption) | (with_reducible refine Below.alloc ?_ ?_ _) | (with_reducible refine Below.setCell ?_ ?_ _) | (with_reducible refine Below.drew ?_) | (with_reducible refine below_drewN ?_ _) | (with_reducible refine below_via ?_ (by with_reducible assumption) ?_) | omega | (simp; done) | (simp; omega))))); clear hown4 hown5 hb3 hb4) | fail)
        go_roundw
        case rel => exact ⟨k + 1, S, 0 :: R, by omega, by go_num, HOS.out.keep Hb4.out, HO5.out.mono (by omega), by omega, by have := HLR.out; simp; omega, HBS.out, bit_cons HBR.out (by omega) (by omega), sum_none HVS.out HX.out.symm, row_next HVR.out, Hbl.out.trans (Hb4.out.mono (by omega))⟩
        case measure => simp [intOf]; omega
      · subst e
        go_wp2_with (first | (go_at_call 34; (with_reducible refine (bigPlus S R AS AR cS cR _ (by omega) (by omega) (HRS.out.keep (by (repeat' (first | (with_reducible exact Below.refl _ _) | (with_reducible assumption) | (with_reducible refine Below.alloc ?_ ?_ _) | (with_reducible refine Below.setCell ?_ ?_ _) | (with_reducible refine Below.drew ?_) | (with_reducible refine below_drewN ?_ _) | (with_reducible refine below_via ?_ (by with_reducible assumption) ?_) | omega | (simp; done) | (simp; omega))))) (HRR.out.keep (by (repeat' (first | (with_reducible exact Below.refl _ _) | (with_reducible assumption) | (with_reducible refine Below.alloc ?_ ?_ _) | (with_reducible refine Below.setCell ?_ ?_ _) | (with_reducible refine Below.drew ?_) | (with_reducible refine below_drewN ?_ _) | (with_reducible refine below_via ?_ (by with_reducible assumption) ?_) | omega | (simp; done) | (simp; omega))))) HBS.out HBR.out).mono ?_); rintro e w2 ⟨v2, l2, rfl, hown2, hb2, hbit2, hval2, hlen2⟩; have HO2 := Lib.hid hown2; have HV2 := Lib.hid hval2; have HL2 := Lib.hid hlen2; clear hown2 hval2 hlen2; obtain ⟨fc2, fg2, hc2, hf2, hz2⟩ := bget hb2; (try simp at hz2)) | ((at_builtin; refine wpList_app rfl _ _ _ rfl elB w2.heap.size _ _ rfl ((Own.nil w2 w2.heap.size 5 1).alloc _) (some ⟨w2.heap.size, 0, none⟩) 1 1 rfl [encB 0] rfl (fun h => by cases h) rd_one ((by simp [encB]; rfl)) (by unfold maxLen; first | (simp; done) | omega | (simp; omega)) (by first | (simp; done) | omega | (simp; omega)) (by first | omega | (simp; done) | (simp; omega)) ?_; intro v' w3 hown3 hb3); obtain ⟨fc3, fg3, hc3, hf3, hz3⟩ := bget hb3; (try simp at hz3)) | (at_builtin; refine wpList_any rfl _ _ _ rfl elB w2.heap.size _ _ rfl hown3 AR R.length cR rfl (R.map encB) (by simp) (HRR.out.keep (by (repeat' (first | (with_reducible exact Below.refl _ _) | (with_reducible assumption) | (with_reducible refine Below.alloc ?_ ?_ _) | (with_reducible refine Below.setCell ?_ ?_ _) | (with_reducible refine Below.drew ?_) | (with_reducible refine below_drewN ?_ _) | (with_reducible refine below_via ?_ (by with_reducible assumption) ?_) | omega | (simp; done) | (simp; omega))))) (encB_one R) (by unfold maxLen; first | (simp; done) | omega | (simp; omega)) (by first | (simp; done) | omega | (simp; omega)) (by have := hb3.size; simp at this; omega) ?_; intro v4 w4 hown4 hb4; have hown5 : Own w4 w2.heap.size 5 1 v4 ((0 :: R).map encB) := (by simpa [encB] using hown4); have HO5 := Lib.hid hown5; have Hb4 := Lib.hid (show Below w2.heap.size w2 w4 from (by (repeat' (first | (with_reducible exact Below.refl _ _) | (with_reducible assumption) | (with_reducible refine Below.alloc ?_ ?_ _) | (with_reducible refine Below.setCell ?_ ?_ _) | (with_reducible refine Below.drew ?_) | (with_reducible refine below_drewN ?_ _) | (with_reducible refine below_via ?_ (by with_reducible assumption) ?_) | omega | (simp; done) | (simp; omega))))); clear hown4 hown5 hb3 hb4) | fail)
        go_roundw
        case rel => exact ⟨k + 1, l2, 0 :: R, by omega, by go_num, (HO2.out.keep Hb4.out).mono (by omega), HO5.out.mono (by omega), by have := HL2.out; have h2 := HLR.out; omega, by have := HLR.out; simp; omega, hbit2, bit_cons HBR.out (by omega) (by omega), sum_one HVS.out HVR.out HX.out.symm HV2.out, row_next HVR.out, (Hbl.out.trans (hb2.mono (by omega))).trans (Hb4.out.mono (by omega))⟩
        case measure => simp [intOf]; omega
    · have d1 : decide ((k : Int) < (lb.length : Int)) = false := by simpa using hlt
      have hke : k = lb.length := by omega
      have hval : val S = iabs (a * b) := by rw [HVS.out, hke, List.take_length, HA.out.val, HB.out.val, iabs_mul]
      have HVAL := Lib.hid hval
      have HSN := Lib.hid (mul_sgn HA.out.sgn HB.out.sgn hval)
      clear hval hke
      go_wp2_with (go_at_call 38; (with_reducible refine (bigTrim _ S AS cS _ (by omega) (HRS.out.keep (by (repeat' (first | (with_reducible exact Below.refl _ _) | (with_reducible assumption) | (with_reducible refine Below.alloc ?_ ?_ _) | (with_reducible refine Below.setCell ?_ ?_ _) | (with_reducible refine Below.drew ?_) | (with_reducible refine below_drewN ?_ _) | (with_reducible refine below_via ?_ (by with_reducible assumption) ?_) | omega | (simp; done) | (simp; omega))))) HBS.out HCS.out hmS).mono ?_); rintro e w2 ⟨l2, rfl, hk2, ht2, hv2, hb2⟩; have Hv2 := Lib.hid hv2; clear hv2; have Hk2 := Lib.hid hk2; clear hk2; obtain ⟨fc2, fg2, hc2, hf2, hz2⟩ := bget hb2; (try simp at hz2))
      have k0 : w2.cell? ⟨w.heap.size + 1 + 1, 0, none⟩ = some (.bool false) := by simp [go_sem, hc2, r0, ↓IntWalk.iteOmega]
      have k1 : w2.cell? ⟨w.heap.size + 1 + 1, 1, none⟩ = some (.slice none 0 0) := by simp [go_sem, hc2, r1, ↓IntWalk.iteOmega]
      have hB := trim_big ((HRS.out.keep (by (repeat' (first | (with_reducible exact Below.refl _ _) | (with_reducible assumption) | (with_reducible refine Below.alloc ?_ ?_ _) | (with_reducible refine Below.setCell ?_ ?_ _) | (with_reducible refine Below.drew ?_) | (with_reducible refine below_drewN ?_ _) | (with_reducible refine below_via ?_ (by with_reducible assumption) ?_) | omega | (simp; done) | (simp; omega))))).keep hb2) HBS.out Hk2.out ht2 Hv2.out HVAL.out HCS.out hmS HSN.out
      have hl2 := trim_len Hk2.out
      refine bodyPost_ret (v := .agg #[.bool (!(sa == sb) && decide (0 < Go.Proofs.Ytalgfpegaobacaa.val S)), .slice AS l2.length cS]) (by simp [results, Try.results35, go_sem, k0, k1]; try rfl) rfl ⟨_, AS, l2, cS, rfl, (hB.far k0 (by simp) _).far ((World.cell?_setCell_other _ _ _ _ (by simp)).trans k1) (by simp) _, by omega, ?_⟩
      (have hbw := Hbw.out; (repeat' (first | (with_reducible exact Below.refl _ _) | (with_reducible assumption) | (with_reducible refine Below.alloc ?_ ?_ _) | (with_reducible refine Below.setCell ?_ ?_ _) | (with_reducible refine Below.drew ?_) | (with_reducible refine below_drewN ?_ _) | (with_reducible refine below_via ?_ (by with_reducible assumption) ?_) | omega | (simp; done) | (simp; omega))))
end Go.Proofs.Ytalgfpegaobacaa
