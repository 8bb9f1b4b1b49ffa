/- Joined. -/
import Derived.Test.YtalgfpegaobacaaGreatDoorQa3
import Derived.Outline
import Derived.Deep.RegionWith
namespace Go.Proofs.YtalgfpegaobacaaGreatDoor
set_option linter.all false
set_option maxHeartbeats 4000000
set_option maxRecDepth 100000
open Go.RowKit
open Lib (hid)
theorem big_zero {w : World} {s : Bool} {A : Option Addr} {l : List Int} {c : Nat} (h : IsBig w 0 s A l c) : l = [] := val_zero_top h.bit h.top h.val
theorem iabs_neg_eq (n : Int) : iabs (- n) = iabs n := by unfold iabs; split <;> split <;> omega
theorem neg_sgn {w : World} {a : Int} {s : Bool} {A : Option Addr} {l : List Int} {c : Nat} (h : IsBig w a s A l c) : (!s && decide (0 < Go.Proofs.YtalgfpegaobacaaGreatDoor.val l)) = decide (- a < 0) := by
 rw [h.val, h.sgn, Bool.eq_iff_iff]; simp; unfold iabs; split <;> omega
theorem bigNeg (a : Int) (s : Bool) (la : List Int) (A : Option Addr) (c L : Nat) (w : World) (hL : L ≤ 1000000) (hla : la.length ≤ L) (ha : IsBig w a s A la c) :
  Calls Tryz.prog 128 #[.agg #[.bool s, .slice A la.length c]] w (BigPost w (- a) L) := by
 have HSG := hid (neg_sgn ha)
 have HA := hid ha
 clear ha
 go_enter Tryz.func128, Tryz.ntmps128
 go_wp2_with (go_at_call 145; (with_reducible refine (bigTrim _ la A c _ (by omega) (HA.out.rd.keep tB) HA.out.bit HA.out.cap HA.out.room).mono ?_); rintro e w2 ⟨l2, rfl, hk2, ht2, hv2, hb2⟩; have Hv2 := hid hv2; clear hv2; have Hk2 := hid hk2; clear hk2; obtain ⟨fc2, fg2, hc2, hf2, hz2⟩ := bget hb2; (try simp at hz2))
 have r0 : w2.cell? ⟨w.heap.size + 1, 0, none⟩ = some (.bool false) := by simp [go_sem, hc2]
 have r1 : w2.cell? ⟨w.heap.size + 1, 1, none⟩ = some (.slice none 0 0) := by simp [go_sem, hc2]
 have hB := trim_big ((HA.out.rd.keep tB).keep hb2) HA.out.bit Hk2.out ht2 Hv2.out (by rw [HA.out.val, ← iabs_neg_eq]) HA.out.cap HA.out.room HSG.out
 have hl2 := trim_len Hk2.out
 refine bodyPost_ret (v := .agg #[.bool (!s && decide (0 < Go.Proofs.YtalgfpegaobacaaGreatDoor.val la)), .slice A l2.length c]) (by simp [results, Tryz.results128, go_sem, r0, r1]; try rfl) rfl ⟨_, A, l2, c, rfl, (hB.far r0 (by simp) _).far ((World.cell?_setCell_other _ _ _ _ (by simp)).trans r1) (by simp) _, by omega, ?_⟩
 exact tB
theorem bigSub (a b : Int) (sa sb : Bool) (la lb : List Int) (A B : Option Addr) (c d L : Nat) (w : World) (hL : L ≤ 1000000) (hla : la.length ≤ L) (hlb : lb.length ≤ L) (ha : IsBig w a sa A la c) (hb : IsBig w b sb B lb d) :
  Calls Tryz.prog 149 #[.agg #[.bool sa, .slice A la.length c], .agg #[.bool sb, .slice B lb.length d]] w (BigPost w (a - b) (L + 1)) := by
 have HA := hid ha
 have HB := hid hb
 clear ha hb
 rw [show a - b = a + - b from by omega]
 go_enter Tryz.func149, Tryz.ntmps149
 go_wp2_with fail
 go_region_held3 (fun w' => w'.cell? ⟨w.heap.size, 0, none⟩ = some (.bool sa) ∧ w'.cell? ⟨w.heap.size, 1, none⟩ = some (.slice A la.length c) ∧ w'.cell? ⟨w.heap.size + 1, 0, none⟩ = some (.bool sb) ∧ w'.cell? ⟨w.heap.size + 1, 1, none⟩ = some (.slice B lb.length d)) (exact tK) (first | (go_at_call 128; (with_reducible refine (bigNeg b sb lb B d L _ hL hlb (HB.out.keep tB)).mono ?_); rintro e w1 ⟨s1, A1, l1, c1, rfl, hB1, hl1, hb1⟩; obtain ⟨fc1, fg1, hc1, hf1, hz1⟩ := bget hb1; simp at hz1) | (go_at_call 118; (with_reducible refine (bigAdd a (- b) sa s1 la l1 A A1 c c1 L _ hL hla hl1 (HA.out.keep tB) hB1).mono ?_); rintro e w2 ⟨s2, A2, l2, c2, rfl, hB2, hl2, hb2⟩; obtain ⟨fc2, fg2, hc2, hf2, hz2⟩ := bget hb2))
 go_wp2_with fail
 all_goals
  have r0 : w2.cell? ⟨w.heap.size + 1 + 1, 0, none⟩ = some (.bool false) := by simp [go_sem, hc2, hc1, ↓IntWalk.iteOmega]
  have r1 : w2.cell? ⟨w.heap.size + 1 + 1, 1, none⟩ = some (.slice none 0 0) := by simp [go_sem, hc2, hc1, ↓IntWalk.iteOmega]
  refine bodyPost_ret (v := .agg #[.bool s2, .slice A2 l2.length c2]) (by simp [results, Tryz.results149, go_sem, r0, r1]; try rfl) rfl ⟨s2, A2, l2, c2, rfl, (hB2.far r0 (by simp) _).far ((World.cell?_setCell_other _ _ _ _ (by simp)).trans r1) (by simp) _, hl2, ?_⟩
  exact tB
theorem big_len_pos {w : World} {n : Int} {s : Bool} {A : Option Addr} {l : List Int} {c : Nat} (h : IsBig w n s A l c) (hn : n ≠ 0) : 0 < l.length := by
 rcases Nat.eq_zero_or_pos l.length with h1 | h1
 ·exfalso; apply hn
  have h2 := List.eq_nil_of_length_eq_zero h1
  have h3 := h.val
  rw [h2] at h3; simp [Go.Proofs.YtalgfpegaobacaaGreatDoor.val] at h3; unfold iabs at h3; split at h3 <;> omega
 ·exact h1
theorem bigCmp (a b : Int) (sa sb : Bool) (la lb : List Int) (A B : Option Addr) (c d L : Nat) (w : World) (hL : L ≤ 1000000) (hla : la.length ≤ L) (hlb : lb.length ≤ L) (ha : IsBig w a sa A la c) (hb : IsBig w b sb B lb d) :
  Calls Tryz.prog 180 #[.agg #[.bool sa, .slice A la.length c], .agg #[.bool sb, .slice B lb.length d]] w fun e w' => e = .returned (.int .i64 (ord a b)) ∧ Below w.heap.size w w' := by
 have HA := hid ha
 have HB := hid hb
 clear ha hb
 go_enter Tryz.func180, Tryz.ntmps180
 go_wp2_with fail
 refine (bigSub a b sa sb la lb A B c d L _ hL hla hlb (HA.out.keep tB) (HB.out.keep tB)).mono ?_
 rintro e w1 ⟨s1, A1, l1, c1, rfl, hB1, hl1, hb1⟩
 obtain ⟨fc1, fg1, hc1, hf1, hz1⟩ := bget hb1
 simp at hz1
 have HB1 := hid hB1
 clear hB1
 by_cases h0 : a - b = 0
 ·have hl0 : l1 = [] := by have := HB1.out; rw [h0] at this; exact big_zero this
  subst hl0
  have ho : ord a b = 0 := by unfold ord; rw [if_neg (by omega), if_neg (by omega)]
  have HO := hid ho
  clear h0 ho
  go_wp2_with fail
  go_ret
  exact ⟨by rw [HO.out]; rfl, tB⟩
 ·have hl0 := big_len_pos HB1.out h0
  have hs := HB1.out.sgn
  by_cases h1 : a - b < 0
  ·have d0 : s1 = true := by rw [hs]; simpa using h1
   subst d0
   have ho : ord a b = -1 := by unfold ord; rw [if_pos (by omega)]
   have HO := hid ho
   clear ho hs
   go_wp2_with fail
   go_ret
   exact ⟨by rw [HO.out]; rfl, tB⟩
  ·have d0 : s1 = false := by rw [hs]; simpa using h1
   subst d0
   have ho : ord a b = 1 := by unfold ord; rw [if_neg (by omega), if_pos (by omega)]
   have HO := hid ho
   clear ho hs
   go_wp2_with fail
   go_ret
   exact ⟨by rw [HO.out]; rfl, tB⟩
def inW (a : Int) (n : Nat) : Bool := decide (- pw (n - 1) ≤ a ∧ a < pw (n - 1))
theorem len_lt_iff {l : List Int} (h : Bit l) (ht : Top l) {n : Nat} (hn : 1 ≤ n) : l.length < n ↔ Go.Proofs.YtalgfpegaobacaaGreatDoor.val l < pw (n - 1) := by
 constructor
 ·intro h1
  have := val_lt h
  have := pw_le (show l.length ≤ n - 1 by omega)
  omega
 ·intro h1
  have := len_le h ht h1
  omega
theorem inW_pos {w : World} {a : Int} {A : Option Addr} {l : List Int} {c : Nat} (h : IsBig w a false A l c) {n : Nat} (hn : 1 ≤ n) : decide (l.length < n) = inW a n := by
 have ha : 0 ≤ a := by have := h.sgn; simpa using this
 have h1 := len_lt_iff h.bit h.top hn
 have h2 := h.val
 have h3 := pw_pos (n - 1)
 rw [iabs_pos ha] at h2
 unfold inW
 rw [decide_eq_decide]
 omega
theorem inW_neg {w : World} {a : Int} {s : Bool} {A : Option Addr} {l : List Int} {c : Nat} (ha : a < 0) (h : IsBig w (a + 1) s A l c) {n : Nat} (hn : 1 ≤ n) : decide (l.length < n) = inW a n := by
 have h1 := len_lt_iff h.bit h.top hn
 have h2 := h.val
 have h3 := pw_pos (n - 1)
 have h4 : iabs (a + 1) = - (a + 1) := by unfold iabs; split <;> omega
 rw [h4] at h2
 unfold inW
 rw [decide_eq_decide]
 omega
theorem bigWithin (a : Int) (n : Nat) (s : Bool) (l : List Int) (A : Option Addr) (c L : Nat) (w : World) (hL : L ≤ 900000) (hl : l.length ≤ L) (hn : 1 ≤ n ∧ n ≤ 1000) (ha : IsBig w a s A l c) :
  Calls Tryz.prog 148 #[.agg #[.bool s, .slice A l.length c], .int .i64 n] w fun e w' => e = .returned (.bool (inW a n)) ∧ Below w.heap.size w w' := by
 have HA := hid ha
 have hs := ha.sgn
 clear ha
 cases s
 ·have HI := hid (inW_pos HA.out hn.1)
  clear hs
  go_enter Tryz.func148, Tryz.ntmps148
  go_wp2_with fail
  go_ret
  exact ⟨by rw [← HI.out]; rfl, tB⟩
 ·have HN : Hid (a < 0) := by unfold Hid; simpa using hs.symm
  clear hs
  go_enter Tryz.func148, Tryz.ntmps148
  go_wp2_with fail
  go_region_with (first | (go_at_call 122; (with_reducible refine (bigNat 1 _ (by omega) (by omega)).mono ?_); rintro e w1 ⟨A1, l1, c1, rfl, hB1, hl1', hb1⟩; have HB1 := hid hB1; clear hB1; obtain ⟨fc1, fg1, hc1, hf1, hz1⟩ := bget hb1; (try simp at hz1)) | (go_at_call 118; (with_reducible refine (bigAdd a 1 true false l l1 A A1 c c1 (L + 64) _ (by omega) (by omega) (by omega) (HA.out.keep tB) (HB1.out.keep tB)).mono ?_); rintro e w2 ⟨s2, A2, l2, c2, rfl, hB2, hl2, hb2⟩; have HB2 := hid hB2; clear hB2; obtain ⟨fc2, fg2, hc2, hf2, hz2⟩ := bget hb2; (try simp at hz2)))
  all_goals
   have HI := hid (inW_neg HN.out HB2.out hn.1)
   go_wp2_with fail
   go_ret
   exact ⟨by rw [← HI.out]; rfl, tB⟩
theorem inW_64 (a : Int) : inW a 64 = decide (-9223372036854775808 ≤ a ∧ a ≤ 9223372036854775807) := by
 unfold inW
 rw [show pw (64 - 1) = 9223372036854775808 from by decide, decide_eq_decide]
 omega
theorem bigWithin64 (a : Int) (s : Bool) (l : List Int) (A : Option Addr) (c L : Nat) (w : World) (hL : L ≤ 900000) (hl : l.length ≤ L) (ha : IsBig w a s A l c) :
  Calls Tryz.prog 148 #[.agg #[.bool s, .slice A l.length c], .int .i64 64] w fun e w' => e = .returned (.bool (in64 a)) ∧ Below w.heap.size w w' := by
 rw [show in64 a = inW a 64 from (inW_64 a).symm]
 exact bigWithin a 64 s l A c L w hL hl (by omega) ha
theorem bigFits (a : Int) (s : Bool) (l : List Int) (A : Option Addr) (c L : Nat) (w : World) (hL : L ≤ 900000) (hl : l.length ≤ L) (ha : IsBig w a s A l c) :
  Calls Tryz.prog 119 #[.agg #[.bool s, .slice A l.length c]] w fun e w' => e = .returned (.bool (in64 a)) ∧ Below w.heap.size w w' := by
 have HA := hid ha
 have c1 := fun W (h : IsBig W a s A l c) => bigWithin64 a s l A c L W hL hl h
 have C1 := hid c1
 clear ha c1
 go_enter Tryz.func119, Tryz.ntmps119
 go_wp2_with (go_at_call 148; (with_reducible refine cM (C1.out _ (HA.out.keep tB)) fun w1 hb1 fc1 fg1 hc1 hf1 hz1 => ?_); try simp at hz1)
 go_ret
 exact ⟨rfl, tB⟩
theorem val_drop_pred {l : List Int} {k : Nat} (h0 : 0 < k) (hk : k ≤ l.length) : Go.Proofs.YtalgfpegaobacaaGreatDoor.val (l.drop (k - 1)) = l.getD (k - 1) 0 + 2 * Go.Proofs.YtalgfpegaobacaaGreatDoor.val (l.drop k) := by
 have h1 : k - 1 < l.length := by omega
 rw [List.drop_eq_getElem_cons h1, show k - 1 + 1 = k from by omega]
 simp [Go.Proofs.YtalgfpegaobacaaGreatDoor.val, List.getD_eq_getElem?_getD, h1]
theorem val_drop_le {l : List Int} (h : Bit l) (k : Nat) (hk : k ≤ l.length) : 0 ≤ Go.Proofs.YtalgfpegaobacaaGreatDoor.val (l.drop k) ∧ Go.Proofs.YtalgfpegaobacaaGreatDoor.val (l.drop k) ≤ Go.Proofs.YtalgfpegaobacaaGreatDoor.val l := by
 have h1 := val_nonneg (bit_drop h k)
 have h2 := val_nonneg (bit_take h k)
 have h3 := val_split l k hk
 have h4 := pw_pos k
 have h5 : 1 * Go.Proofs.YtalgfpegaobacaaGreatDoor.val (l.drop k) ≤ pw k * Go.Proofs.YtalgfpegaobacaaGreatDoor.val (l.drop k) := Int.mul_le_mul_of_nonneg_right (by omega) h1
 omega
theorem bigInt (a : Int) (s : Bool) (l : List Int) (A : Option Addr) (c : Nat) (w : World) (hl : l.length ≤ 1000000) (h64 : In64 a) (ha : IsBig w a s A l c) :
  Calls Tryz.prog 120 #[.agg #[.bool s, .slice A l.length c]] w fun e w' => e = .returned (.int .i64 a) ∧ Below w.heap.size w w' := by
 have HA := hid ha
 have hs := ha.sgn
 have hv : Go.Proofs.YtalgfpegaobacaaGreatDoor.val l = iabs a := ha.val
 have hbit := hid ha.bit
 have Hr := hid ha.rd
 unfold In64 at h64
 clear ha
 cases s
 ·have hn : 0 ≤ a := by simpa using hs
  rw [iabs_pos hn] at hv
  have HV := hid hv
  clear hs hv
  go_enter Tryz.func120, Tryz.ntmps120
  go_wp2_with fail
  go_loopw [3, 4] (fun n i wr => ∃ k : Nat, k ≤ l.length ∧ i = .int .i64 k ∧ n = .int .i64 (Go.Proofs.YtalgfpegaobacaaGreatDoor.val (l.drop k)) ∧ Below (w.heap.size + 1) (w.alloc (.cells #[.bool false, .slice A l.length c] 141)) wr) (fun _ i _ => (intOf i).toNat)
  case atStart => exact ⟨l.length, Nat.le_refl _, rfl, by rw [List.drop_length]; rfl, tB⟩
  case round =>
   obtain ⟨k, hk, rfl, rfl, hbl⟩ := hrel
   have Hbl := hid hbl
   have hz := hbl.size
   simp at hz
   have r0 := (hbl.cell (p := ⟨w.heap.size, 0, none⟩) (by simp))
   have r1 := (hbl.cell (p := ⟨w.heap.size, 1, none⟩) (by simp))
   simp at r0 r1
   clear hbl
   by_cases h0 : k = 0
   ·subst h0
    have HE := hid (show Go.Proofs.YtalgfpegaobacaaGreatDoor.val (l.drop 0) = a from by rw [List.drop_zero]; exact HV.out)
    go_wp2_with fail
    go_ret
    exact ⟨by rw [← HE.out]; rfl, by have hbl := Hbl.out; have h2 : Below w.heap.size w wr := ((Below.refl _ _).alloc (Nat.le_refl _) _).trans (hbl.mono (by omega)); exact h2⟩
   ·have k0 : 0 < k := by omega
    have d0 : decide (0 < k) = true := by simpa using k0
    have b0 := val_drop_le hbit.out k hk
    have b1 := val_drop_le hbit.out (k - 1) (by omega)
    have HP := hid (val_drop_pred k0 hk)
    have hv1 := HP.out
    have gx := bit_get hbit.out (k - 1)
    obtain ⟨b2, o2, rfl, hb2, c2⟩ := bit_cell Hr.out (Below.refl w.heap.size w) (Nat.le_refl _) (show k - 1 < l.length from by omega)
    have e2 : wr.cell? ⟨b2, o2 + (k - 1), none⟩ = some (.int .u8 (l.getD (k - 1) 0)) := (Hbl.out.cell (p := ⟨b2, o2 + (k - 1), none⟩) (by simp; omega)).trans ((World.cell?_alloc_lt w _ ⟨b2, o2 + (k - 1), none⟩ hb2).trans c2)
    obtain ⟨x, hx⟩ : ∃ x, x = l.getD (k - 1) 0 := ⟨_, rfl⟩
    obtain ⟨v, hvv⟩ : ∃ v, v = Go.Proofs.YtalgfpegaobacaaGreatDoor.val (l.drop k) := ⟨_, rfl⟩
    rw [← hx] at e2 gx hv1 HP
    rw [← hvv] at b0 hv1 HP ⊢
    have hvl : v ≤ 4611686018427387904 := by have := HV.out; omega
    have hvx : 2 * v + x ≤ 9223372036854775807 := by have := HV.out; omega
    clear hv1 hvv hx c2 b1
    go_wp2_with fail
    go_roundw
    case rel => exact ⟨k - 1, by omega, by go_num, by rw [HP.out]; go_num, Hbl.out⟩
    case measure => simp [intOf]; omega
 ·have hn : a < 0 := by simpa using hs.symm
  rw [iabs_neg hn] at hv
  have HV := hid hv
  clear hs hv
  go_enter Tryz.func120, Tryz.ntmps120
  go_wp2_with fail
  go_loopw [3, 4] (fun n i wr => ∃ k : Nat, k ≤ l.length ∧ i = .int .i64 k ∧ n = .int .i64 (- Go.Proofs.YtalgfpegaobacaaGreatDoor.val (l.drop k)) ∧ Below (w.heap.size + 1) (w.alloc (.cells #[.bool true, .slice A l.length c] 141)) wr) (fun _ i _ => (intOf i).toNat)
  case atStart => exact ⟨l.length, Nat.le_refl _, rfl, by rw [List.drop_length]; rfl, tB⟩
  case round =>
   obtain ⟨k, hk, rfl, rfl, hbl⟩ := hrel
   have Hbl := hid hbl
   have hz := hbl.size
   simp at hz
   have r0 := (hbl.cell (p := ⟨w.heap.size, 0, none⟩) (by simp))
   have r1 := (hbl.cell (p := ⟨w.heap.size, 1, none⟩) (by simp))
   simp at r0 r1
   clear hbl
   by_cases h0 : k = 0
   ·subst h0
    have HE := hid (show - Go.Proofs.YtalgfpegaobacaaGreatDoor.val (l.drop 0) = a from by rw [List.drop_zero, HV.out]; omega)
    go_wp2_with fail
    go_ret
    exact ⟨by rw [← HE.out]; rfl, by have hbl := Hbl.out; have h2 : Below w.heap.size w wr := ((Below.refl _ _).alloc (Nat.le_refl _) _).trans (hbl.mono (by omega)); exact h2⟩
   ·have k0 : 0 < k := by omega
    have d0 : decide (0 < k) = true := by simpa using k0
    have b0 := val_drop_le hbit.out k hk
    have b1 := val_drop_le hbit.out (k - 1) (by omega)
    have HP := hid (val_drop_pred k0 hk)
    have hv1 := HP.out
    have gx := bit_get hbit.out (k - 1)
    obtain ⟨b2, o2, rfl, hb2, c2⟩ := bit_cell Hr.out (Below.refl w.heap.size w) (Nat.le_refl _) (show k - 1 < l.length from by omega)
    have e2 : wr.cell? ⟨b2, o2 + (k - 1), none⟩ = some (.int .u8 (l.getD (k - 1) 0)) := (Hbl.out.cell (p := ⟨b2, o2 + (k - 1), none⟩) (by simp; omega)).trans ((World.cell?_alloc_lt w _ ⟨b2, o2 + (k - 1), none⟩ hb2).trans c2)
    obtain ⟨x, hx⟩ : ∃ x, x = l.getD (k - 1) 0 := ⟨_, rfl⟩
    obtain ⟨v, hvv⟩ : ∃ v, v = Go.Proofs.YtalgfpegaobacaaGreatDoor.val (l.drop k) := ⟨_, rfl⟩
    rw [← hx] at e2 gx hv1 HP
    rw [← hvv] at b0 hv1 HP ⊢
    have hvl : v ≤ 4611686018427387904 := by have := HV.out; omega
    have hvx : 2 * v + x ≤ 9223372036854775808 := by have := HV.out; omega
    clear hv1 hvv hx c2 b1
    go_wp2_with fail
    go_roundw
    case rel => exact ⟨k - 1, by omega, by go_num, by rw [HP.out]; go_num, Hbl.out⟩
    case measure => simp [intOf]; omega
theorem encB_one (l : List Int) : ∀ r ∈ l.map encB, r.length = 1 ∧ ∀ u ∈ r, u.oneCell' = true := by
 intro r hr
 obtain ⟨m, _, rfl⟩ := List.mem_map.1 hr
 refine ⟨rfl, ?_⟩
 simp only [encB, List.mem_cons, List.not_mem_nil, or_false, forall_eq]
 rfl
theorem IsBig.up {w w' : World} {x : Int} {s : Bool} {A B : Option Addr} {l : List Int} {c d : Nat} (h : IsBig w x s A l c) (hne : l ≠ []) (hr : Rd w' B 1 ((0 :: l).map encB)) (hc : (0 :: l).length ≤ d) (hm : d ≤ maxLen) : IsBig w' (2 * x) s B (0 :: l) d := by
 refine ⟨hr, bit_cons h.bit (by omega) (by omega), top_cons h.top hne, ?_, hc, hm, ?_⟩
 ·rw [val_cons, h.val]; unfold iabs; split <;> split <;> omega
 ·rw [h.sgn, decide_eq_decide]; omega
theorem mul_sgn {a b x : Int} {sa sb : Bool} (ha : sa = decide (a < 0)) (hb : sb = decide (b < 0)) (hx : x = iabs (a * b)) : (!(sa == sb) && decide (0 < x)) = decide (a * b < 0) := by
 have h := sgn_mul a b
 rw [iabs_mul, ← hx, ← ha, ← hb] at h
 have h0 : 0 ≤ x := by rw [hx]; unfold iabs; split <;> omega
 cases sa <;> cases sb <;> simp [sgn] at h ⊢ <;> omega
theorem bigMul (a b : Int) (sa sb : Bool) (la lb : List Int) (A B : Option Addr) (c d L : Nat) (w : World) (hL : L ≤ 100000) (hla : la.length ≤ L) (hlb : lb.length ≤ L) (ha : IsBig w a sa A la c) (hb : IsBig w b sb B lb d) :
  Calls Tryz.prog 181 #[.agg #[.bool sa, .slice A la.length c], .agg #[.bool sb, .slice B lb.length d]] w (BigPost w (a * b) (L + L)) := by
 have HA := hid ha
 have HB := hid hb
 clear ha hb
 go_enter Tryz.func181, Tryz.ntmps181
 go_wp2_with (first | (at_builtin; refine wpList_any rfl _ _ _ rfl elB (w.heap.size + 3) _ _ rfl (Own.nil _ _ _ _) A la.length c rfl (la.map encB) (by simp) (HA.out.rd.keep tB) (encB_one la) (by unfold maxLen; exact tE) tE tZ ?_; intro v1 w1 hown1 hb1; have hown2 : Own w1 (w.heap.size + 3) 5 1 v1 (la.map encB) := (by simpa using hown1); have HO1 := hid hown2; have Hb1 := hid hb1; have hz1 := hb1.size; simp at hz1; clear hown1 hown2 hb1) | fail)
 go_loopw [5, 6, 7] (fun sv rv i wr => ∃ (k : Nat) (S R : List Int), k ≤ lb.length ∧ i = .int .i64 k ∧ Own wr (w.heap.size + 3) 5 1 sv (S.map encB) ∧ Own wr (w.heap.size + 3) 5 1 rv (R.map encB) ∧ S.length ≤ la.length + k ∧ R.length = la.length + k ∧ Bit S ∧ Bit R ∧ val S = val la * val (lb.take k) ∧ val R = pw k * val la ∧ Below (w.heap.size + 3) w1 wr) (fun _ _ i _ => lb.length - (intOf i).toNat)
 case atStart => exact ⟨0, [], la, Nat.zero_le _, rfl, Own.nil _ _ _ _, HO1.out, by simp, by simp, bit_nil, HA.out.bit, by simp [val], by rw [pw_zero, Int.one_mul], Below.refl _ _⟩
 case round =>
  obtain ⟨k, S, R, hk, rfl, hoS, hoR, hlS, hlR, hbS, hbR, hvS, hvR, hbl⟩ := hrel
  have hz := hbl.size
  have hbl0 : Below (w.heap.size + 3) (((w.alloc (.cells #[.bool sa, .slice A la.length c] 141)).alloc (.cells #[.bool sb, .slice B lb.length d] 141)).alloc (.cells #[.bool false, .slice none 0 0] 141)) wr := Hb1.out.trans hbl
  have a0 := (hbl0.cell (p := ⟨w.heap.size, 0, none⟩) (by simp))
  have b0 := (hbl0.cell (p := ⟨w.heap.size + 1, 0, none⟩) (by simp))
  have b1 := (hbl0.cell (p := ⟨w.heap.size + 1, 1, none⟩) (by simp))
  have r0 := (hbl0.cell (p := ⟨w.heap.size + 1 + 1, 0, none⟩) (by simp))
  have r1 := (hbl0.cell (p := ⟨w.heap.size + 1 + 1, 1, none⟩) (by simp))
  have f0 := (hbl0.frozen (p := ⟨w.heap.size + 1 + 1, 0, none⟩) (by simp))
  have f1 := (hbl0.frozen (p := ⟨w.heap.size + 1 + 1, 1, none⟩) (by simp))
  simp [go_sem] at a0 b0 b1 r0 r1 f0 f1
  have hbw : Below w.heap.size w wr := by exact tB
  have Hbl := hid hbl
  have Hbl0 := hid hbl0
  have Hbw := hid hbw
  have HBS := hid hbS
  have HBR := hid hbR
  have HVS := hid hvS
  have HVR := hid hvR
  have lLR : R.length ≤ 1000000 := by omega
  have HLR := hid hlR
  have HOS := hid hoS
  have HOR := hid hoR
  obtain ⟨AS, cS, rfl, hcS, hmS, hrS, _⟩ := hoS.shape
  obtain ⟨AR, cR, rfl, hcR, hmR, hrR, _⟩ := hoR.shape
  have HRS := hid hrS
  have HRR := hid hrR
  have HCS := hid hcS
  rw [List.length_map] at HOS HOR ⊢
  rw [List.length_map] at HCS ⊢
  clear hlR hbl hbl0 hbw hbS hbR hvS hvR hoS hoR hrS hrR hcS hcR
  by_cases hlt : k < lb.length
  ·have d1 := @dT k lb.length hlt
   have hx := bit_get HB.out.bit k
   obtain ⟨bb, bo, rfl, hbb, q1⟩ := bit_cell HB.out.rd Hbw.out (Nat.le_refl _) hlt
   obtain ⟨x, hxe⟩ : ∃ x, x = lb.getD k 0 := ⟨_, rfl⟩
   rw [← hxe] at q1 hx
   have HX := hid hxe
   clear hxe
   rcases (show x = 0 ∨ x = 1 by omega) with e | e
   ·subst e
    go_wp2_with (first | ((at_builtin; refine wpList_app rfl _ _ _ rfl elB wr.heap.size _ _ rfl ((Own.nil wr wr.heap.size 5 1).alloc _) (some ⟨wr.heap.size, 0, none⟩) 1 1 rfl [encB 0] rfl (fun h => by cases h) rd_one ((by simp [encB]; rfl)) (by unfold maxLen; exact tE) tE tZ ?_; intro v' w3 hown3 hb3); obtain ⟨fc3, fg3, hc3, hf3, hz3⟩ := bget hb3; (try simp at hz3)) | (at_builtin; refine wpList_any rfl _ _ _ rfl elB wr.heap.size _ _ rfl hown3 AR R.length cR rfl (R.map encB) (by simp) (HRR.out.keep tB) (encB_one R) (by unfold maxLen; exact tE) tE (by have := hb3.size; simp at this; omega) ?_; intro v4 w4 hown4 hb4; have hown5 : Own w4 wr.heap.size 5 1 v4 ((0 :: R).map encB) := (by simpa [encB] using hown4); have HO5 := hid hown5; have Hb4 := hid (show Below wr.heap.size wr w4 from tB); clear hown4 hown5 hb3 hb4) | fail)
    go_roundw
    case rel => exact ⟨k + 1, S, 0 :: R, by omega, by go_num, HOS.out.keep Hb4.out, HO5.out.mono (by omega), by omega, by have := HLR.out; simp; omega, HBS.out, bit_cons HBR.out (by omega) (by omega), sum_none HVS.out HX.out.symm, row_next HVR.out, Hbl.out.trans (Hb4.out.mono (by omega))⟩
    case measure => simp [intOf]; omega
   ·subst e
    go_wp2_with (first | (go_at_call 123; (with_reducible refine (bigPlus S R AS AR cS cR _ (by omega) (by omega) (HRS.out.keep tB) (HRR.out.keep tB) HBS.out HBR.out).mono ?_); rintro e w2 ⟨v2, l2, rfl, hown2, hb2, hbit2, hval2, hlen2⟩; have HO2 := hid hown2; have HV2 := hid hval2; have HL2 := hid hlen2; clear hown2 hval2 hlen2; obtain ⟨fc2, fg2, hc2, hf2, hz2⟩ := bget hb2; (try simp at hz2)) | ((at_builtin; refine wpList_app rfl _ _ _ rfl elB w2.heap.size _ _ rfl ((Own.nil w2 w2.heap.size 5 1).alloc _) (some ⟨w2.heap.size, 0, none⟩) 1 1 rfl [encB 0] rfl (fun h => by cases h) rd_one ((by simp [encB]; rfl)) (by unfold maxLen; exact tE) tE tZ ?_; intro v' w3 hown3 hb3); obtain ⟨fc3, fg3, hc3, hf3, hz3⟩ := bget hb3; (try simp at hz3)) | (at_builtin; refine wpList_any rfl _ _ _ rfl elB w2.heap.size _ _ rfl hown3 AR R.length cR rfl (R.map encB) (by simp) (HRR.out.keep tB) (encB_one R) (by unfold maxLen; exact tE) tE (by have := hb3.size; simp at this; omega) ?_; intro v4 w4 hown4 hb4; have hown5 : Own w4 w2.heap.size 5 1 v4 ((0 :: R).map encB) := (by simpa [encB] using hown4); have HO5 := hid hown5; have Hb4 := hid (show Below w2.heap.size w2 w4 from tB); clear hown4 hown5 hb3 hb4) | fail)
    go_roundw
    case rel => exact ⟨k + 1, l2, 0 :: R, by omega, by go_num, (HO2.out.keep Hb4.out).mono (by omega), HO5.out.mono (by omega), by have := HL2.out; have h2 := HLR.out; omega, by have := HLR.out; simp; omega, hbit2, bit_cons HBR.out (by omega) (by omega), sum_one HVS.out HVR.out HX.out.symm HV2.out, row_next HVR.out, (Hbl.out.trans (hb2.mono (by omega))).trans (Hb4.out.mono (by omega))⟩
    case measure => simp [intOf]; omega
  ·have d1 := @dF k lb.length hlt
   have hke : k = lb.length := by omega
   have hval : val S = iabs (a * b) := by rw [HVS.out, hke, List.take_length, HA.out.val, HB.out.val, iabs_mul]
   have HVAL := hid hval
   have HSN := hid (mul_sgn HA.out.sgn HB.out.sgn hval)
   clear hval hke
   go_wp2_with (go_at_call 145; (with_reducible refine (bigTrim _ S AS cS _ (by omega) (HRS.out.keep tB) HBS.out HCS.out hmS).mono ?_); rintro e w2 ⟨l2, rfl, hk2, ht2, hv2, hb2⟩; have Hv2 := hid hv2; clear hv2; have Hk2 := hid hk2; clear hk2; obtain ⟨fc2, fg2, hc2, hf2, hz2⟩ := bget hb2; (try simp at hz2))
   have k0 : w2.cell? ⟨w.heap.size + 1 + 1, 0, none⟩ = some (.bool false) := by simp [go_sem, hc2, r0, ↓IntWalk.iteOmega]
   have k1 : w2.cell? ⟨w.heap.size + 1 + 1, 1, none⟩ = some (.slice none 0 0) := by simp [go_sem, hc2, r1, ↓IntWalk.iteOmega]
   have hB := trim_big ((HRS.out.keep tB).keep hb2) HBS.out Hk2.out ht2 Hv2.out HVAL.out HCS.out hmS HSN.out
   have hl2 := trim_len Hk2.out
   refine bodyPost_ret (v := .agg #[.bool (!(sa == sb) && decide (0 < Go.Proofs.YtalgfpegaobacaaGreatDoor.val S)), .slice AS l2.length cS]) (by simp [results, Tryz.results181, go_sem, k0, k1]; try rfl) rfl ⟨_, AS, l2, cS, rfl, (hB.far k0 (by simp) _).far ((World.cell?_setCell_other _ _ _ _ (by simp)).trans k1) (by simp) _, by omega, ?_⟩
   (have hbw := Hbw.out; exact tB)
theorem bigRet {fn : Func} {slot : Nat} (hfn : fn.results = #[.cell slot 141]) {a : Act} {w wf : World} {g L : Nat} {n : Int} {s : Bool} {A : Option Addr} {l : List Int} {c : Nat}
  (ha : a.tmps[slot]?.getD undef = .pointer (some ⟨g, 0, none⟩)) (hd : a.defers = []) (h0 : wf.cell? ⟨g, 0, none⟩ = some (.bool false)) (h1 : wf.cell? ⟨g, 1, none⟩ = some (.slice none 0 0))
  (hB : IsBig wf n s A l c) (hl : l.length ≤ L) (hb : Below w.heap.size w ((wf.setCell ⟨g, 0, none⟩ (.bool s)).setCell ⟨g, 1, none⟩ (.slice A l.length c))) :
  bodyPost Tryz.prog fn (BigPost w n L) .ret a ((wf.setCell ⟨g, 0, none⟩ (.bool s)).setCell ⟨g, 1, none⟩ (.slice A l.length c)) := by
 refine bodyPost_ret (v := .agg #[.bool s, .slice A l.length c]) (by simp [results, hfn, ha, go_sem, h0, h1]; try rfl) hd ⟨s, A, l, c, rfl, (hB.far h0 (by simp) _).far ((World.cell?_setCell_other _ _ _ _ (by simp)).trans h1) (by simp) _, hl, hb⟩
end Go.Proofs.YtalgfpegaobacaaGreatDoor
