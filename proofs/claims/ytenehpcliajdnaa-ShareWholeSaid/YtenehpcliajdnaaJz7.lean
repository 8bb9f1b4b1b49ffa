/- Joined: Big6, Big7, Bits1, Big8, App0, Big9, FixP. -/
import Derived.Test.YtenehpcliajdnaaJz6
import Derived.Test.YtenehpcliajdnaaJz2
import Derived.Test.YtenehpcliajdnaaJz1
import Derived.Test.YtenehpcliajdnaaJz5
import Derived.Test.YtenehpcliajdnaaJz4
import Derived.Outline
import Derived.Deep.RegionWith
/- Contracts of the reference's Neg, Sub, Cmp, Within, Fits, Int. -/
namespace Go.Proofs.Ytenehpcliajdnaa
open Go.RowKit
theorem big_zero {w : World} {s : Bool} {A : Option Addr} {l : List Int} {c : Nat} (h : IsBig w 0 s A l c) : l = [] := val_zero_top h.bit h.top h.val
theorem iabs_neg_eq (n : Int) : iabs (- n) = iabs n := by unfold iabs; split <;> split <;> omega
theorem neg_sgn {w : World} {a : Int} {s : Bool} {A : Option Addr} {l : List Int} {c : Nat} (h : IsBig w a s A l c) : (!s && decide (0 < Go.Proofs.Ytenehpcliajdnaa.val l)) = decide (- a < 0) := by
  rw [h.val, h.sgn, Bool.eq_iff_iff]; simp; unfold iabs; split <;> omega
set_option maxRecDepth 100000 in
set_option maxHeartbeats 2000000 in
theorem bigNeg (a : Int) (s : Bool) (la : List Int) (A : Option Addr) (c L : Nat) (w : World) (hL : L ≤ 1000000) (hla : la.length ≤ L) (ha : IsBig w a s A la c) :
    Calls Try.prog 17 #[.agg #[.bool s, .slice A la.length c]] w (BigPost w (- a) L) := by
  have HSG := Lib.hid (neg_sgn ha)
  have HA := Lib.hid ha
  clear ha
  go_enter Try.func17, Try.ntmps17
  go_wp2_with (go_at_call 46; (with_reducible refine (bigTrim _ la A c _ (by omega) (HA.out.rd.keep (by (repeat' (first | (with_reducible exact Below.refl _ _) | (with_reducible assumption) | (with_reducible refine Below.alloc ?_ ?_ _) | (with_reducible refine Below.setCell ?_ ?_ _) | (with_reducible refine Below.drew ?_) | (with_reducible refine below_drewN ?_ _) | (with_reducible refine below_via ?_ (by with_reducible assumption) ?_) | omega | (simp; done) | (simp; omega))))) HA.out.bit HA.out.cap HA.out.room).mono ?_); rintro e w2 ⟨l2, rfl, hk2, ht2, hv2, hb2⟩; have Hv2 := Lib.hid hv2; clear hv2; have Hk2 := Lib.hid hk2; clear hk2; obtain ⟨fc2, fg2, hc2, hf2, hz2⟩ := bget hb2; (try simp at hz2))
  have r0 : w2.cell? ⟨w.heap.size + 1, 0, none⟩ = some (.bool false) := by simp [go_sem, hc2]
  have r1 : w2.cell? ⟨w.heap.size + 1, 1, none⟩ = some (.slice none 0 0) := by simp [go_sem, hc2]
  have hB := trim_big ((HA.out.rd.keep (by (repeat' (first | (with_reducible exact Below.refl _ _) | (with_reducible assumption) | (with_reducible refine Below.alloc ?_ ?_ _) | (with_reducible refine Below.setCell ?_ ?_ _) | (with_reducible refine Below.drew ?_) | (with_reducible refine below_drewN ?_ _) | (with_reducible refine below_via ?_ (by with_reducible assumption) ?_) | omega | (simp; done) | (simp; omega))))).keep hb2) HA.out.bit Hk2.out ht2 Hv2.out (by rw [HA.out.val, ← iabs_neg_eq]) HA.out.cap HA.out.room HSG.out
  have hl2 := trim_len Hk2.out
  refine bodyPost_ret (v := .agg #[.bool (!s && decide (0 < Go.Proofs.Ytenehpcliajdnaa.val la)), .slice A l2.length c]) (by simp [results, Try.results17, go_sem, r0, r1]; try rfl) rfl ⟨_, A, l2, c, rfl, (hB.far r0 (by simp) _).far ((World.cell?_setCell_other _ _ _ _ (by simp)).trans r1) (by simp) _, by omega, ?_⟩
  (repeat' (first | (with_reducible exact Below.refl _ _) | (with_reducible assumption) | (with_reducible refine Below.alloc ?_ ?_ _) | (with_reducible refine Below.setCell ?_ ?_ _) | (with_reducible refine Below.drew ?_) | (with_reducible refine below_drewN ?_ _) | (with_reducible refine below_via ?_ (by with_reducible assumption) ?_) | omega | (simp; done) | (simp; omega)))
set_option maxRecDepth 100000 in
set_option maxHeartbeats 2000000 in
theorem bigSub (a b : Int) (sa sb : Bool) (la lb : List Int) (A B : Option Addr) (c d L : Nat) (w : World) (hL : L ≤ 1000000) (hla : la.length ≤ L) (hlb : lb.length ≤ L) (ha : IsBig w a sa A la c) (hb : IsBig w b sb B lb d) :
    Calls Try.prog 39 #[.agg #[.bool sa, .slice A la.length c], .agg #[.bool sb, .slice B lb.length d]] w (BigPost w (a - b) (L + 1)) := by
  have HA := Lib.hid ha
  have HB := Lib.hid hb
  clear ha hb
  rw [show a - b = a + - b from by omega]
  go_enter Try.func39, Try.ntmps39
  go_wp2_with fail
  go_region_held3 (fun w' => w'.cell? ⟨w.heap.size, 0, none⟩ = some (.bool sa) ∧ w'.cell? ⟨w.heap.size, 1, none⟩ = some (.slice A la.length c) ∧ w'.cell? ⟨w.heap.size + 1, 0, none⟩ = some (.bool sb) ∧ w'.cell? ⟨w.heap.size + 1, 1, none⟩ = some (.slice B lb.length d)) (first | (simp [go_sem]; done) | (repeat' (first | (with_reducible assumption) | (with_reducible refine And.intro ?_ ?_) | (with_reducible refine cell_drew ?_) | (with_reducible refine cell_via (by with_reducible assumption) ?_ ?_) | (simp [*]; done) | (simp [go_sem]; done) | (with_reducible refine cell_alloc ?_ ?_) | (with_reducible refine cell_set_far ?_ ?_) | omega | (simp; omega)))) (first | (go_at_call 17; (with_reducible refine (bigNeg b sb lb B d L _ hL hlb (HB.out.keep (by (repeat' (first | (with_reducible exact Below.refl _ _) | (with_reducible assumption) | (with_reducible refine Below.alloc ?_ ?_ _) | (with_reducible refine Below.setCell ?_ ?_ _) | (with_reducible refine Below.drew ?_) | (with_reducible refine below_drewN ?_ _) | (with_reducible refine below_via ?_ (by with_reducible assumption) ?_) | omega | (simp; done) | (simp; omega)))))).mono ?_); rintro e w1 ⟨s1, A1, l1, c1, rfl, hB1, hl1, hb1⟩; obtain ⟨fc1, fg1, hc1, hf1, hz1⟩ := bget hb1; simp at hz1) | (go_at_call 14; (with_reducible refine (bigAdd a (- b) sa s1 la l1 A A1 c c1 L _ hL hla hl1 (HA.out.keep (by (repeat' (first | (with_reducible exact Below.refl _ _) | (with_reducible assumption) | (with_reducible refine Below.alloc ?_ ?_ _) | (with_reducible refine Below.setCell ?_ ?_ _) | (with_reducible refine Below.drew ?_) | (with_reducible refine below_drewN ?_ _) | (with_reducible refine below_via ?_ (by with_reducible assumption) ?_) | omega | (simp; done) | (simp; omega))))) hB1).mono ?_); rintro e w2 ⟨s2, A2, l2, c2, rfl, hB2, hl2, hb2⟩; obtain ⟨fc2, fg2, hc2, hf2, hz2⟩ := bget hb2))
  go_wp2_with fail
  all_goals
    have r0 : w2.cell? ⟨w.heap.size + 1 + 1, 0, none⟩ = some (.bool false) := by simp [go_sem, hc2, hc1, ↓IntWalk.iteOmega]
    have r1 : w2.cell? ⟨w.heap.size + 1 + 1, 1, none⟩ = some (.slice none 0 0) := by simp [go_sem, hc2, hc1, ↓IntWalk.iteOmega]
    refine bodyPost_ret (v := .agg #[.bool s2, .slice A2 l2.length c2]) (by simp [results, Try.results39, go_sem, r0, r1]; try rfl) rfl ⟨s2, A2, l2, c2, rfl, (hB2.far r0 (by simp) _).far ((World.cell?_setCell_other _ _ _ _ (by simp)).trans r1) (by simp) _, hl2, ?_⟩
    (repeat' (first | (with_reducible exact Below.refl _ _) | (with_reducible assumption) | (with_reducible refine Below.alloc ?_ ?_ _) | (with_reducible refine Below.setCell ?_ ?_ _) | (with_reducible refine Below.drew ?_) | (with_reducible refine below_drewN ?_ _) | (with_reducible refine below_via ?_ (by with_reducible assumption) ?_) | omega | (simp; done) | (simp; omega)))
theorem big_len_pos {w : World} {n : Int} {s : Bool} {A : Option Addr} {l : List Int} {c : Nat} (h : IsBig w n s A l c) (hn : n ≠ 0) : 0 < l.length := by
  rcases Nat.eq_zero_or_pos l.length with h1 | h1
  · exfalso; apply hn
    have h2 := List.eq_nil_of_length_eq_zero h1
    have h3 := h.val
    rw [h2] at h3; simp [Go.Proofs.Ytenehpcliajdnaa.val] at h3; unfold iabs at h3; split at h3 <;> omega
  · exact h1
set_option maxRecDepth 100000 in
set_option maxHeartbeats 2000000 in
theorem bigCmp (a b : Int) (sa sb : Bool) (la lb : List Int) (A B : Option Addr) (c d L : Nat) (w : World) (hL : L ≤ 1000000) (hla : la.length ≤ L) (hlb : lb.length ≤ L) (ha : IsBig w a sa A la c) (hb : IsBig w b sb B lb d) :
    Calls Try.prog 18 #[.agg #[.bool sa, .slice A la.length c], .agg #[.bool sb, .slice B lb.length d]] w fun e w' => e = .returned (.int .i64 (ord a b)) ∧ Below w.heap.size w w' := by
  have HA := Lib.hid ha
  have HB := Lib.hid hb
  clear ha hb
  go_enter Try.func18, Try.ntmps18
  go_wp2_with fail
  refine (bigSub a b sa sb la lb A B c d L _ hL hla hlb (HA.out.keep (by (repeat' (first | (with_reducible exact Below.refl _ _) | (with_reducible assumption) | (with_reducible refine Below.alloc ?_ ?_ _) | (with_reducible refine Below.setCell ?_ ?_ _) | (with_reducible refine Below.drew ?_) | (with_reducible refine below_drewN ?_ _) | (with_reducible refine below_via ?_ (by with_reducible assumption) ?_) | omega | (simp; done) | (simp; omega))))) (HB.out.keep (by (repeat' (first | (with_reducible exact Below.refl _ _) | (with_reducible assumption) | (with_reducible refine Below.alloc ?_ ?_ _) | (with_reducible refine Below.setCell ?_ ?_ _) | (with_reducible refine Below.drew ?_) | (with_reducible refine below_drewN ?_ _) | (with_reducible refine below_via ?_ (by with_reducible assumption) ?_) | omega | (simp; done) | (simp; omega)))))).mono ?_
  rintro e w1 ⟨s1, A1, l1, c1, rfl, hB1, hl1, hb1⟩
  obtain ⟨fc1, fg1, hc1, hf1, hz1⟩ := bget hb1
  simp at hz1
  have HB1 := Lib.hid hB1
  clear hB1
  by_cases h0 : a - b = 0
  · have hl0 : l1 = [] := by have := HB1.out; rw [h0] at this; exact big_zero this
    subst hl0
    have ho : ord a b = 0 := by unfold ord; rw [if_neg (by omega), if_neg (by omega)]
    have HO := Lib.hid ho
    clear h0 ho
    go_wp2_with fail
    go_ret
    exact ⟨by rw [HO.out]; rfl, by (repeat' (first | (with_reducible exact Below.refl _ _) | (with_reducible assumption) | (with_reducible refine Below.alloc ?_ ?_ _) | (with_reducible refine Below.setCell ?_ ?_ _) | (with_reducible refine Below.drew ?_) | (with_reducible refine below_drewN ?_ _) | (with_reducible refine below_via ?_ (by with_reducible assumption) ?_) | omega | (simp; done) | (simp; omega)))⟩
  · have hl0 := big_len_pos HB1.out h0
    have hs := HB1.out.sgn
    by_cases h1 : a - b < 0
    · have d0 : s1 = true := by rw [hs]; simpa using h1
      subst d0
      have ho : ord a b = -1 := by unfold ord; rw [if_pos (by omega)]
      have HO := Lib.hid ho
      clear ho hs
      go_wp2_with fail
      go_ret
      exact ⟨by rw [HO.out]; rfl, by (repeat' (first | (with_reducible exact Below.refl _ _) | (with_reducible assumption) | (with_reducible refine Below.alloc ?_ ?_ _) | (with_reducible refine Below.setCell ?_ ?_ _) | (with_reducible refine Below.drew ?_) | (with_reducible refine below_drewN ?_ _) | (with_reducible refine below_via ?_ (by with_reducible assumption) ?_) | omega | (simp; done) | (simp; omega)))⟩
    · have d0 : s1 = false := by rw [hs]; simpa using h1
      subst d0
      have ho : ord a b = 1 := by unfold ord; rw [if_neg (by omega), if_pos (by omega)]
      have HO := Lib.hid ho
      clear ho hs
      go_wp2_with fail
      go_ret
      exact ⟨by rw [HO.out]; rfl, by (repeat' (first | (with_reducible exact Below.refl _ _) | (with_reducible assumption) | (with_reducible refine Below.alloc ?_ ?_ _) | (with_reducible refine Below.setCell ?_ ?_ _) | (with_reducible refine Below.drew ?_) | (with_reducible refine below_drewN ?_ _) | (with_reducible refine below_via ?_ (by with_reducible assumption) ?_) | omega | (simp; done) | (simp; omega)))⟩
end Go.Proofs.Ytenehpcliajdnaa

/- Contracts of the reference's Within, Fits, Int. -/
namespace Go.Proofs.Ytenehpcliajdnaa
open Go.RowKit
def inW (a : Int) (n : Nat) : Bool := decide (- pw (n - 1) ≤ a ∧ a < pw (n - 1))
theorem len_lt_iff {l : List Int} (h : Bit l) (ht : Top l) {n : Nat} (hn : 1 ≤ n) : l.length < n ↔ Go.Proofs.Ytenehpcliajdnaa.val l < pw (n - 1) := by
  constructor
  · intro h1
    have := val_lt h
    have := pw_le (show l.length ≤ n - 1 by omega)
    omega
  · intro h1
    have := len_le h ht h1
    omega
theorem inW_pos {w : World} {a : Int} {A : Option Addr} {l : List Int} {c : Nat} (h : IsBig w a false A l c) {n : Nat} (hn : 1 ≤ n) : decide (l.length < n) = inW a n := by
  have ha : 0 ≤ a := by have := h.sgn; simpa using this
  have h1 := len_lt_iff h.bit h.top hn
  have h2 := h.val
  have h3 := pw_pos (n - 1)
  rw [iabs_pos ha] at h2
  unfold inW
  rw [decide_eq_decide]
  omega
theorem inW_neg {w : World} {a : Int} {s : Bool} {A : Option Addr} {l : List Int} {c : Nat} (ha : a < 0) (h : IsBig w (a + 1) s A l c) {n : Nat} (hn : 1 ≤ n) : decide (l.length < n) = inW a n := by
  have h1 := len_lt_iff h.bit h.top hn
  have h2 := h.val
  have h3 := pw_pos (n - 1)
  have h4 : iabs (a + 1) = - (a + 1) := by unfold iabs; split <;> omega
  rw [h4] at h2
  unfold inW
  rw [decide_eq_decide]
  omega
set_option maxRecDepth 100000 in
set_option maxHeartbeats 2000000 in
theorem bigWithin (a : Int) (n : Nat) (s : Bool) (l : List Int) (A : Option Addr) (c L : Nat) (w : World) (hL : L ≤ 900000) (hl : l.length ≤ L) (hn : 1 ≤ n ∧ n ≤ 1000) (ha : IsBig w a s A l c) :
    Calls Try.prog 77 #[.agg #[.bool s, .slice A l.length c], .int .i64 n] w fun e w' => e = .returned (.bool (inW a n)) ∧ Below w.heap.size w w' := by
  have HA := Lib.hid ha
  have hs := ha.sgn
  clear ha
  cases s
  · have HI := Lib.hid (inW_pos HA.out hn.1)
    clear hs
    go_enter Try.func77, Try.ntmps77
    go_wp2_with fail
    go_ret
    exact ⟨by rw [← HI.out]; rfl, by (repeat' (first | (with_reducible exact Below.refl _ _) | (with_reducible assumption) | (with_reducible refine Below.alloc ?_ ?_ _) | (with_reducible refine Below.setCell ?_ ?_ _) | (with_reducible refine Below.drew ?_) | (with_reducible refine below_drewN ?_ _) | (with_reducible refine below_via ?_ (by with_reducible assumption) ?_) | omega | (simp; done) | (simp; omega)))⟩
  · have HN : Hid (a < 0) := by unfold Hid; simpa using hs.symm
    clear hs
    go_enter Try.func77, Try.ntmps77
    go_wp2_with fail
    go_region_with (first | (go_at_call 50; (with_reducible refine (bigNat 1 _ (by omega) (by omega)).mono ?_); rintro e w1 ⟨A1, l1, c1, rfl, hB1, hl1', hb1⟩; have HB1 := Lib.hid hB1; clear hB1; obtain ⟨fc1, fg1, hc1, hf1, hz1⟩ := bget hb1; (try simp at hz1)) | (go_at_call 14; (with_reducible refine (bigAdd a 1 true false l l1 A A1 c c1 (L + 64) _ (by omega) (by omega) (by omega) (HA.out.keep (by (repeat' (first | (with_reducible exact Below.refl _ _) | (with_reducible assumption) | (with_reducible refine Below.alloc ?_ ?_ _) | (with_reducible refine Below.setCell ?_ ?_ _) | (with_reducible refine Below.drew ?_) | (with_reducible refine below_drewN ?_ _) | (with_reducible refine below_via ?_ (by with_reducible assumption) ?_) | omega | (simp; done) | (simp; omega))))) (HB1.out.keep (by (repeat' (first | (with_reducible exact Below.refl _ _) | (with_reducible assumption) | (with_reducible refine Below.alloc ?_ ?_ _) | (with_reducible refine Below.setCell ?_ ?_ _) | (with_reducible refine Below.drew ?_) | (with_reducible refine below_drewN ?_ _) | (with_reducible refine below_via ?_ (by with_reducible assumption) ?_) | omega | (simp; done) | (simp; omega)))))).mono ?_); rintro e w2 ⟨s2, A2, l2, c2, rfl, hB2, hl2, hb2⟩; have HB2 := Lib.hid hB2; clear hB2; obtain ⟨fc2, fg2, hc2, hf2, hz2⟩ := bget hb2; (try simp at hz2)))
    all_goals
      have HI := Lib.hid (inW_neg HN.out HB2.out hn.1)
      go_wp2_with fail
      go_ret
      exact ⟨by rw [← HI.out]; rfl, by (repeat' (first | (with_reducible exact Below.refl _ _) | (with_reducible assumption) | (with_reducible refine Below.alloc ?_ ?_ _) | (with_reducible refine Below.setCell ?_ ?_ _) | (with_reducible refine Below.drew ?_) | (with_reducible refine below_drewN ?_ _) | (with_reducible refine below_via ?_ (by with_reducible assumption) ?_) | omega | (simp; done) | (simp; omega)))⟩
theorem inW_64 (a : Int) : inW a 64 = decide (-9223372036854775808 ≤ a ∧ a ≤ 9223372036854775807) := by
  unfold inW
  rw [show pw (64 - 1) = 9223372036854775808 from by decide, decide_eq_decide]
  omega
theorem inW_128 (a : Int) : inW a 128 = in128 a := by
  unfold inW in128
  rw [show pw (128 - 1) = 170141183460469231731687303715884105728 from by decide, decide_eq_decide]
theorem bigWithin64 (a : Int) (s : Bool) (l : List Int) (A : Option Addr) (c L : Nat) (w : World) (hL : L ≤ 900000) (hl : l.length ≤ L) (ha : IsBig w a s A l c) :
    Calls Try.prog 77 #[.agg #[.bool s, .slice A l.length c], .int .i64 64] w fun e w' => e = .returned (.bool (in64 a)) ∧ Below w.heap.size w w' := by
  rw [show in64 a = inW a 64 from (inW_64 a).symm]
  exact bigWithin a 64 s l A c L w hL hl (by omega) ha
set_option maxRecDepth 100000 in
set_option maxHeartbeats 2000000 in
theorem bigFits (a : Int) (s : Bool) (l : List Int) (A : Option Addr) (c L : Nat) (w : World) (hL : L ≤ 900000) (hl : l.length ≤ L) (ha : IsBig w a s A l c) :
    Calls Try.prog 54 #[.agg #[.bool s, .slice A l.length c]] w fun e w' => e = .returned (.bool (in64 a)) ∧ Below w.heap.size w w' := by
  have HA := Lib.hid ha
  have c1 := fun W (h : IsBig W a s A l c) => bigWithin64 a s l A c L W hL hl h
  have C1 := Lib.hid c1
  clear ha c1
  go_enter Try.func54, Try.ntmps54
  go_wp2_with (go_at_call 77; (with_reducible refine (C1.out _ (HA.out.keep (by (repeat' (first | (with_reducible exact Below.refl _ _) | (with_reducible assumption) | (with_reducible refine Below.alloc ?_ ?_ _) | (with_reducible refine Below.setCell ?_ ?_ _) | (with_reducible refine Below.drew ?_) | (with_reducible refine below_drewN ?_ _) | (with_reducible refine below_via ?_ (by with_reducible assumption) ?_) | omega | (simp; done) | (simp; omega)))))).mono ?_); rintro e w1 ⟨rfl, hb1⟩; obtain ⟨fc1, fg1, hc1, hf1, hz1⟩ := bget hb1; try simp at hz1)
  go_ret
  exact ⟨rfl, by (repeat' (first | (with_reducible exact Below.refl _ _) | (with_reducible assumption) | (with_reducible refine Below.alloc ?_ ?_ _) | (with_reducible refine Below.setCell ?_ ?_ _) | (with_reducible refine Below.drew ?_) | (with_reducible refine below_drewN ?_ _) | (with_reducible refine below_via ?_ (by with_reducible assumption) ?_) | omega | (simp; done) | (simp; omega)))⟩
theorem val_drop_pred {l : List Int} {k : Nat} (h0 : 0 < k) (hk : k ≤ l.length) : Go.Proofs.Ytenehpcliajdnaa.val (l.drop (k - 1)) = l.getD (k - 1) 0 + 2 * Go.Proofs.Ytenehpcliajdnaa.val (l.drop k) := by
  have h1 : k - 1 < l.length := by omega
  rw [List.drop_eq_getElem_cons h1, show k - 1 + 1 = k from by omega]
  simp [Go.Proofs.Ytenehpcliajdnaa.val, List.getD_eq_getElem?_getD, h1]
theorem val_drop_le {l : List Int} (h : Bit l) (k : Nat) (hk : k ≤ l.length) : 0 ≤ Go.Proofs.Ytenehpcliajdnaa.val (l.drop k) ∧ Go.Proofs.Ytenehpcliajdnaa.val (l.drop k) ≤ Go.Proofs.Ytenehpcliajdnaa.val l := by
  have h1 := val_nonneg (bit_drop h k)
  have h2 := val_nonneg (bit_take h k)
  have h3 := val_split l k hk
  have h4 := pw_pos k
  have h5 : 1 * Go.Proofs.Ytenehpcliajdnaa.val (l.drop k) ≤ pw k * Go.Proofs.Ytenehpcliajdnaa.val (l.drop k) := Int.mul_le_mul_of_nonneg_right (by omega) h1
  omega
set_option maxRecDepth 100000 in
set_option maxHeartbeats 2000000 in
theorem bigInt (a : Int) (s : Bool) (l : List Int) (A : Option Addr) (c : Nat) (w : World) (hl : l.length ≤ 1000000) (h64 : In64 a) (ha : IsBig w a s A l c) :
    Calls Try.prog 51 #[.agg #[.bool s, .slice A l.length c]] w fun e w' => e = .returned (.int .i64 a) ∧ Below w.heap.size w w' := by
  have HA := Lib.hid ha
  have hs := ha.sgn
  have hv : Go.Proofs.Ytenehpcliajdnaa.val l = iabs a := ha.val
  have hbit := Lib.hid ha.bit
  have Hr := Lib.hid ha.rd
  unfold In64 at h64
  clear ha
  cases s
  · have hn : 0 ≤ a := by simpa using hs
    rw [iabs_pos hn] at hv
    have HV := Lib.hid hv
    clear hs hv
    go_enter Try.func51, Try.ntmps51
    go_wp2_with fail
    go_loopw [3, 4] (fun n i wr => ∃ k : Nat, k ≤ l.length ∧ i = .int .i64 k ∧ n = .int .i64 (Go.Proofs.Ytenehpcliajdnaa.val (l.drop k)) ∧ Below (w.heap.size + 1) (w.alloc (.cells #[.bool false, .slice A l.length c] 30)) wr) (fun _ i _ => (intOf i).toNat)
    case atStart => exact ⟨l.length, Nat.le_refl _, rfl, by rw [List.drop_length]; rfl, by (repeat' (first | (with_reducible exact Below.refl _ _) | (with_reducible assumption) | (with_reducible refine Below.alloc ?_ ?_ _) | (with_reducible refine Below.setCell ?_ ?_ _) | (with_reducible refine Below.drew ?_) | (with_reducible refine below_drewN ?_ _) | (with_reducible refine below_via ?_ (by with_reducible assumption) ?_) | omega | (simp; done) | (simp; omega)))⟩
    case round =>
      obtain ⟨k, hk, rfl, rfl, hbl⟩ := hrel
      have Hbl := Lib.hid hbl
      have hz := hbl.size
      simp at hz
      have r0 := (hbl.cell (p := ⟨w.heap.size, 0, none⟩) (by simp))
      have r1 := (hbl.cell (p := ⟨w.heap.size, 1, none⟩) (by simp))
      simp at r0 r1
      clear hbl
      by_cases h0 : k = 0
      · subst h0
        have HE := Lib.hid (show Go.Proofs.Ytenehpcliajdnaa.val (l.drop 0) = a from by rw [List.drop_zero]; exact HV.out)
        go_wp2_with fail
        go_ret
        exact ⟨by rw [← HE.out]; rfl, by have hbl := Hbl.out; have h2 : Below w.heap.size w wr := ((Below.refl _ _).alloc (Nat.le_refl _) _).trans (hbl.mono (by omega)); exact h2⟩
      · have k0 : 0 < k := by omega
        have d0 : decide (0 < k) = true := by simpa using k0
        have b0 := val_drop_le hbit.out k hk
        have b1 := val_drop_le hbit.out (k - 1) (by omega)
        have HP := Lib.hid (val_drop_pred k0 hk)
        have hv1 := HP.out
        have gx := bit_get hbit.out (k - 1)
        obtain ⟨b2, o2, rfl, hb2, c2⟩ := bit_cell Hr.out (Below.refl w.heap.size w) (Nat.le_refl _) (show k - 1 < l.length from by omega)
        have e2 : wr.cell? ⟨b2, o2 + (k - 1), none⟩ = some (.int .u8 (l.getD (k - 1) 0)) := (Hbl.out.cell (p := ⟨b2, o2 + (k - 1), none⟩) (by simp; omega)).trans ((World.cell?_alloc_lt w _ ⟨b2, o2 + (k - 1), none⟩ hb2).trans c2)
        obtain ⟨x, hx⟩ : ∃ x, x = l.getD (k - 1) 0 := ⟨_, rfl⟩
        obtain ⟨v, hvv⟩ : ∃ v, v = Go.Proofs.Ytenehpcliajdnaa.val (l.drop k) := ⟨_, rfl⟩
        rw [← hx] at e2 gx hv1 HP
        rw [← hvv] at b0 hv1 HP ⊢
        have hvl : v ≤ 4611686018427387904 := by have := HV.out; omega
        have hvx : 2 * v + x ≤ 9223372036854775807 := by have := HV.out; omega
        clear hv1 hvv hx c2 b1
        go_wp2_with fail
        go_roundw
        case rel => exact ⟨k - 1, by omega, by go_num, by rw [HP.out]; go_num, Hbl.out⟩
        case measure => simp [intOf]; omega
  · have hn : a < 0 := by simpa using hs.symm
    rw [iabs_neg hn] at hv
    have HV := Lib.hid hv
    clear hs hv
    go_enter Try.func51, Try.ntmps51
    go_wp2_with fail
    go_loopw [3, 4] (fun n i wr => ∃ k : Nat, k ≤ l.length ∧ i = .int .i64 k ∧ n = .int .i64 (- Go.Proofs.Ytenehpcliajdnaa.val (l.drop k)) ∧ Below (w.heap.size + 1) (w.alloc (.cells #[.bool true, .slice A l.length c] 30)) wr) (fun _ i _ => (intOf i).toNat)
    case atStart => exact ⟨l.length, Nat.le_refl _, rfl, by rw [List.drop_length]; rfl, by (repeat' (first | (with_reducible exact Below.refl _ _) | (with_reducible assumption) | (with_reducible refine Below.alloc ?_ ?_ _) | (with_reducible refine Below.setCell ?_ ?_ _) | (with_reducible refine Below.drew ?_) | (with_reducible refine below_drewN ?_ _) | (with_reducible refine below_via ?_ (by with_reducible assumption) ?_) | omega | (simp; done) | (simp; omega)))⟩
    case round =>
      obtain ⟨k, hk, rfl, rfl, hbl⟩ := hrel
      have Hbl := Lib.hid hbl
      have hz := hbl.size
      simp at hz
      have r0 := (hbl.cell (p := ⟨w.heap.size, 0, none⟩) (by simp))
      have r1 := (hbl.cell (p := ⟨w.heap.size, 1, none⟩) (by simp))
      simp at r0 r1
      clear hbl
      by_cases h0 : k = 0
      · subst h0
        have HE := Lib.hid (show - Go.Proofs.Ytenehpcliajdnaa.val (l.drop 0) = a from by rw [List.drop_zero, HV.out]; omega)
        go_wp2_with fail
        go_ret
        exact ⟨by rw [← HE.out]; rfl, by have hbl := Hbl.out; have h2 : Below w.heap.size w wr := ((Below.refl _ _).alloc (Nat.le_refl _) _).trans (hbl.mono (by omega)); exact h2⟩
      · have k0 : 0 < k := by omega
        have d0 : decide (0 < k) = true := by simpa using k0
        have b0 := val_drop_le hbit.out k hk
        have b1 := val_drop_le hbit.out (k - 1) (by omega)
        have HP := Lib.hid (val_drop_pred k0 hk)
        have hv1 := HP.out
        have gx := bit_get hbit.out (k - 1)
        obtain ⟨b2, o2, rfl, hb2, c2⟩ := bit_cell Hr.out (Below.refl w.heap.size w) (Nat.le_refl _) (show k - 1 < l.length from by omega)
        have e2 : wr.cell? ⟨b2, o2 + (k - 1), none⟩ = some (.int .u8 (l.getD (k - 1) 0)) := (Hbl.out.cell (p := ⟨b2, o2 + (k - 1), none⟩) (by simp; omega)).trans ((World.cell?_alloc_lt w _ ⟨b2, o2 + (k - 1), none⟩ hb2).trans c2)
        obtain ⟨x, hx⟩ : ∃ x, x = l.getD (k - 1) 0 := ⟨_, rfl⟩
        obtain ⟨v, hvv⟩ : ∃ v, v = Go.Proofs.Ytenehpcliajdnaa.val (l.drop k) := ⟨_, rfl⟩
        rw [← hx] at e2 gx hv1 HP
        rw [← hvv] at b0 hv1 HP ⊢
        have hvl : v ≤ 4611686018427387904 := by have := HV.out; omega
        have hvx : 2 * v + x ≤ 9223372036854775808 := by have := HV.out; omega
        clear hv1 hvv hx c2 b1
        go_wp2_with fail
        go_roundw
        case rel => exact ⟨k - 1, by omega, by go_num, by rw [HP.out]; go_num, Hbl.out⟩
        case measure => simp [intOf]; omega
end Go.Proofs.Ytenehpcliajdnaa

/- Rows of bits: product, quotient, shift. Plain. -/
namespace Go.Proofs.Ytenehpcliajdnaa
theorem val_cons (b : Int) (l : List Int) : val (b :: l) = b + 2 * val l := rfl
theorem bit_cons {b : Int} {l : List Int} (h : Bit l) (h0 : 0 ≤ b) (h1 : b ≤ 1) : Bit (b :: l) := by
  intro x hx
  rcases List.mem_cons.1 hx with e | e
  · subst e; exact ⟨h0, h1⟩
  · exact h x e
theorem top_cons {b : Int} {l : List Int} (h : Top l) (hne : l ≠ []) : Top (b :: l) := by
  intro x hx
  rw [List.getLast?_cons_of_ne_nil hne] at hx
  exact h x hx
/-- The row of round i: la, i places up. -/
theorem row_next {R la : List Int} {i : Nat} (h : val R = pw i * val la) : val (0 :: R) = pw (i + 1) * val la := by
  rw [val_cons, h, pw_succ, Int.mul_assoc]; omega
theorem sum_one {S S' R la lb : List Int} {i : Nat} (hS : val S = val la * val (lb.take i)) (hR : val R = pw i * val la) (hb : lb.getD i 0 = 1) (hS' : val S' = val S + val R) : val S' = val la * val (lb.take (i + 1)) := by
  rw [hS', hS, hR, take_succD, hb, Int.mul_add, Int.mul_one, Int.mul_comm (pw i)]
theorem sum_none {S la lb : List Int} {i : Nat} (hS : val S = val la * val (lb.take i)) (hb : lb.getD i 0 = 0) : val S = val la * val (lb.take (i + 1)) := by
  rw [hS, take_succD, hb, Int.mul_zero, Int.add_zero]
/-- One round of the long division: the next bit below. -/
theorem quo_step {q : List Int} {r r' d bit x v v' : Int} (hq : val q * d + r = v) (hx : v' = x + 2 * v) (hr : 2 * r + x = bit * d + r') : val (bit :: q) * d + r' = v' := by
  rw [val_cons, Int.add_mul, Int.mul_assoc]; omega
end Go.Proofs.Ytenehpcliajdnaa

/- The contract of the reference's Wide. -/
namespace Go.Proofs.Ytenehpcliajdnaa
open Go.RowKit
theorem encB_one (l : List Int) : ∀ r ∈ l.map encB, r.length = 1 ∧ ∀ u ∈ r, u.oneCell' = true := by
  intro r hr
  obtain ⟨m, _, rfl⟩ := List.mem_map.1 hr
  refine ⟨rfl, ?_⟩
  simp only [encB, List.mem_cons, List.not_mem_nil, or_false, forall_eq]
  rfl
theorem IsBig.up {w w' : World} {x : Int} {s : Bool} {A B : Option Addr} {l : List Int} {c d : Nat} (h : IsBig w x s A l c) (hne : l ≠ []) (hr : Rd w' B 1 ((0 :: l).map encB)) (hc : (0 :: l).length ≤ d) (hm : d ≤ maxLen) : IsBig w' (2 * x) s B (0 :: l) d := by
  refine ⟨hr, bit_cons h.bit (by omega) (by omega), top_cons h.top hne, ?_, hc, hm, ?_⟩
  · rw [val_cons, h.val]; unfold iabs; split <;> split <;> omega
  · rw [h.sgn, decide_eq_decide]; omega
theorem pw64 : pw 64 = 18446744073709551616 := by decide
end Go.Proofs.Ytenehpcliajdnaa

/- append(v, x...) onto a slice of the call's own, whatever x is; a nil x too, whatever its room. -/
namespace Go.Proofs.Ytenehpcliajdnaa
open Go.RowKit
theorem run_append_none {P : Program} {w : World} (base : Nat) (t ty e : TypeId) (i : TypeInfo) (size : Nat) (ht : P.underlying t = some (.slice e)) (hi : P.info? e = some i)
    (v : Value) (n c : Nat) (xs : List Value) (hown : w.ownsRow base e size v n xs) :
    (Builtin.append_ #[t, t] ty #[v, .slice none 0 c]).run P w = .ok v w := by
  rcases hown.2 with ⟨rfl, rfl⟩ | ⟨g, cap, cur, rfl, _, _, hnc, _⟩
  · simp [Builtin.append_, run_underlying ht, sizeOf, typeInfo, hi, Builtin.lenOf, Builtin.firstCells]
  · simp [Builtin.append_, run_underlying ht, sizeOf, typeInfo, hi, Builtin.lenOf, Builtin.firstCells, hnc, storeCells]
theorem wpList_any {P : Program} {ops : Array Oper} {rest : List Oper} {o : Oper} {a : Act} {Q : Exit → Act → World → Prop} {w : World} (hgd : o.guard = none) (s x : Operand) (T : TypeId)
    (ho : o.op = .call { callee := .builtin .append, args := #[s, x], argTypes := #[T, T] }) {E k bytes : Nat} (el : Elem P T E k bytes)
    (base : Nat) (v : Value) (rows : List (List Value)) (hs : a.eval s = v) (hown : Own w base E k v rows)
    (A : Option Addr) (m c : Nat) (hx : a.eval x = .slice A m c) (news : List (List Value)) (hm : news.length = m) (hr : Rd w A k news) (hk : ∀ r ∈ news, r.length = k ∧ ∀ u ∈ r, u.oneCell' = true)
    (h63 : rows.length + m ≤ maxLen) (hbytes : (rows.length + m) * bytes ≤ 140737488355328) (hbase : base ≤ w.heap.size)
    (h : ∀ v' w', Own w' base E k v' (rows ++ news) → Below base w w' → wpList P ops Q rest (a.put o.dst v') w') : wpList P ops Q (o :: rest) a w := by
  rcases A with _ | ad
  · have hn : news = [] := by
      rcases news with _ | ⟨r, news⟩
      · rfl
      · obtain ⟨b, o, hA, _⟩ := hr 0 r rfl
        cases hA
    subst hn
    simp at hm
    subst hm
    refine wpList_plain hgd fun _ hK => ?_
    obtain ⟨i, z, hi, hz, hsize, hby, hzs⟩ := el.info
    have hrun := run_append_none (P := P) (w := w) base T o.type E i k el.ty hi v rows.length c rows.flatten hown.2
    unfold Oper.wp
    simp [execOp, ho, resolve, invoke, builtin, hs, hx, hrun, Result.andThen]
    exact hK _ _ (h v w (by simpa using hown) (Below.refl _ _))
  · exact wpList_app hgd s x T ho el base v rows hs hown (some ad) m c hx news hm (fun h => by cases h) hr hk h63 hbytes hbase h
end Go.Proofs.Ytenehpcliajdnaa

/- The contract of the reference's Mul. -/
namespace Go.Proofs.Ytenehpcliajdnaa
open Go.RowKit
theorem mul_sgn {a b x : Int} {sa sb : Bool} (ha : sa = decide (a < 0)) (hb : sb = decide (b < 0)) (hx : x = iabs (a * b)) : (!(sa == sb) && decide (0 < x)) = decide (a * b < 0) := by
  have h := sgn_mul a b
  rw [iabs_mul, ← hx, ← ha, ← hb] at h
  have h0 : 0 ≤ x := by rw [hx]; unfold iabs; split <;> omega
  cases sa <;> cases sb <;> simp [sgn] at h ⊢ <;> omega
set_option maxRecDepth 100000 in
set_option maxHeartbeats 4000000 in
theorem bigMul (a b : Int) (sa sb : Bool) (la lb : List Int) (A B : Option Addr) (c d L : Nat) (w : World) (hL : L ≤ 100000) (hla : la.length ≤ L) (hlb : lb.length ≤ L) (ha : IsBig w a sa A la c) (hb : IsBig w b sb B lb d) :
    Calls Try.prog 15 #[.agg #[.bool sa, .slice A la.length c], .agg #[.bool sb, .slice B lb.length d]] w (BigPost w (a * b) (L + L)) := by
  have HA := Lib.hid ha
  have HB := Lib.hid hb
  clear ha hb
  go_enter Try.func15, Try.ntmps15
  go_wp2_with (first | (at_builtin; refine wpList_any rfl _ _ _ rfl elB (w.heap.size + 3) _ _ rfl (Own.nil _ _ _ _) A la.length c rfl (la.map encB) (by simp) (HA.out.rd.keep (by (repeat' (first | (with_reducible exact Below.refl _ _) | (with_reducible assumption) | (with_reducible refine Below.alloc ?_ ?_ _) | (with_reducible refine Below.setCell ?_ ?_ _) | (with_reducible refine Below.drew ?_) | (with_reducible refine below_drewN ?_ _) | (with_reducible refine below_via ?_ (by with_reducible assumption) ?_) | omega | (simp; done) | (simp; omega))))) (encB_one la) (by unfold maxLen; first | (simp; done) | omega | (simp; omega)) (by first | (simp; done) | omega | (simp; omega)) (by first | omega | (simp; done) | (simp; omega)) ?_; intro v1 w1 hown1 hb1; have hown2 : Own w1 (w.heap.size + 3) 5 1 v1 (la.map encB) := (by simpa using hown1); have HO1 := Lib.hid hown2; have Hb1 := Lib.hid hb1; have hz1 := hb1.size; simp at hz1; clear hown1 hown2 hb1) | fail)
  go_loopw [5, 6, 7] (fun sv rv i wr => ∃ (k : Nat) (S R : List Int), k ≤ lb.length ∧ i = .int .i64 k ∧ Own wr (w.heap.size + 3) 5 1 sv (S.map encB) ∧ Own wr (w.heap.size + 3) 5 1 rv (R.map encB) ∧ S.length ≤ la.length + k ∧ R.length = la.length + k ∧ Bit S ∧ Bit R ∧ val S = val la * val (lb.take k) ∧ val R = pw k * val la ∧ Below (w.heap.size + 3) w1 wr) (fun _ _ i _ => lb.length - (intOf i).toNat)
  case atStart => exact ⟨0, [], la, Nat.zero_le _, rfl, Own.nil _ _ _ _, HO1.out, by simp, by simp, bit_nil, HA.out.bit, by simp [val], by rw [pw_zero, Int.one_mul], Below.refl _ _⟩
  case round =>
    obtain ⟨k, S, R, hk, rfl, hoS, hoR, hlS, hlR, hbS, hbR, hvS, hvR, hbl⟩ := hrel
    have hz := hbl.size
    have hbl0 : Below (w.heap.size + 3) (((w.alloc (.cells #[.bool sa, .slice A la.length c] 30)).alloc (.cells #[.bool sb, .slice B lb.length d] 30)).alloc (.cells #[.bool false, .slice none 0 0] 30)) wr := Hb1.out.trans hbl
    have a0 := (hbl0.cell (p := ⟨w.heap.size, 0, none⟩) (by simp))
    have b0 := (hbl0.cell (p := ⟨w.heap.size + 1, 0, none⟩) (by simp))
    have b1 := (hbl0.cell (p := ⟨w.heap.size + 1, 1, none⟩) (by simp))
    have r0 := (hbl0.cell (p := ⟨w.heap.size + 1 + 1, 0, none⟩) (by simp))
    have r1 := (hbl0.cell (p := ⟨w.heap.size + 1 + 1, 1, none⟩) (by simp))
    have f0 := (hbl0.frozen (p := ⟨w.heap.size + 1 + 1, 0, none⟩) (by simp))
    have f1 := (hbl0.frozen (p := ⟨w.heap.size + 1 + 1, 1, none⟩) (by simp))
    simp [go_sem] at a0 b0 b1 r0 r1 f0 f1
    have hbw : Below w.heap.size w wr := by (repeat' (first | (with_reducible exact Below.refl _ _) | (with_reducible assumption) | (with_reducible refine Below.alloc ?_ ?_ _) | (with_reducible refine Below.setCell ?_ ?_ _) | (with_reducible refine Below.drew ?_) | (with_reducible refine below_drewN ?_ _) | (with_reducible refine below_via ?_ (by with_reducible assumption) ?_) | omega | (simp; done) | (simp; omega)))
    have Hbl := Lib.hid hbl
    have Hbl0 := Lib.hid hbl0
    have Hbw := Lib.hid hbw
    have HBS := Lib.hid hbS
    have HBR := Lib.hid hbR
    have HVS := Lib.hid hvS
    have HVR := Lib.hid hvR
    have lLR : R.length ≤ 1000000 := by omega
    have HLR := Lib.hid hlR
    have HOS := Lib.hid hoS
    have HOR := Lib.hid hoR
    obtain ⟨AS, cS, rfl, hcS, hmS, hrS, _⟩ := hoS.shape
    obtain ⟨AR, cR, rfl, hcR, hmR, hrR, _⟩ := hoR.shape
    have HRS := Lib.hid hrS
    have HRR := Lib.hid hrR
    have HCS := Lib.hid hcS
    rw [List.length_map] at HOS HOR ⊢
    rw [List.length_map] at HCS ⊢
    clear hlR hbl hbl0 hbw hbS hbR hvS hvR hoS hoR hrS hrR hcS hcR
    by_cases hlt : k < lb.length
    · have d1 : decide ((k : Int) < (lb.length : Int)) = true := by simpa using hlt
      have hx := bit_get HB.out.bit k
      obtain ⟨bb, bo, rfl, hbb, q1⟩ := bit_cell HB.out.rd Hbw.out (Nat.le_refl _) hlt
      obtain ⟨x, hxe⟩ : ∃ x, x = lb.getD k 0 := ⟨_, rfl⟩
      rw [← hxe] at q1 hx
      have HX := Lib.hid hxe
      clear hxe
      rcases (show x = 0 ∨ x = 1 by omega) with e | e
      · subst e
        go_wp2_with (first | ((at_builtin; refine wpList_app rfl _ _ _ rfl elB wr.heap.size _ _ rfl ((Own.nil wr wr.heap.size 5 1).alloc _) (some ⟨wr.heap.size, 0, none⟩) 1 1 rfl [encB 0] rfl (fun h => by cases h) rd_one ((by simp [encB]; rfl)) (by unfold maxLen; first | (simp; done) | omega | (simp; omega)) (by first | (simp; done) | omega | (simp; omega)) (by first | omega | (simp; done) | (simp; omega)) ?_; intro v' w3 hown3 hb3); obtain ⟨fc3, fg3, hc3, hf3, hz3⟩ := bget hb3; (try simp at hz3)) | (at_builtin; refine wpList_any rfl _ _ _ rfl elB wr.heap.size _ _ rfl hown3 AR R.length cR rfl (R.map encB) (by simp) (HRR.out.keep (by (repeat' (first | (with_reducible exact Below.refl _ _) | (with_reducible assumption) | (with_reducible refine Below.alloc ?_ ?_ _) | (with_reducible refine Below.setCell ?_ ?_ _) | (with_reducible refine Below.drew ?_) | (with_reducible refine below_drewN ?_ _) | (with_reducible refine below_via ?_ (by with_reducible assumption) ?_) | omega | (simp; done) | (simp; omega))))) (encB_one R) (by unfold maxLen; first | (simp; done) | omega | (simp; omega)) (by first | (simp; done) | omega | (simp; omega)) (by have := hb3.size; simp at this; omega) ?_; intro v4 w4 hown4 hb4; have hown5 : Own w4 wr.heap.size 5 1 v4 ((0 :: R).map encB) := (by simpa [encB] using hown4); have HO5 := Lib.hid hown5; have Hb4 := Lib.hid (show Below wr.heap.size wr w4 from (by (repeat' (first | (with_reducible exact Below.refl _ _) | (with_reducible assumption) | (with_reducible refine Below.alloc ?_ ?_ _) | (with_reducible refine Below.setCell ?_ ?_ _) | (with_reducible refine Below.drew ?_) | (with_reducible refine below_drewN ?_ _) | (with_reducible refine below_via ?_ (by with_reducible assumption) ?_) | omega | (simp; done) | (simp; omega))))); clear hown4 hown5 hb3 hb4) | fail)
        go_roundw
        case rel => exact ⟨k + 1, S, 0 :: R, by omega, by go_num, HOS.out.keep Hb4.out, HO5.out.mono (by omega), by omega, by have := HLR.out; simp; omega, HBS.out, bit_cons HBR.out (by omega) (by omega), sum_none HVS.out HX.out.symm, row_next HVR.out, Hbl.out.trans (Hb4.out.mono (by omega))⟩
        case measure => simp [intOf]; omega
      · subst e
        go_wp2_with (first | (go_at_call 47; (with_reducible refine (bigPlus S R AS AR cS cR _ (by omega) (by omega) (HRS.out.keep (by (repeat' (first | (with_reducible exact Below.refl _ _) | (with_reducible assumption) | (with_reducible refine Below.alloc ?_ ?_ _) | (with_reducible refine Below.setCell ?_ ?_ _) | (with_reducible refine Below.drew ?_) | (with_reducible refine below_drewN ?_ _) | (with_reducible refine below_via ?_ (by with_reducible assumption) ?_) | omega | (simp; done) | (simp; omega))))) (HRR.out.keep (by (repeat' (first | (with_reducible exact Below.refl _ _) | (with_reducible assumption) | (with_reducible refine Below.alloc ?_ ?_ _) | (with_reducible refine Below.setCell ?_ ?_ _) | (with_reducible refine Below.drew ?_) | (with_reducible refine below_drewN ?_ _) | (with_reducible refine below_via ?_ (by with_reducible assumption) ?_) | omega | (simp; done) | (simp; omega))))) HBS.out HBR.out).mono ?_); rintro e w2 ⟨v2, l2, rfl, hown2, hb2, hbit2, hval2, hlen2⟩; have HO2 := Lib.hid hown2; have HV2 := Lib.hid hval2; have HL2 := Lib.hid hlen2; clear hown2 hval2 hlen2; obtain ⟨fc2, fg2, hc2, hf2, hz2⟩ := bget hb2; (try simp at hz2)) | ((at_builtin; refine wpList_app rfl _ _ _ rfl elB w2.heap.size _ _ rfl ((Own.nil w2 w2.heap.size 5 1).alloc _) (some ⟨w2.heap.size, 0, none⟩) 1 1 rfl [encB 0] rfl (fun h => by cases h) rd_one ((by simp [encB]; rfl)) (by unfold maxLen; first | (simp; done) | omega | (simp; omega)) (by first | (simp; done) | omega | (simp; omega)) (by first | omega | (simp; done) | (simp; omega)) ?_; intro v' w3 hown3 hb3); obtain ⟨fc3, fg3, hc3, hf3, hz3⟩ := bget hb3; (try simp at hz3)) | (at_builtin; refine wpList_any rfl _ _ _ rfl elB w2.heap.size _ _ rfl hown3 AR R.length cR rfl (R.map encB) (by simp) (HRR.out.keep (by (repeat' (first | (with_reducible exact Below.refl _ _) | (with_reducible assumption) | (with_reducible refine Below.alloc ?_ ?_ _) | (with_reducible refine Below.setCell ?_ ?_ _) | (with_reducible refine Below.drew ?_) | (with_reducible refine below_drewN ?_ _) | (with_reducible refine below_via ?_ (by with_reducible assumption) ?_) | omega | (simp; done) | (simp; omega))))) (encB_one R) (by unfold maxLen; first | (simp; done) | omega | (simp; omega)) (by first | (simp; done) | omega | (simp; omega)) (by have := hb3.size; simp at this; omega) ?_; intro v4 w4 hown4 hb4; have hown5 : Own w4 w2.heap.size 5 1 v4 ((0 :: R).map encB) := (by simpa [encB] using hown4); have HO5 := Lib.hid hown5; have Hb4 := Lib.hid (show Below w2.heap.size w2 w4 from (by (repeat' (first | (with_reducible exact Below.refl _ _) | (with_reducible assumption) | (with_reducible refine Below.alloc ?_ ?_ _) | (with_reducible refine Below.setCell ?_ ?_ _) | (with_reducible refine Below.drew ?_) | (with_reducible refine below_drewN ?_ _) | (with_reducible refine below_via ?_ (by with_reducible assumption) ?_) | omega | (simp; done) | (simp; omega))))); clear hown4 hown5 hb3 hb4) | fail)
        go_roundw
        case rel => exact ⟨k + 1, l2, 0 :: R, by omega, by go_num, (HO2.out.keep Hb4.out).mono (by omega), HO5.out.mono (by omega), by have := HL2.out; have h2 := HLR.out; omega, by have := HLR.out; simp; omega, hbit2, bit_cons HBR.out (by omega) (by omega), sum_one HVS.out HVR.out HX.out.symm HV2.out, row_next HVR.out, (Hbl.out.trans (hb2.mono (by omega))).trans (Hb4.out.mono (by omega))⟩
        case measure => simp [intOf]; omega
    · have d1 : decide ((k : Int) < (lb.length : Int)) = false := by simpa using hlt
      have hke : k = lb.length := by omega
      have hval : val S = iabs (a * b) := by rw [HVS.out, hke, List.take_length, HA.out.val, HB.out.val, iabs_mul]
      have HVAL := Lib.hid hval
      have HSN := Lib.hid (mul_sgn HA.out.sgn HB.out.sgn hval)
      clear hval hke
      go_wp2_with (go_at_call 46; (with_reducible refine (bigTrim _ S AS cS _ (by omega) (HRS.out.keep (by (repeat' (first | (with_reducible exact Below.refl _ _) | (with_reducible assumption) | (with_reducible refine Below.alloc ?_ ?_ _) | (with_reducible refine Below.setCell ?_ ?_ _) | (with_reducible refine Below.drew ?_) | (with_reducible refine below_drewN ?_ _) | (with_reducible refine below_via ?_ (by with_reducible assumption) ?_) | omega | (simp; done) | (simp; omega))))) HBS.out HCS.out hmS).mono ?_); rintro e w2 ⟨l2, rfl, hk2, ht2, hv2, hb2⟩; have Hv2 := Lib.hid hv2; clear hv2; have Hk2 := Lib.hid hk2; clear hk2; obtain ⟨fc2, fg2, hc2, hf2, hz2⟩ := bget hb2; (try simp at hz2))
      have k0 : w2.cell? ⟨w.heap.size + 1 + 1, 0, none⟩ = some (.bool false) := by simp [go_sem, hc2, r0, ↓IntWalk.iteOmega]
      have k1 : w2.cell? ⟨w.heap.size + 1 + 1, 1, none⟩ = some (.slice none 0 0) := by simp [go_sem, hc2, r1, ↓IntWalk.iteOmega]
      have hB := trim_big ((HRS.out.keep (by (repeat' (first | (with_reducible exact Below.refl _ _) | (with_reducible assumption) | (with_reducible refine Below.alloc ?_ ?_ _) | (with_reducible refine Below.setCell ?_ ?_ _) | (with_reducible refine Below.drew ?_) | (with_reducible refine below_drewN ?_ _) | (with_reducible refine below_via ?_ (by with_reducible assumption) ?_) | omega | (simp; done) | (simp; omega))))).keep hb2) HBS.out Hk2.out ht2 Hv2.out HVAL.out HCS.out hmS HSN.out
      have hl2 := trim_len Hk2.out
      refine bodyPost_ret (v := .agg #[.bool (!(sa == sb) && decide (0 < Go.Proofs.Ytenehpcliajdnaa.val S)), .slice AS l2.length cS]) (by simp [results, Try.results15, go_sem, k0, k1]; try rfl) rfl ⟨_, AS, l2, cS, rfl, (hB.far k0 (by simp) _).far ((World.cell?_setCell_other _ _ _ _ (by simp)).trans k1) (by simp) _, by omega, ?_⟩
      (have hbw := Hbw.out; (repeat' (first | (with_reducible exact Below.refl _ _) | (with_reducible assumption) | (with_reducible refine Below.alloc ?_ ?_ _) | (with_reducible refine Below.setCell ?_ ?_ _) | (with_reducible refine Below.drew ?_) | (with_reducible refine below_drewN ?_ _) | (with_reducible refine below_via ?_ (by with_reducible assumption) ?_) | omega | (simp; done) | (simp; omega))))
end Go.Proofs.Ytenehpcliajdnaa

/- Layer 2: the reference's Sum, Product; fix.Product. -/
namespace Go.Proofs.Ytenehpcliajdnaa
open Go.RowKit
theorem isBig_nil2 {w : World} : IsBig w 0 false none [] 0 := ⟨fun i r hr => by simp at hr, bit_nil, top_nil, rfl, by simp, by simp, rfl⟩
theorem sum_take1 (l : List Int) (k : Nat) (h : k < l.length) : (l.take (k + 1)).sum = (l.take k).sum + l[k] := by
  rw [List.take_succ_eq_append_getElem h, List.sum_append]; simp
set_option maxRecDepth 100000 in
set_option maxHeartbeats 8000000 in
theorem refSum (l : List Int) (A : Option Addr) (c : Nat) (w : World) (h40 : l.length ≤ 40) (hin : ∀ n ∈ l, In64 n) (hr : Rd w A 1 (l.map encI)) :
    Calls Try.prog 38 #[.slice A l.length c] w (BigPost w l.sum 200) := by
  have HR := Lib.hid hr
  have HIN := Lib.hid hin
  clear hr hin
  go_enter Try.func38, Try.ntmps38
  go_wp2_with fail
  go_loopw [4] (fun i wr => ∃ (k : Nat) (s2 : Bool) (A2 : Option Addr) (l2 : List Int) (c2 : Nat), k ≤ l.length ∧ i = .int .i64 k ∧ IsBig wr (l.take k).sum s2 A2 l2 c2 ∧ l2.length ≤ 65 + k ∧ Blk wr (w.heap.size + 1) 30 #[.bool s2, .slice A2 l2.length c2] ∧ Below (w.heap.size + 1) (w.alloc (.cells #[.bool false, .slice none 0 0] 30)) wr) (fun i _ => l.length - (intOf i).toNat)
  case atStart => exact ⟨0, false, none, [], 0, Nat.zero_le _, rfl, isBig_nil2, by simp, Blk.here (by simp), by (repeat' (first | (with_reducible exact Below.refl _ _) | (with_reducible assumption) | (with_reducible refine Below.alloc ?_ ?_ _) | (with_reducible refine Below.setCell ?_ ?_ _) | (with_reducible refine Below.drew ?_) | (with_reducible refine below_drewN ?_ _) | (with_reducible refine below_via ?_ (by with_reducible assumption) ?_) | omega | (simp; done) | (simp; omega)))⟩
  case round =>
    obtain ⟨k, s2, A2, l2, c2, hk, rfl, hB2, hl2, hbk, hbl⟩ := hrel
    have hz := hbl.size
    simp at hz
    have b0 := hbk.cell 0
    have b1 := hbk.cell 1
    have z0 := hbk.frozen 0
    have z1 := hbk.frozen 1
    have ug := hbk.lt
    have r0 := (hbl.cell (p := ⟨w.heap.size, 0, none⟩) (by simp))
    have r1 := (hbl.cell (p := ⟨w.heap.size, 1, none⟩) (by simp))
    have f0 := (hbl.frozen (p := ⟨w.heap.size, 0, none⟩) (by simp))
    have f1 := (hbl.frozen (p := ⟨w.heap.size, 1, none⟩) (by simp))
    simp [go_sem] at b0 b1 r0 r1 f0 f1
    have HB2 := Lib.hid hB2
    have Hbk := Lib.hid hbk
    have Hbl := Lib.hid hbl
    clear hB2 hbk hbl
    by_cases hlt : k < l.length
    · have HS := Lib.hid (sum_take1 l k hlt)
      have d2 : decide ((k : Int) < (l.length : Int)) = true := by simpa using hlt
      obtain ⟨b, o, hA, hb, q⟩ := HR.out k (encI l[k]) (by simp [hlt])
      have q0 := (Hbl.out.cell (p := ⟨b, o + k * 1 + 0, none⟩) (by (simp; omega))).trans ((World.cell?_alloc_lt w _ ⟨b, o + k * 1 + 0, none⟩ hb).trans (q 0 _ rfl))
      have hx := HIN.out l[k] (List.getElem_mem hlt)
      obtain ⟨x, hxe⟩ : ∃ x, x = l[k] := ⟨_, rfl⟩
      rw [← hxe] at q0 hx
      have hbw : b < wr.heap.size := (by omega)
      simp at q0
      clear q
      cases hA
      rw [← hxe] at HS
      clear hxe
      go_wp2_with fail
      go_region_with (first | (go_at_call 16; (with_reducible refine (bigOf x _ hx).mono ?_); rintro e w3 ⟨s3, A3, l3, c3, rfl, hB3, hl3, hb3⟩; have HB3 := Lib.hid hB3; clear hB3; obtain ⟨fc3, fg3, hc3, hf3, hz3⟩ := bget hb3; (try simp at hz3)) | (go_at_call 14; (with_reducible refine (bigAdd (l.take k).sum x s2 s3 l2 l3 A2 A3 c2 c3 (65 + k) _ (by omega) (by omega) (by omega) (HB2.out.keep (by (repeat' (first | (with_reducible exact Below.refl _ _) | (with_reducible assumption) | (with_reducible refine Below.alloc ?_ ?_ _) | (with_reducible refine Below.setCell ?_ ?_ _) | (with_reducible refine Below.drew ?_) | (with_reducible refine below_drewN ?_ _) | (with_reducible refine below_via ?_ (by with_reducible assumption) ?_) | omega | (simp; done) | (simp; omega))))) (HB3.out.keep (by (repeat' (first | (with_reducible exact Below.refl _ _) | (with_reducible assumption) | (with_reducible refine Below.alloc ?_ ?_ _) | (with_reducible refine Below.setCell ?_ ?_ _) | (with_reducible refine Below.drew ?_) | (with_reducible refine below_drewN ?_ _) | (with_reducible refine below_via ?_ (by with_reducible assumption) ?_) | omega | (simp; done) | (simp; omega)))))).mono ?_); rintro e w4 ⟨s4, A4, l4, c4, rfl, hB4, hl4, hb4⟩; have HB4 := Lib.hid hB4; clear hB4; obtain ⟨fc4, fg4, hc4, hf4, hz4⟩ := bget hb4; (try simp at hz4)) | fail)
      all_goals
        go_wp2_with fail
        go_roundw
        case rel =>
          have h4 : Below wr.heap.size wr w4 := by (repeat' (first | (with_reducible exact Below.refl _ _) | (with_reducible assumption) | (with_reducible refine Below.alloc ?_ ?_ _) | (with_reducible refine Below.setCell ?_ ?_ _) | (with_reducible refine Below.drew ?_) | (with_reducible refine below_drewN ?_ _) | (with_reducible refine below_via ?_ (by with_reducible assumption) ?_) | omega | (simp; done) | (simp; omega)))
          have t0 : w4.cell? ⟨w.heap.size + 1, 0, none⟩ = some (.bool s2) := (h4.cell (p := ⟨w.heap.size + 1, 0, none⟩) ug).trans b0
          have t1 : w4.cell? ⟨w.heap.size + 1, 1, none⟩ = some (.slice A2 l2.length c2) := (h4.cell (p := ⟨w.heap.size + 1, 1, none⟩) ug).trans b1
          refine ⟨k + 1, s4, A4, l4, c4, by omega, by go_num, ?_, by omega, ?_, ?_⟩
          · rw [HS.out]
            exact (HB4.out.far t0 (by simp) _).far ((World.cell?_setCell_other _ _ _ _ (by simp)).trans t1) (by simp) _
          · have h5 := ((Hbk.out.below h4 ug).set 0 (.bool s4)).set 1 (.slice A4 l4.length c4)
            simpa using h5
          · have hbl := Hbl.out
            (repeat' (first | (with_reducible exact Below.refl _ _) | (with_reducible assumption) | (with_reducible refine Below.alloc ?_ ?_ _) | (with_reducible refine Below.setCell ?_ ?_ _) | (with_reducible refine Below.drew ?_) | (with_reducible refine below_drewN ?_ _) | (with_reducible refine below_via ?_ (by with_reducible assumption) ?_) | omega | (simp; done) | (simp; omega)))
        case measure => (simp [intOf]; omega)
    · have d2 : decide ((k : Int) < (l.length : Int)) = false := by simpa using hlt
      have hke : k = l.length := by omega
      have HSUM := Lib.hid (show IsBig wr l.sum s2 A2 l2 c2 from by have h := HB2.out; rw [hke, List.take_length] at h; exact h)
      clear hke
      go_wp2_with fail
      refine bodyPost_ret (v := .agg #[.bool s2, .slice A2 l2.length c2]) (by simp [results, Try.results38, go_sem, r0, r1]; try rfl) rfl ⟨_, A2, l2, c2, rfl, (HSUM.out.far r0 (by simp) _).far ((World.cell?_setCell_other _ _ _ _ (by simp)).trans r1) (by simp) _, by omega, ?_⟩
      have hbl := Hbl.out.mono (show w.heap.size ≤ w.heap.size + 1 by omega)
      (repeat' (first | (with_reducible exact Below.refl _ _) | (with_reducible assumption) | (with_reducible refine Below.alloc ?_ ?_ _) | (with_reducible refine Below.setCell ?_ ?_ _) | (with_reducible refine Below.drew ?_) | (with_reducible refine below_drewN ?_ _) | (with_reducible refine below_via ?_ (by with_reducible assumption) ?_) | omega | (simp; done) | (simp; omega)))
theorem in64_not' {n : Int} (h : ¬ In64 n) : in64 n = false := by cases e : in64 n; rfl; exact absurd (in64_iff.1 e) h
def prodF : Int → List Int → Option Int
  | a, [] => some a
  | a, x :: l => if in64 (a * x) then prodF (a * x) l else none
theorem prodF_step {l : List Int} {k : Nat} (h : k < l.length) (p : Int) : prodF p (l.drop k) = if in64 (p * l[k]) then prodF (p * l[k]) (l.drop (k + 1)) else none := by
  rw [List.drop_eq_getElem_cons h]; rfl
theorem prodF_end {l : List Int} {k : Nat} (h : ¬ k < l.length) (p : Int) : prodF p (l.drop k) = some p := by
  rw [List.drop_eq_nil_of_le (by omega)]; rfl
theorem big64_len {w : World} {p : Int} {s : Bool} {A : Option Addr} {l : List Int} {c : Nat} (h : IsBig w p s A l c) (hp : In64 p) : l.length ≤ 64 := by
  refine len_le h.bit h.top (k := 64) ?_
  rw [h.val]
  have : pw 64 = 18446744073709551616 := by decide
  rw [this]
  unfold In64 at hp
  unfold iabs; split <;> omega
def prN (l : List Int) : Int := (prodF 1 l).getD 0
def prE (l : List Int) : Int := if (prodF 1 l).isSome then 0 else 7
set_option maxRecDepth 100000 in
set_option maxHeartbeats 8000000 in
theorem fixProduct (l : List Int) (A : Option Addr) (c : Nat) (w : World) (h40 : l.length ≤ 40) (hin : ∀ n ∈ l, In64 n) (hr : Rd w A 1 (l.map encI)) :
    Calls Try.prog 53 #[.slice A l.length c] w fun e w' => e = .returned (.tuple #[.int .i64 (prN l), .int .i64 (prE l)]) ∧ Below w.heap.size w w' := by
  have HR := Lib.hid hr
  have HIN := Lib.hid hin
  clear hr hin
  go_enter Try.func53, Try.ntmps53
  go_wp2_with fail
  go_loopw [4, 11] (fun v i wr => ∃ (k : Nat) (p : Int), k ≤ l.length ∧ i = .int .i64 k ∧ v = .int .i64 p ∧ In64 p ∧ prodF 1 l = prodF p (l.drop k) ∧ Below w.heap.size w wr) (fun _ i _ => l.length - (intOf i).toNat)
  case atStart => exact ⟨0, 1, Nat.zero_le _, rfl, rfl, by unfold In64; omega, rfl, by (repeat' (first | (with_reducible exact Below.refl _ _) | (with_reducible assumption) | (with_reducible refine Below.alloc ?_ ?_ _) | (with_reducible refine Below.setCell ?_ ?_ _) | (with_reducible refine Below.drew ?_) | (with_reducible refine below_drewN ?_ _) | (with_reducible refine below_via ?_ (by with_reducible assumption) ?_) | omega | (simp; done) | (simp; omega)))⟩
  case round =>
    obtain ⟨k, p, hk, rfl, rfl, hp, hpr, hbl⟩ := hrel
    have hz := hbl.size
    have Hbl := Lib.hid hbl
    clear hbl
    by_cases hlt : k < l.length
    · have d2 : decide ((k : Int) < (l.length : Int)) = true := by simpa using hlt
      rw [prodF_step hlt] at hpr
      obtain ⟨b, o, hA, hb, q⟩ := HR.out k (encI l[k]) (by simp [hlt])
      have q0 := (Hbl.out.cell (p := ⟨b, o + k * 1 + 0, none⟩) (hb)).trans (q 0 _ rfl)
      have hx := HIN.out l[k] (List.getElem_mem hlt)
      obtain ⟨x, hxe⟩ : ∃ x, x = l[k] := ⟨_, rfl⟩
      rw [← hxe] at q0 hx
      have hbw : b < wr.heap.size := (by omega)
      simp at q0
      clear q
      cases hA
      rw [← hxe] at hpr
      clear hxe
      have h128 := mul64_128 hp hx
      by_cases h64 : In64 (p * x)
      · rw [in64_iff.2 h64, if_pos rfl] at hpr
        have HPR := Lib.hid hpr
        clear hpr
        go_wp2_with (first | (go_at_call 69; (with_reducible refine (wideMul p x _ hp hx).mono ?_); rintro e w1 ⟨rfl, hb1⟩; obtain ⟨fc1, fg1, hc1, hf1, hz1⟩ := bget hb1; (try simp at hz1)) | (go_at_call 45; (with_reducible refine (wideIntYes (p * x) _ h64).mono ?_); rintro e w2 ⟨rfl, hb2⟩; obtain ⟨fc2, fg2, hc2, hf2, hz2⟩ := bget hb2; (try simp at hz2)) | fail)
        go_roundw
        case rel => exact ⟨k + 1, p * x, by omega, by go_num, rfl, h64, HPR.out, by (have hbl := Hbl.out; (repeat' (first | (with_reducible exact Below.refl _ _) | (with_reducible assumption) | (with_reducible refine Below.alloc ?_ ?_ _) | (with_reducible refine Below.setCell ?_ ?_ _) | (with_reducible refine Below.drew ?_) | (with_reducible refine below_drewN ?_ _) | (with_reducible refine below_via ?_ (by with_reducible assumption) ?_) | omega | (simp; done) | (simp; omega))))⟩
        case measure => (simp [intOf]; omega)
      · rw [in64_not' h64, if_neg (by simp)] at hpr
        have HPN := Lib.hid (show prN l = 0 from by unfold prN; rw [hpr]; rfl)
        have HPE := Lib.hid (show prE l = 7 from by unfold prE; rw [hpr]; rfl)
        clear hpr
        go_wp2_with (first | (go_at_call 69; (with_reducible refine (wideMul p x _ hp hx).mono ?_); rintro e w1 ⟨rfl, hb1⟩; obtain ⟨fc1, fg1, hc1, hf1, hz1⟩ := bget hb1; (try simp at hz1)) | (go_at_call 45; (with_reducible refine (wideIntNo (p * x) _ h128 h64).mono ?_); rintro e w2 ⟨rfl, hb2⟩; obtain ⟨fc2, fg2, hc2, hf2, hz2⟩ := bget hb2; (try simp at hz2)) | fail)
        go_ret2
        exact ⟨by rw [HPN.out, HPE.out]; first | done | rfl, by (have hbl := Hbl.out; (repeat' (first | (with_reducible exact Below.refl _ _) | (with_reducible assumption) | (with_reducible refine Below.alloc ?_ ?_ _) | (with_reducible refine Below.setCell ?_ ?_ _) | (with_reducible refine Below.drew ?_) | (with_reducible refine below_drewN ?_ _) | (with_reducible refine below_via ?_ (by with_reducible assumption) ?_) | omega | (simp; done) | (simp; omega))))⟩
    · have d2 : decide ((k : Int) < (l.length : Int)) = false := by simpa using hlt
      rw [prodF_end hlt] at hpr
      have HPN := Lib.hid (show prN l = p from by unfold prN; rw [hpr]; rfl)
      have HPE := Lib.hid (show prE l = 0 from by unfold prE; rw [hpr]; rfl)
      clear hpr
      go_wp2_with fail
      go_ret2
      exact ⟨by rw [HPN.out, HPE.out]; first | done | rfl, by (have hbl := Hbl.out; (repeat' (first | (with_reducible exact Below.refl _ _) | (with_reducible assumption) | (with_reducible refine Below.alloc ?_ ?_ _) | (with_reducible refine Below.setCell ?_ ?_ _) | (with_reducible refine Below.drew ?_) | (with_reducible refine below_drewN ?_ _) | (with_reducible refine below_via ?_ (by with_reducible assumption) ?_) | omega | (simp; done) | (simp; omega))))⟩
end Go.Proofs.Ytenehpcliajdnaa
