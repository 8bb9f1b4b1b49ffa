/- Contracts of the reference's Neg, Sub, Cmp, Within, Fits, Int. -/
import Derived.Test.YtenehpcliajdnaaBig5
import Derived.Test.YtenehpcliajdnaaWide2
namespace Go.Proofs.Ytenehpcliajdnaa
open Go.RowKit
theorem big_zero {w : World} {s : Bool} {A : Option Addr} {l : List Int} {c : Nat} (h : IsBig w 0 s A l c) : l = [] := val_zero_top h.bit h.top h.val
theorem iabs_neg_eq (n : Int) : iabs (- n) = iabs n := by unfold iabs; split <;> split <;> omega
theorem neg_sgn {w : World} {a : Int} {s : Bool} {A : Option Addr} {l : List Int} {c : Nat} (h : IsBig w a s A l c) : (!s && decide (0 < Go.Proofs.Ytenehpcliajdnaa.val l)) = decide (- a < 0) := by
  rw [h.val, h.sgn, Bool.eq_iff_iff]; simp; unfold iabs; split <;> omega
set_option maxRecDepth 100000 in
set_option maxHeartbeats 2000000 in
theorem bigNeg (a : Int) (s : Bool) (la : List Int) (A : Option Addr) (c L : Nat) (w : World) (hL : L ≤ 1000000) (hla : la.length ≤ L) (ha : IsBig w a s A la c) :
    Calls Try.prog 17 #[.agg #[.bool s, .slice A la.length c]] w (BigPost w (- a) L) := by
  have HSG := Lib.hid (neg_sgn ha)
  have HA := Lib.hid ha
  clear ha
  go_enter Try.func17, Try.ntmps17
  go_wp2_with (go_at_call 46; (with_reducible refine (bigTrim _ la A c _ (by omega) (HA.out.rd.keep (by (repeat' (first | (with_reducible exact Below.refl _ _) | (with_reducible assumption) | (with_reducible refine Below.alloc ?_ ?_ _) | (with_reducible refine Below.setCell ?_ ?_ _) | (with_reducible refine Below.drew ?_) | (with_reducible refine below_drewN ?_ _) | (with_reducible refine below_via ?_ (by with_reducible assumption) ?_) | omega | (simp; done) | (simp; omega))))) HA.out.bit HA.out.cap HA.out.room).mono ?_); rintro e w2 ⟨l2, rfl, hk2, ht2, hv2, hb2⟩; have Hv2 := Lib.hid hv2; clear hv2; have Hk2 := Lib.hid hk2; clear hk2; obtain ⟨fc2, fg2, hc2, hf2, hz2⟩ := bget hb2; (try simp at hz2))
  have r0 : w2.cell? ⟨w.heap.size + 1, 0, none⟩ = some (.bool false) := by simp [go_sem, hc2]
  have r1 : w2.cell? ⟨w.heap.size + 1, 1, none⟩ = some (.slice none 0 0) := by simp [go_sem, hc2]
  have hB := trim_big ((HA.out.rd.keep (by (repeat' (first | (with_reducible exact Below.refl _ _) | (with_reducible assumption) | (with_reducible refine Below.alloc ?_ ?_ _) | (with_reducible refine Below.setCell ?_ ?_ _) | (with_reducible refine Below.drew ?_) | (with_reducible refine below_drewN ?_ _) | (with_reducible refine below_via ?_ (by with_reducible assumption) ?_) | omega | (simp; done) | (simp; omega))))).keep hb2) HA.out.bit Hk2.out ht2 Hv2.out (by rw [HA.out.val, ← iabs_neg_eq]) HA.out.cap HA.out.room HSG.out
  have hl2 := trim_len Hk2.out
  refine bodyPost_ret (v := .agg #[.bool (!s && decide (0 < Go.Proofs.Ytenehpcliajdnaa.val la)), .slice A l2.length c]) (by simp [results, Try.results17, go_sem, r0, r1]; try rfl) rfl ⟨_, A, l2, c, rfl, (hB.far r0 (by simp) _).far ((World.cell?_setCell_other _ _ _ _ (by simp)).trans r1) (by simp) _, by omega, ?_⟩
  (repeat' (first | (with_reducible exact Below.refl _ _) | (with_reducible assumption) | (with_reducible refine Below.alloc ?_ ?_ _) | (with_reducible refine Below.setCell ?_ ?_ _) | (with_reducible refine Below.drew ?_) | (with_reducible refine below_drewN ?_ _) | (with_reducible refine below_via ?_ (by with_reducible assumption) ?_) | omega | (simp; done) | (simp; omega)))
set_option maxRecDepth 100000 in
set_option maxHeartbeats 2000000 in
theorem bigSub (a b : Int) (sa sb : Bool) (la lb : List Int) (A B : Option Addr) (c d L : Nat) (w : World) (hL : L ≤ 1000000) (hla : la.length ≤ L) (hlb : lb.length ≤ L) (ha : IsBig w a sa A la c) (hb : IsBig w b sb B lb d) :
    Calls Try.prog 39 #[.agg #[.bool sa, .slice A la.length c], .agg #[.bool sb, .slice B lb.length d]] w (BigPost w (a - b) (L + 1)) := by
  have HA := Lib.hid ha
  have HB := Lib.hid hb
  clear ha hb
  rw [show a - b = a + - b from by omega]
  go_enter Try.func39, Try.ntmps39
  go_wp2_with fail
  go_region_held3 (fun w' => w'.cell? ⟨w.heap.size, 0, none⟩ = some (.bool sa) ∧ w'.cell? ⟨w.heap.size, 1, none⟩ = some (.slice A la.length c) ∧ w'.cell? ⟨w.heap.size + 1, 0, none⟩ = some (.bool sb) ∧ w'.cell? ⟨w.heap.size + 1, 1, none⟩ = some (.slice B lb.length d)) (first | (simp [go_sem]; done) | (repeat' (first | (with_reducible assumption) | (with_reducible refine And.intro ?_ ?_) | (with_reducible refine cell_drew ?_) | (with_reducible refine cell_via (by with_reducible assumption) ?_ ?_) | (simp [*]; done) | (simp [go_sem]; done) | (with_reducible refine cell_alloc ?_ ?_) | (with_reducible refine cell_set_far ?_ ?_) | omega | (simp; omega)))) (first | (go_at_call 17; (with_reducible refine (bigNeg b sb lb B d L _ hL hlb (HB.out.keep (by (repeat' (first | (with_reducible exact Below.refl _ _) | (with_reducible assumption) | (with_reducible refine Below.alloc ?_ ?_ _) | (with_reducible refine Below.setCell ?_ ?_ _) | (with_reducible refine Below.drew ?_) | (with_reducible refine below_drewN ?_ _) | (with_reducible refine below_via ?_ (by with_reducible assumption) ?_) | omega | (simp; done) | (simp; omega)))))).mono ?_); rintro e w1 ⟨s1, A1, l1, c1, rfl, hB1, hl1, hb1⟩; obtain ⟨fc1, fg1, hc1, hf1, hz1⟩ := bget hb1; simp at hz1) | (go_at_call 14; (with_reducible refine (bigAdd a (- b) sa s1 la l1 A A1 c c1 L _ hL hla hl1 (HA.out.keep (by (repeat' (first | (with_reducible exact Below.refl _ _) | (with_reducible assumption) | (with_reducible refine Below.alloc ?_ ?_ _) | (with_reducible refine Below.setCell ?_ ?_ _) | (with_reducible refine Below.drew ?_) | (with_reducible refine below_drewN ?_ _) | (with_reducible refine below_via ?_ (by with_reducible assumption) ?_) | omega | (simp; done) | (simp; omega))))) hB1).mono ?_); rintro e w2 ⟨s2, A2, l2, c2, rfl, hB2, hl2, hb2⟩; obtain ⟨fc2, fg2, hc2, hf2, hz2⟩ := bget hb2))
  go_wp2_with fail
  all_goals
    have r0 : w2.cell? ⟨w.heap.size + 1 + 1, 0, none⟩ = some (.bool false) := by simp [go_sem, hc2, hc1, ↓IntWalk.iteOmega]
    have r1 : w2.cell? ⟨w.heap.size + 1 + 1, 1, none⟩ = some (.slice none 0 0) := by simp [go_sem, hc2, hc1, ↓IntWalk.iteOmega]
    refine bodyPost_ret (v := .agg #[.bool s2, .slice A2 l2.length c2]) (by simp [results, Try.results39, go_sem, r0, r1]; try rfl) rfl ⟨s2, A2, l2, c2, rfl, (hB2.far r0 (by simp) _).far ((World.cell?_setCell_other _ _ _ _ (by simp)).trans r1) (by simp) _, hl2, ?_⟩
    (repeat' (first | (with_reducible exact Below.refl _ _) | (with_reducible assumption) | (with_reducible refine Below.alloc ?_ ?_ _) | (with_reducible refine Below.setCell ?_ ?_ _) | (with_reducible refine Below.drew ?_) | (with_reducible refine below_drewN ?_ _) | (with_reducible refine below_via ?_ (by with_reducible assumption) ?_) | omega | (simp; done) | (simp; omega)))
theorem big_len_pos {w : World} {n : Int} {s : Bool} {A : Option Addr} {l : List Int} {c : Nat} (h : IsBig w n s A l c) (hn : n ≠ 0) : 0 < l.length := by
  rcases Nat.eq_zero_or_pos l.length with h1 | h1
  · exfalso; apply hn
    have h2 := List.eq_nil_of_length_eq_zero h1
    have h3 := h.val
    rw [h2] at h3; simp [Go.Proofs.Ytenehpcliajdnaa.val] at h3; unfold iabs at h3; split at h3 <;> omega
  · exact h1
set_option maxRecDepth 100000 in
set_option maxHeartbeats 2000000 in
theorem bigCmp (a b : Int) (sa sb : Bool) (la lb : List Int) (A B : Option Addr) (c d L : Nat) (w : World) (hL : L ≤ 1000000) (hla : la.length ≤ L) (hlb : lb.length ≤ L) (ha : IsBig w a sa A la c) (hb : IsBig w b sb B lb d) :
    Calls Try.prog 18 #[.agg #[.bool sa, .slice A la.length c], .agg #[.bool sb, .slice B lb.length d]] w fun e w' => e = .returned (.int .i64 (ord a b)) ∧ Below w.heap.size w w' := by
  have HA := Lib.hid ha
  have HB := Lib.hid hb
  clear ha hb
  go_enter Try.func18, Try.ntmps18
  go_wp2_with fail
  refine (bigSub a b sa sb la lb A B c d L _ hL hla hlb (HA.out.keep (by (repeat' (first | (with_reducible exact Below.refl _ _) | (with_reducible assumption) | (with_reducible refine Below.alloc ?_ ?_ _) | (with_reducible refine Below.setCell ?_ ?_ _) | (with_reducible refine Below.drew ?_) | (with_reducible refine below_drewN ?_ _) | (with_reducible refine below_via ?_ (by with_reducible assumption) ?_) | omega | (simp; done) | (simp; omega))))) (HB.out.keep (by (repeat' (first | (with_reducible exact Below.refl _ _) | (with_reducible assumption) | (with_reducible refine Below.alloc ?_ ?_ _) | (with_reducible refine Below.setCell ?_ ?_ _) | (with_reducible refine Below.drew ?_) | (with_reducible refine below_drewN ?_ _) | (with_reducible refine below_via ?_ (by with_reducible assumption) ?_) | omega | (simp; done) | (simp; omega)))))).mono ?_
  rintro e w1 ⟨s1, A1, l1, c1, rfl, hB1, hl1, hb1⟩
  obtain ⟨fc1, fg1, hc1, hf1, hz1⟩ := bget hb1
  simp at hz1
  have HB1 := Lib.hid hB1
  clear hB1
  by_cases h0 : a - b = 0
  · have hl0 : l1 = [] := by have := HB1.out; rw [h0] at this; exact big_zero this
    subst hl0
    have ho : ord a b = 0 := by unfold ord; rw [if_neg (by omega), if_neg (by omega)]
    have HO := Lib.hid ho
    clear h0 ho
    go_wp2_with fail
    go_ret
    exact ⟨by rw [HO.out]; rfl, by (repeat' (first | (with_reducible exact Below.refl _ _) | (with_reducible assumption) | (with_reducible refine Below.alloc ?_ ?_ _) | (with_reducible refine Below.setCell ?_ ?_ _) | (with_reducible refine Below.drew ?_) | (with_reducible refine below_drewN ?_ _) | (with_reducible refine below_via ?_ (by with_reducible assumption) ?_) | omega | (simp; done) | (simp; omega)))⟩
  · have hl0 := big_len_pos HB1.out h0
    have hs := HB1.out.sgn
    by_cases h1 : a - b < 0
    · have d0 : s1 = true := by rw [hs]; simpa using h1
      subst d0
      have ho : ord a b = -1 := by unfold ord; rw [if_pos (by omega)]
      have HO := Lib.hid ho
      clear ho hs
      go_wp2_with fail
      go_ret
      exact ⟨by rw [HO.out]; rfl, by (repeat' (first | (with_reducible exact Below.refl _ _) | (with_reducible assumption) | (with_reducible refine Below.alloc ?_ ?_ _) | (with_reducible refine Below.setCell ?_ ?_ _) | (with_reducible refine Below.drew ?_) | (with_reducible refine below_drewN ?_ _) | (with_reducible refine below_via ?_ (by with_reducible assumption) ?_) | omega | (simp; done) | (simp; omega)))⟩
    · have d0 : s1 = false := by rw [hs]; simpa using h1
      subst d0
      have ho : ord a b = 1 := by unfold ord; rw [if_neg (by omega), if_pos (by omega)]
      have HO := Lib.hid ho
      clear ho hs
      go_wp2_with fail
      go_ret
      exact ⟨by rw [HO.out]; rfl, by (repeat' (first | (with_reducible exact Below.refl _ _) | (with_reducible assumption) | (with_reducible refine Below.alloc ?_ ?_ _) | (with_reducible refine Below.setCell ?_ ?_ _) | (with_reducible refine Below.drew ?_) | (with_reducible refine below_drewN ?_ _) | (with_reducible refine below_via ?_ (by with_reducible assumption) ?_) | omega | (simp; done) | (simp; omega)))⟩
end Go.Proofs.Ytenehpcliajdnaa
