/- Joined: Big5, Big6, Sl, Big7, LawF1, WideA2, Bits1. -/
import Derived.Test.YtalgfpegaobacaaGreatKz4
import Derived.Test.YtalgfpegaobacaaGreatKz2
import Derived.Test.YtalgfpegaobacaaGreatKz1
import Derived.Test.YtalgfpegaobacaaGreatKz3
import Derived.Outline
import Derived.Deep.RegionWith
/- Contracts of the reference's Add. -/
namespace Go.Proofs.YtalgfpegaobacaaGreat
open Go.RowKit
theorem plus_len {x y z L : Nat} {p : Prop} (h1 : x ≤ L) (h2 : y ≤ L) (h : z = max x y ∨ (z = max x y + 1 ∧ p)) : z ≤ L + 1 := by
  rcases h with h | ⟨h, _⟩ <;> omega
theorem len_of_lt {a b : List Int} (ha : Bit a) (hb : Bit b) (ta : Top a) (h : val a ≤ val b) : a.length ≤ b.length := by
  rcases Nat.lt_or_ge b.length a.length with h1 | h1
  · have := lt_of_len hb ha ta h1; omega
  · exact h1
theorem pos_of_neg {n : Int} (h : decide (n < 0) = true) : iabs n = - n := iabs_neg (of_decide_eq_true h)
theorem pos_of_pos {n : Int} (h : decide (n < 0) = false) : iabs n = n ∧ 0 ≤ n := by have := of_decide_eq_false h; exact ⟨iabs_pos (by omega), by omega⟩
set_option maxRecDepth 100000 in
set_option maxHeartbeats 2000000 in
theorem bigAdd_false_false_plus (a b : Int) (hsa : decide (a < 0) = false) (hsb : decide (b < 0) = false) (la lb : List Int) (A B : Option Addr) (c d L : Nat) (w : World) (hL : L ≤ 1000000) (hla : la.length ≤ L) (hlb : lb.length ≤ L) (ha : IsBig w a false A la c) (hb : IsBig w b false B lb d) :
    Calls Tryz.prog 33 #[.agg #[.bool false, .slice A la.length c], .agg #[.bool false, .slice B lb.length d]] w (BigPost w (a + b) (L + 1)) := by
  have fa := pos_of_pos hsa
  have fb := pos_of_pos hsb
  have hn : iabs a + iabs b = iabs (a + b) := by unfold iabs at *; split at * <;> omega
  have hsg : ∀ x : Int, x = iabs (a + b) → decide (a + b < 0) = (false && decide (0 < x)) := by
    intro x hx
    rw [hx, Bool.eq_iff_iff]; simp; unfold iabs at *; split at * <;> omega
  have HN := Lib.hid hn
  have HSG := Lib.hid hsg
  have HA := Lib.hid ha
  have HB := Lib.hid hb
  clear hn hsg ha hb hsa hsb fa fb
  go_enter Tryz.func33, Tryz.ntmps33
  go_wp2_with fail
  go_region_held3 (fun w' => w'.cell? ⟨w.heap.size, 0, none⟩ = some (.bool false) ∧ w'.cell? ⟨w.heap.size, 1, none⟩ = some (.slice A la.length c) ∧ w'.cell? ⟨w.heap.size + 1, 0, none⟩ = some (.bool false) ∧ w'.cell? ⟨w.heap.size + 1, 1, none⟩ = some (.slice B lb.length d)) (first | (simp [go_sem]; done) | (repeat' (first | (with_reducible assumption) | (with_reducible refine And.intro ?_ ?_) | (with_reducible refine cell_drew ?_) | (with_reducible refine cell_via (by with_reducible assumption) ?_ ?_) | (simp [*]; done) | (simp [go_sem]; done) | (with_reducible refine cell_alloc ?_ ?_) | (with_reducible refine cell_set_far ?_ ?_) | omega | (simp; omega)))) (first | (go_at_call 63; (with_reducible refine (bigPlus la lb A B c d _ (by omega) (by omega) (HA.out.rd.keep (by (repeat' (first | (with_reducible exact Below.refl _ _) | (with_reducible assumption) | (with_reducible refine Below.alloc ?_ ?_ _) | (with_reducible refine Below.setCell ?_ ?_ _) | (with_reducible refine Below.drew ?_) | (with_reducible refine below_drewN ?_ _) | (with_reducible refine below_via ?_ (by with_reducible assumption) ?_) | omega | (simp; done) | (simp; omega))))) (HB.out.rd.keep (by (repeat' (first | (with_reducible exact Below.refl _ _) | (with_reducible assumption) | (with_reducible refine Below.alloc ?_ ?_ _) | (with_reducible refine Below.setCell ?_ ?_ _) | (with_reducible refine Below.drew ?_) | (with_reducible refine below_drewN ?_ _) | (with_reducible refine below_via ?_ (by with_reducible assumption) ?_) | omega | (simp; done) | (simp; omega))))) HA.out.bit HB.out.bit).mono ?_); rintro e w1 ⟨v, l, rfl, hown, hb1, hbit, hval, hlen⟩; have hl1 := plus_len hla hlb hlen; have hb0 : Below w.heap.size w w := Below.refl _ _; obtain ⟨A1, c1, rfl, hcc, hmm, hr1, _⟩ := hown.shape; have Hval := Lib.hid hval; clear hval; have Hcc := Lib.hid hcc; clear hcc; obtain ⟨fc1, fg1, hc1, hf1, hz1⟩ := bget hb1; simp at hz1) | (go_at_call 62; (try simp only [List.length_map]); (with_reducible refine (bigTrim _ l A1 c1 _ (by omega) hr1 hbit (by simpa using Hcc.out) hmm).mono ?_); rintro e w2 ⟨l2, rfl, hk2, ht2, hv2, hb2⟩; have Hv2 := Lib.hid hv2; clear hv2; have Hk2 := Lib.hid hk2; clear hk2; obtain ⟨fc2, fg2, hc2, hf2, hz2⟩ := bget hb2))
  go_wp2_with fail
  all_goals
    have r0 : w2.cell? ⟨w.heap.size + 1 + 1, 0, none⟩ = some (.bool false) := by simp [go_sem, hc2, hc1, ↓IntWalk.iteOmega]
    have r1 : w2.cell? ⟨w.heap.size + 1 + 1, 1, none⟩ = some (.slice none 0 0) := by simp [go_sem, hc2, hc1, ↓IntWalk.iteOmega]
    have hval2 : val l = iabs (a + b) := by rw [Hval.out, ← HN.out, HA.out.val, HB.out.val]
    have hl2 := trim_len Hk2.out
    have hs := HSG.out _ hval2
    have hB := trim_big (hr1.keep hb2) hbit Hk2.out ht2 Hv2.out hval2 (by simpa using Hcc.out) hmm hs.symm
    refine bodyPost_ret (v := .agg #[.bool (false && decide (0 < val l)), .slice A1 l2.length c1]) (by simp [results, Tryz.results33, go_sem, r0, r1]; try rfl) rfl ⟨_, A1, l2, c1, rfl, (hB.far r0 (by simp) _).far ((World.cell?_setCell_other _ _ _ _ (by simp)).trans r1) (by simp) _, by omega, ?_⟩
    (repeat' (first | (with_reducible exact Below.refl _ _) | (with_reducible assumption) | (with_reducible refine Below.alloc ?_ ?_ _) | (with_reducible refine Below.setCell ?_ ?_ _) | (with_reducible refine Below.drew ?_) | (with_reducible refine below_drewN ?_ _) | (with_reducible refine below_via ?_ (by with_reducible assumption) ?_) | omega | (simp; done) | (simp; omega)))
set_option maxRecDepth 100000 in
set_option maxHeartbeats 2000000 in
theorem bigAdd_false_true_less (a b : Int) (hsa : decide (a < 0) = false) (hsb : decide (b < 0) = true) (hlt : iabs a < iabs b) (la lb : List Int) (A B : Option Addr) (c d L : Nat) (w : World) (hL : L ≤ 1000000) (hla : la.length ≤ L) (hlb : lb.length ≤ L) (ha : IsBig w a false A la c) (hb : IsBig w b true B lb d) :
    Calls Tryz.prog 33 #[.agg #[.bool false, .slice A la.length c], .agg #[.bool true, .slice B lb.length d]] w (BigPost w (a + b) (L + 1)) := by
  have fa := pos_of_pos hsa
  have fb := pos_of_neg hsb
  have hn : iabs b - iabs a = iabs (a + b) := by unfold iabs at *; split at * <;> omega
  have hsg : ∀ x : Int, x = iabs (a + b) → decide (a + b < 0) = (true && decide (0 < x)) := by
    intro x hx
    rw [hx, Bool.eq_iff_iff]; simp; unfold iabs at *; split at * <;> omega
  have HN := Lib.hid hn
  have HSG := Lib.hid hsg
  have HA := Lib.hid ha
  have HB := Lib.hid hb
  have hd : decide (val la < val lb) = true := by rw [ha.val, hb.val]; simpa using hlt
  have hvv : val la ≤ val lb := by rw [ha.val, hb.val]; omega
  have hll := len_of_lt ha.bit hb.bit ha.top hvv
  have HVV := Lib.hid hvv
  clear hvv hlt
  clear hn hsg ha hb hsa hsb fa fb
  go_enter Tryz.func33, Tryz.ntmps33
  go_wp2_with (go_at_call 64; (with_reducible refine (bigLess la lb A B c d _ (by omega) (by omega) (HA.out.rd.keep (by (repeat' (first | (with_reducible exact Below.refl _ _) | (with_reducible assumption) | (with_reducible refine Below.alloc ?_ ?_ _) | (with_reducible refine Below.setCell ?_ ?_ _) | (with_reducible refine Below.drew ?_) | (with_reducible refine below_drewN ?_ _) | (with_reducible refine below_via ?_ (by with_reducible assumption) ?_) | omega | (simp; done) | (simp; omega))))) (HB.out.rd.keep (by (repeat' (first | (with_reducible exact Below.refl _ _) | (with_reducible assumption) | (with_reducible refine Below.alloc ?_ ?_ _) | (with_reducible refine Below.setCell ?_ ?_ _) | (with_reducible refine Below.drew ?_) | (with_reducible refine below_drewN ?_ _) | (with_reducible refine below_via ?_ (by with_reducible assumption) ?_) | omega | (simp; done) | (simp; omega))))) HA.out.bit HB.out.bit HA.out.top HB.out.top).mono ?_); rintro e w0 ⟨rfl, hb0⟩; rw [hd]; obtain ⟨fc0, fg0, hc0, hf0, hz0⟩ := bget hb0; simp at hz0)
  go_region_held3 (fun w' => w'.cell? ⟨w.heap.size, 0, none⟩ = some (.bool false) ∧ w'.cell? ⟨w.heap.size, 1, none⟩ = some (.slice A la.length c) ∧ w'.cell? ⟨w.heap.size + 1, 0, none⟩ = some (.bool true) ∧ w'.cell? ⟨w.heap.size + 1, 1, none⟩ = some (.slice B lb.length d)) (first | (simp [go_sem]; done) | (repeat' (first | (with_reducible assumption) | (with_reducible refine And.intro ?_ ?_) | (with_reducible refine cell_drew ?_) | (with_reducible refine cell_via (by with_reducible assumption) ?_ ?_) | (simp [*]; done) | (simp [go_sem]; done) | (with_reducible refine cell_alloc ?_ ?_) | (with_reducible refine cell_set_far ?_ ?_) | omega | (simp; omega)))) (first | (go_at_call 65; (with_reducible refine (bigMinus lb la B A d c _ (by omega) hll (HB.out.rd.keep (by (repeat' (first | (with_reducible exact Below.refl _ _) | (with_reducible assumption) | (with_reducible refine Below.alloc ?_ ?_ _) | (with_reducible refine Below.setCell ?_ ?_ _) | (with_reducible refine Below.drew ?_) | (with_reducible refine below_drewN ?_ _) | (with_reducible refine below_via ?_ (by with_reducible assumption) ?_) | omega | (simp; done) | (simp; omega))))) (HA.out.rd.keep (by (repeat' (first | (with_reducible exact Below.refl _ _) | (with_reducible assumption) | (with_reducible refine Below.alloc ?_ ?_ _) | (with_reducible refine Below.setCell ?_ ?_ _) | (with_reducible refine Below.drew ?_) | (with_reducible refine below_drewN ?_ _) | (with_reducible refine below_via ?_ (by with_reducible assumption) ?_) | omega | (simp; done) | (simp; omega))))) HB.out.bit HA.out.bit HVV.out).mono ?_); rintro e w1 ⟨v, l, rfl, hown, hb1, hbit, hval, hlen⟩; have hl1 : l.length ≤ L + 1 := (by omega); clear hlen; obtain ⟨A1, c1, rfl, hcc, hmm, hr1, _⟩ := hown.shape; have Hval := Lib.hid hval; clear hval; have Hcc := Lib.hid hcc; clear hcc; obtain ⟨fc1, fg1, hc1, hf1, hz1⟩ := bget hb1; simp at hz1) | (go_at_call 62; (try simp only [List.length_map]); (with_reducible refine (bigTrim _ l A1 c1 _ (by omega) hr1 hbit (by simpa using Hcc.out) hmm).mono ?_); rintro e w2 ⟨l2, rfl, hk2, ht2, hv2, hb2⟩; have Hv2 := Lib.hid hv2; clear hv2; have Hk2 := Lib.hid hk2; clear hk2; obtain ⟨fc2, fg2, hc2, hf2, hz2⟩ := bget hb2))
  go_wp2_with fail
  all_goals
    have r0 : w2.cell? ⟨w.heap.size + 1 + 1, 0, none⟩ = some (.bool false) := by simp [go_sem, hc2, hc1, hc0, ↓IntWalk.iteOmega]
    have r1 : w2.cell? ⟨w.heap.size + 1 + 1, 1, none⟩ = some (.slice none 0 0) := by simp [go_sem, hc2, hc1, hc0, ↓IntWalk.iteOmega]
    have hval2 : val l = iabs (a + b) := by rw [Hval.out, ← HN.out, HA.out.val, HB.out.val]
    have hl2 := trim_len Hk2.out
    have hs := HSG.out _ hval2
    have hB := trim_big (hr1.keep hb2) hbit Hk2.out ht2 Hv2.out hval2 (by simpa using Hcc.out) hmm hs.symm
    refine bodyPost_ret (v := .agg #[.bool (true && decide (0 < val l)), .slice A1 l2.length c1]) (by simp [results, Tryz.results33, go_sem, r0, r1]; try rfl) rfl ⟨_, A1, l2, c1, rfl, (hB.far r0 (by simp) _).far ((World.cell?_setCell_other _ _ _ _ (by simp)).trans r1) (by simp) _, by omega, ?_⟩
    (repeat' (first | (with_reducible exact Below.refl _ _) | (with_reducible assumption) | (with_reducible refine Below.alloc ?_ ?_ _) | (with_reducible refine Below.setCell ?_ ?_ _) | (with_reducible refine Below.drew ?_) | (with_reducible refine below_drewN ?_ _) | (with_reducible refine below_via ?_ (by with_reducible assumption) ?_) | omega | (simp; done) | (simp; omega)))
set_option maxRecDepth 100000 in
set_option maxHeartbeats 2000000 in
theorem bigAdd_false_true_more (a b : Int) (hsa : decide (a < 0) = false) (hsb : decide (b < 0) = true) (hlt : ¬ iabs a < iabs b) (la lb : List Int) (A B : Option Addr) (c d L : Nat) (w : World) (hL : L ≤ 1000000) (hla : la.length ≤ L) (hlb : lb.length ≤ L) (ha : IsBig w a false A la c) (hb : IsBig w b true B lb d) :
    Calls Tryz.prog 33 #[.agg #[.bool false, .slice A la.length c], .agg #[.bool true, .slice B lb.length d]] w (BigPost w (a + b) (L + 1)) := by
  have fa := pos_of_pos hsa
  have fb := pos_of_neg hsb
  have hn : iabs a - iabs b = iabs (a + b) := by unfold iabs at *; split at * <;> omega
  have hsg : ∀ x : Int, x = iabs (a + b) → decide (a + b < 0) = (false && decide (0 < x)) := by
    intro x hx
    rw [hx, Bool.eq_iff_iff]; simp; unfold iabs at *; split at * <;> omega
  have HN := Lib.hid hn
  have HSG := Lib.hid hsg
  have HA := Lib.hid ha
  have HB := Lib.hid hb
  have hd : decide (val la < val lb) = false := by rw [ha.val, hb.val]; simpa using hlt
  have hvv : val lb ≤ val la := by rw [ha.val, hb.val]; omega
  have hll := len_of_lt hb.bit ha.bit hb.top hvv
  have HVV := Lib.hid hvv
  clear hvv hlt
  clear hn hsg ha hb hsa hsb fa fb
  go_enter Tryz.func33, Tryz.ntmps33
  go_wp2_with (go_at_call 64; (with_reducible refine (bigLess la lb A B c d _ (by omega) (by omega) (HA.out.rd.keep (by (repeat' (first | (with_reducible exact Below.refl _ _) | (with_reducible assumption) | (with_reducible refine Below.alloc ?_ ?_ _) | (with_reducible refine Below.setCell ?_ ?_ _) | (with_reducible refine Below.drew ?_) | (with_reducible refine below_drewN ?_ _) | (with_reducible refine below_via ?_ (by with_reducible assumption) ?_) | omega | (simp; done) | (simp; omega))))) (HB.out.rd.keep (by (repeat' (first | (with_reducible exact Below.refl _ _) | (with_reducible assumption) | (with_reducible refine Below.alloc ?_ ?_ _) | (with_reducible refine Below.setCell ?_ ?_ _) | (with_reducible refine Below.drew ?_) | (with_reducible refine below_drewN ?_ _) | (with_reducible refine below_via ?_ (by with_reducible assumption) ?_) | omega | (simp; done) | (simp; omega))))) HA.out.bit HB.out.bit HA.out.top HB.out.top).mono ?_); rintro e w0 ⟨rfl, hb0⟩; rw [hd]; obtain ⟨fc0, fg0, hc0, hf0, hz0⟩ := bget hb0; simp at hz0)
  go_region_held3 (fun w' => w'.cell? ⟨w.heap.size, 0, none⟩ = some (.bool false) ∧ w'.cell? ⟨w.heap.size, 1, none⟩ = some (.slice A la.length c) ∧ w'.cell? ⟨w.heap.size + 1, 0, none⟩ = some (.bool true) ∧ w'.cell? ⟨w.heap.size + 1, 1, none⟩ = some (.slice B lb.length d)) (first | (simp [go_sem]; done) | (repeat' (first | (with_reducible assumption) | (with_reducible refine And.intro ?_ ?_) | (with_reducible refine cell_drew ?_) | (with_reducible refine cell_via (by with_reducible assumption) ?_ ?_) | (simp [*]; done) | (simp [go_sem]; done) | (with_reducible refine cell_alloc ?_ ?_) | (with_reducible refine cell_set_far ?_ ?_) | omega | (simp; omega)))) (first | (go_at_call 65; (with_reducible refine (bigMinus la lb A B c d _ (by omega) hll (HA.out.rd.keep (by (repeat' (first | (with_reducible exact Below.refl _ _) | (with_reducible assumption) | (with_reducible refine Below.alloc ?_ ?_ _) | (with_reducible refine Below.setCell ?_ ?_ _) | (with_reducible refine Below.drew ?_) | (with_reducible refine below_drewN ?_ _) | (with_reducible refine below_via ?_ (by with_reducible assumption) ?_) | omega | (simp; done) | (simp; omega))))) (HB.out.rd.keep (by (repeat' (first | (with_reducible exact Below.refl _ _) | (with_reducible assumption) | (with_reducible refine Below.alloc ?_ ?_ _) | (with_reducible refine Below.setCell ?_ ?_ _) | (with_reducible refine Below.drew ?_) | (with_reducible refine below_drewN ?_ _) | (with_reducible refine below_via ?_ (by with_reducible assumption) ?_) | omega | (simp; done) | (simp; omega))))) HA.out.bit HB.out.bit HVV.out).mono ?_); rintro e w1 ⟨v, l, rfl, hown, hb1, hbit, hval, hlen⟩; have hl1 : l.length ≤ L + 1 := (by omega); clear hlen; obtain ⟨A1, c1, rfl, hcc, hmm, hr1, _⟩ := hown.shape; have Hval := Lib.hid hval; clear hval; have Hcc := Lib.hid hcc; clear hcc; obtain ⟨fc1, fg1, hc1, hf1, hz1⟩ := bget hb1; simp at hz1) | (go_at_call 62; (try simp only [List.length_map]); (with_reducible refine (bigTrim _ l A1 c1 _ (by omega) hr1 hbit (by simpa using Hcc.out) hmm).mono ?_); rintro e w2 ⟨l2, rfl, hk2, ht2, hv2, hb2⟩; have Hv2 := Lib.hid hv2; clear hv2; have Hk2 := Lib.hid hk2; clear hk2; obtain ⟨fc2, fg2, hc2, hf2, hz2⟩ := bget hb2))
  go_wp2_with fail
  all_goals
    have r0 : w2.cell? ⟨w.heap.size + 1 + 1, 0, none⟩ = some (.bool false) := by simp [go_sem, hc2, hc1, hc0, ↓IntWalk.iteOmega]
    have r1 : w2.cell? ⟨w.heap.size + 1 + 1, 1, none⟩ = some (.slice none 0 0) := by simp [go_sem, hc2, hc1, hc0, ↓IntWalk.iteOmega]
    have hval2 : val l = iabs (a + b) := by rw [Hval.out, ← HN.out, HA.out.val, HB.out.val]
    have hl2 := trim_len Hk2.out
    have hs := HSG.out _ hval2
    have hB := trim_big (hr1.keep hb2) hbit Hk2.out ht2 Hv2.out hval2 (by simpa using Hcc.out) hmm hs.symm
    refine bodyPost_ret (v := .agg #[.bool (false && decide (0 < val l)), .slice A1 l2.length c1]) (by simp [results, Tryz.results33, go_sem, r0, r1]; try rfl) rfl ⟨_, A1, l2, c1, rfl, (hB.far r0 (by simp) _).far ((World.cell?_setCell_other _ _ _ _ (by simp)).trans r1) (by simp) _, by omega, ?_⟩
    (repeat' (first | (with_reducible exact Below.refl _ _) | (with_reducible assumption) | (with_reducible refine Below.alloc ?_ ?_ _) | (with_reducible refine Below.setCell ?_ ?_ _) | (with_reducible refine Below.drew ?_) | (with_reducible refine below_drewN ?_ _) | (with_reducible refine below_via ?_ (by with_reducible assumption) ?_) | omega | (simp; done) | (simp; omega)))
set_option maxRecDepth 100000 in
set_option maxHeartbeats 2000000 in
theorem bigAdd_true_false_less (a b : Int) (hsa : decide (a < 0) = true) (hsb : decide (b < 0) = false) (hlt : iabs a < iabs b) (la lb : List Int) (A B : Option Addr) (c d L : Nat) (w : World) (hL : L ≤ 1000000) (hla : la.length ≤ L) (hlb : lb.length ≤ L) (ha : IsBig w a true A la c) (hb : IsBig w b false B lb d) :
    Calls Tryz.prog 33 #[.agg #[.bool true, .slice A la.length c], .agg #[.bool false, .slice B lb.length d]] w (BigPost w (a + b) (L + 1)) := by
  have fa := pos_of_neg hsa
  have fb := pos_of_pos hsb
  have hn : iabs b - iabs a = iabs (a + b) := by unfold iabs at *; split at * <;> omega
  have hsg : ∀ x : Int, x = iabs (a + b) → decide (a + b < 0) = (false && decide (0 < x)) := by
    intro x hx
    rw [hx, Bool.eq_iff_iff]; simp; unfold iabs at *; split at * <;> omega
  have HN := Lib.hid hn
  have HSG := Lib.hid hsg
  have HA := Lib.hid ha
  have HB := Lib.hid hb
  have hd : decide (val la < val lb) = true := by rw [ha.val, hb.val]; simpa using hlt
  have hvv : val la ≤ val lb := by rw [ha.val, hb.val]; omega
  have hll := len_of_lt ha.bit hb.bit ha.top hvv
  have HVV := Lib.hid hvv
  clear hvv hlt
  clear hn hsg ha hb hsa hsb fa fb
  go_enter Tryz.func33, Tryz.ntmps33
  go_wp2_with (go_at_call 64; (with_reducible refine (bigLess la lb A B c d _ (by omega) (by omega) (HA.out.rd.keep (by (repeat' (first | (with_reducible exact Below.refl _ _) | (with_reducible assumption) | (with_reducible refine Below.alloc ?_ ?_ _) | (with_reducible refine Below.setCell ?_ ?_ _) | (with_reducible refine Below.drew ?_) | (with_reducible refine below_drewN ?_ _) | (with_reducible refine below_via ?_ (by with_reducible assumption) ?_) | omega | (simp; done) | (simp; omega))))) (HB.out.rd.keep (by (repeat' (first | (with_reducible exact Below.refl _ _) | (with_reducible assumption) | (with_reducible refine Below.alloc ?_ ?_ _) | (with_reducible refine Below.setCell ?_ ?_ _) | (with_reducible refine Below.drew ?_) | (with_reducible refine below_drewN ?_ _) | (with_reducible refine below_via ?_ (by with_reducible assumption) ?_) | omega | (simp; done) | (simp; omega))))) HA.out.bit HB.out.bit HA.out.top HB.out.top).mono ?_); rintro e w0 ⟨rfl, hb0⟩; rw [hd]; obtain ⟨fc0, fg0, hc0, hf0, hz0⟩ := bget hb0; simp at hz0)
  go_region_held3 (fun w' => w'.cell? ⟨w.heap.size, 0, none⟩ = some (.bool true) ∧ w'.cell? ⟨w.heap.size, 1, none⟩ = some (.slice A la.length c) ∧ w'.cell? ⟨w.heap.size + 1, 0, none⟩ = some (.bool false) ∧ w'.cell? ⟨w.heap.size + 1, 1, none⟩ = some (.slice B lb.length d)) (first | (simp [go_sem]; done) | (repeat' (first | (with_reducible assumption) | (with_reducible refine And.intro ?_ ?_) | (with_reducible refine cell_drew ?_) | (with_reducible refine cell_via (by with_reducible assumption) ?_ ?_) | (simp [*]; done) | (simp [go_sem]; done) | (with_reducible refine cell_alloc ?_ ?_) | (with_reducible refine cell_set_far ?_ ?_) | omega | (simp; omega)))) (first | (go_at_call 65; (with_reducible refine (bigMinus lb la B A d c _ (by omega) hll (HB.out.rd.keep (by (repeat' (first | (with_reducible exact Below.refl _ _) | (with_reducible assumption) | (with_reducible refine Below.alloc ?_ ?_ _) | (with_reducible refine Below.setCell ?_ ?_ _) | (with_reducible refine Below.drew ?_) | (with_reducible refine below_drewN ?_ _) | (with_reducible refine below_via ?_ (by with_reducible assumption) ?_) | omega | (simp; done) | (simp; omega))))) (HA.out.rd.keep (by (repeat' (first | (with_reducible exact Below.refl _ _) | (with_reducible assumption) | (with_reducible refine Below.alloc ?_ ?_ _) | (with_reducible refine Below.setCell ?_ ?_ _) | (with_reducible refine Below.drew ?_) | (with_reducible refine below_drewN ?_ _) | (with_reducible refine below_via ?_ (by with_reducible assumption) ?_) | omega | (simp; done) | (simp; omega))))) HB.out.bit HA.out.bit HVV.out).mono ?_); rintro e w1 ⟨v, l, rfl, hown, hb1, hbit, hval, hlen⟩; have hl1 : l.length ≤ L + 1 := (by omega); clear hlen; obtain ⟨A1, c1, rfl, hcc, hmm, hr1, _⟩ := hown.shape; have Hval := Lib.hid hval; clear hval; have Hcc := Lib.hid hcc; clear hcc; obtain ⟨fc1, fg1, hc1, hf1, hz1⟩ := bget hb1; simp at hz1) | (go_at_call 62; (try simp only [List.length_map]); (with_reducible refine (bigTrim _ l A1 c1 _ (by omega) hr1 hbit (by simpa using Hcc.out) hmm).mono ?_); rintro e w2 ⟨l2, rfl, hk2, ht2, hv2, hb2⟩; have Hv2 := Lib.hid hv2; clear hv2; have Hk2 := Lib.hid hk2; clear hk2; obtain ⟨fc2, fg2, hc2, hf2, hz2⟩ := bget hb2))
  go_wp2_with fail
  all_goals
    have r0 : w2.cell? ⟨w.heap.size + 1 + 1, 0, none⟩ = some (.bool false) := by simp [go_sem, hc2, hc1, hc0, ↓IntWalk.iteOmega]
    have r1 : w2.cell? ⟨w.heap.size + 1 + 1, 1, none⟩ = some (.slice none 0 0) := by simp [go_sem, hc2, hc1, hc0, ↓IntWalk.iteOmega]
    have hval2 : val l = iabs (a + b) := by rw [Hval.out, ← HN.out, HA.out.val, HB.out.val]
    have hl2 := trim_len Hk2.out
    have hs := HSG.out _ hval2
    have hB := trim_big (hr1.keep hb2) hbit Hk2.out ht2 Hv2.out hval2 (by simpa using Hcc.out) hmm hs.symm
    refine bodyPost_ret (v := .agg #[.bool (false && decide (0 < val l)), .slice A1 l2.length c1]) (by simp [results, Tryz.results33, go_sem, r0, r1]; try rfl) rfl ⟨_, A1, l2, c1, rfl, (hB.far r0 (by simp) _).far ((World.cell?_setCell_other _ _ _ _ (by simp)).trans r1) (by simp) _, by omega, ?_⟩
    (repeat' (first | (with_reducible exact Below.refl _ _) | (with_reducible assumption) | (with_reducible refine Below.alloc ?_ ?_ _) | (with_reducible refine Below.setCell ?_ ?_ _) | (with_reducible refine Below.drew ?_) | (with_reducible refine below_drewN ?_ _) | (with_reducible refine below_via ?_ (by with_reducible assumption) ?_) | omega | (simp; done) | (simp; omega)))
set_option maxRecDepth 100000 in
set_option maxHeartbeats 2000000 in
theorem bigAdd_true_false_more (a b : Int) (hsa : decide (a < 0) = true) (hsb : decide (b < 0) = false) (hlt : ¬ iabs a < iabs b) (la lb : List Int) (A B : Option Addr) (c d L : Nat) (w : World) (hL : L ≤ 1000000) (hla : la.length ≤ L) (hlb : lb.length ≤ L) (ha : IsBig w a true A la c) (hb : IsBig w b false B lb d) :
    Calls Tryz.prog 33 #[.agg #[.bool true, .slice A la.length c], .agg #[.bool false, .slice B lb.length d]] w (BigPost w (a + b) (L + 1)) := by
  have fa := pos_of_neg hsa
  have fb := pos_of_pos hsb
  have hn : iabs a - iabs b = iabs (a + b) := by unfold iabs at *; split at * <;> omega
  have hsg : ∀ x : Int, x = iabs (a + b) → decide (a + b < 0) = (true && decide (0 < x)) := by
    intro x hx
    rw [hx, Bool.eq_iff_iff]; simp; unfold iabs at *; split at * <;> omega
  have HN := Lib.hid hn
  have HSG := Lib.hid hsg
  have HA := Lib.hid ha
  have HB := Lib.hid hb
  have hd : decide (val la < val lb) = false := by rw [ha.val, hb.val]; simpa using hlt
  have hvv : val lb ≤ val la := by rw [ha.val, hb.val]; omega
  have hll := len_of_lt hb.bit ha.bit hb.top hvv
  have HVV := Lib.hid hvv
  clear hvv hlt
  clear hn hsg ha hb hsa hsb fa fb
  go_enter Tryz.func33, Tryz.ntmps33
  go_wp2_with (go_at_call 64; (with_reducible refine (bigLess la lb A B c d _ (by omega) (by omega) (HA.out.rd.keep (by (repeat' (first | (with_reducible exact Below.refl _ _) | (with_reducible assumption) | (with_reducible refine Below.alloc ?_ ?_ _) | (with_reducible refine Below.setCell ?_ ?_ _) | (with_reducible refine Below.drew ?_) | (with_reducible refine below_drewN ?_ _) | (with_reducible refine below_via ?_ (by with_reducible assumption) ?_) | omega | (simp; done) | (simp; omega))))) (HB.out.rd.keep (by (repeat' (first | (with_reducible exact Below.refl _ _) | (with_reducible assumption) | (with_reducible refine Below.alloc ?_ ?_ _) | (with_reducible refine Below.setCell ?_ ?_ _) | (with_reducible refine Below.drew ?_) | (with_reducible refine below_drewN ?_ _) | (with_reducible refine below_via ?_ (by with_reducible assumption) ?_) | omega | (simp; done) | (simp; omega))))) HA.out.bit HB.out.bit HA.out.top HB.out.top).mono ?_); rintro e w0 ⟨rfl, hb0⟩; rw [hd]; obtain ⟨fc0, fg0, hc0, hf0, hz0⟩ := bget hb0; simp at hz0)
  go_region_held3 (fun w' => w'.cell? ⟨w.heap.size, 0, none⟩ = some (.bool true) ∧ w'.cell? ⟨w.heap.size, 1, none⟩ = some (.slice A la.length c) ∧ w'.cell? ⟨w.heap.size + 1, 0, none⟩ = some (.bool false) ∧ w'.cell? ⟨w.heap.size + 1, 1, none⟩ = some (.slice B lb.length d)) (first | (simp [go_sem]; done) | (repeat' (first | (with_reducible assumption) | (with_reducible refine And.intro ?_ ?_) | (with_reducible refine cell_drew ?_) | (with_reducible refine cell_via (by with_reducible assumption) ?_ ?_) | (simp [*]; done) | (simp [go_sem]; done) | (with_reducible refine cell_alloc ?_ ?_) | (with_reducible refine cell_set_far ?_ ?_) | omega | (simp; omega)))) (first | (go_at_call 65; (with_reducible refine (bigMinus la lb A B c d _ (by omega) hll (HA.out.rd.keep (by (repeat' (first | (with_reducible exact Below.refl _ _) | (with_reducible assumption) | (with_reducible refine Below.alloc ?_ ?_ _) | (with_reducible refine Below.setCell ?_ ?_ _) | (with_reducible refine Below.drew ?_) | (with_reducible refine below_drewN ?_ _) | (with_reducible refine below_via ?_ (by with_reducible assumption) ?_) | omega | (simp; done) | (simp; omega))))) (HB.out.rd.keep (by (repeat' (first | (with_reducible exact Below.refl _ _) | (with_reducible assumption) | (with_reducible refine Below.alloc ?_ ?_ _) | (with_reducible refine Below.setCell ?_ ?_ _) | (with_reducible refine Below.drew ?_) | (with_reducible refine below_drewN ?_ _) | (with_reducible refine below_via ?_ (by with_reducible assumption) ?_) | omega | (simp; done) | (simp; omega))))) HA.out.bit HB.out.bit HVV.out).mono ?_); rintro e w1 ⟨v, l, rfl, hown, hb1, hbit, hval, hlen⟩; have hl1 : l.length ≤ L + 1 := (by omega); clear hlen; obtain ⟨A1, c1, rfl, hcc, hmm, hr1, _⟩ := hown.shape; have Hval := Lib.hid hval; clear hval; have Hcc := Lib.hid hcc; clear hcc; obtain ⟨fc1, fg1, hc1, hf1, hz1⟩ := bget hb1; simp at hz1) | (go_at_call 62; (try simp only [List.length_map]); (with_reducible refine (bigTrim _ l A1 c1 _ (by omega) hr1 hbit (by simpa using Hcc.out) hmm).mono ?_); rintro e w2 ⟨l2, rfl, hk2, ht2, hv2, hb2⟩; have Hv2 := Lib.hid hv2; clear hv2; have Hk2 := Lib.hid hk2; clear hk2; obtain ⟨fc2, fg2, hc2, hf2, hz2⟩ := bget hb2))
  go_wp2_with fail
  all_goals
    have r0 : w2.cell? ⟨w.heap.size + 1 + 1, 0, none⟩ = some (.bool false) := by simp [go_sem, hc2, hc1, hc0, ↓IntWalk.iteOmega]
    have r1 : w2.cell? ⟨w.heap.size + 1 + 1, 1, none⟩ = some (.slice none 0 0) := by simp [go_sem, hc2, hc1, hc0, ↓IntWalk.iteOmega]
    have hval2 : val l = iabs (a + b) := by rw [Hval.out, ← HN.out, HA.out.val, HB.out.val]
    have hl2 := trim_len Hk2.out
    have hs := HSG.out _ hval2
    have hB := trim_big (hr1.keep hb2) hbit Hk2.out ht2 Hv2.out hval2 (by simpa using Hcc.out) hmm hs.symm
    refine bodyPost_ret (v := .agg #[.bool (true && decide (0 < val l)), .slice A1 l2.length c1]) (by simp [results, Tryz.results33, go_sem, r0, r1]; try rfl) rfl ⟨_, A1, l2, c1, rfl, (hB.far r0 (by simp) _).far ((World.cell?_setCell_other _ _ _ _ (by simp)).trans r1) (by simp) _, by omega, ?_⟩
    (repeat' (first | (with_reducible exact Below.refl _ _) | (with_reducible assumption) | (with_reducible refine Below.alloc ?_ ?_ _) | (with_reducible refine Below.setCell ?_ ?_ _) | (with_reducible refine Below.drew ?_) | (with_reducible refine below_drewN ?_ _) | (with_reducible refine below_via ?_ (by with_reducible assumption) ?_) | omega | (simp; done) | (simp; omega)))
set_option maxRecDepth 100000 in
set_option maxHeartbeats 2000000 in
theorem bigAdd_true_true_plus (a b : Int) (hsa : decide (a < 0) = true) (hsb : decide (b < 0) = true) (la lb : List Int) (A B : Option Addr) (c d L : Nat) (w : World) (hL : L ≤ 1000000) (hla : la.length ≤ L) (hlb : lb.length ≤ L) (ha : IsBig w a true A la c) (hb : IsBig w b true B lb d) :
    Calls Tryz.prog 33 #[.agg #[.bool true, .slice A la.length c], .agg #[.bool true, .slice B lb.length d]] w (BigPost w (a + b) (L + 1)) := by
  have fa := pos_of_neg hsa
  have fb := pos_of_neg hsb
  have hn : iabs a + iabs b = iabs (a + b) := by unfold iabs at *; split at * <;> omega
  have hsg : ∀ x : Int, x = iabs (a + b) → decide (a + b < 0) = (true && decide (0 < x)) := by
    intro x hx
    rw [hx, Bool.eq_iff_iff]; simp; unfold iabs at *; split at * <;> omega
  have HN := Lib.hid hn
  have HSG := Lib.hid hsg
  have HA := Lib.hid ha
  have HB := Lib.hid hb
  clear hn hsg ha hb hsa hsb fa fb
  go_enter Tryz.func33, Tryz.ntmps33
  go_wp2_with fail
  go_region_held3 (fun w' => w'.cell? ⟨w.heap.size, 0, none⟩ = some (.bool true) ∧ w'.cell? ⟨w.heap.size, 1, none⟩ = some (.slice A la.length c) ∧ w'.cell? ⟨w.heap.size + 1, 0, none⟩ = some (.bool true) ∧ w'.cell? ⟨w.heap.size + 1, 1, none⟩ = some (.slice B lb.length d)) (first | (simp [go_sem]; done) | (repeat' (first | (with_reducible assumption) | (with_reducible refine And.intro ?_ ?_) | (with_reducible refine cell_drew ?_) | (with_reducible refine cell_via (by with_reducible assumption) ?_ ?_) | (simp [*]; done) | (simp [go_sem]; done) | (with_reducible refine cell_alloc ?_ ?_) | (with_reducible refine cell_set_far ?_ ?_) | omega | (simp; omega)))) (first | (go_at_call 63; (with_reducible refine (bigPlus la lb A B c d _ (by omega) (by omega) (HA.out.rd.keep (by (repeat' (first | (with_reducible exact Below.refl _ _) | (with_reducible assumption) | (with_reducible refine Below.alloc ?_ ?_ _) | (with_reducible refine Below.setCell ?_ ?_ _) | (with_reducible refine Below.drew ?_) | (with_reducible refine below_drewN ?_ _) | (with_reducible refine below_via ?_ (by with_reducible assumption) ?_) | omega | (simp; done) | (simp; omega))))) (HB.out.rd.keep (by (repeat' (first | (with_reducible exact Below.refl _ _) | (with_reducible assumption) | (with_reducible refine Below.alloc ?_ ?_ _) | (with_reducible refine Below.setCell ?_ ?_ _) | (with_reducible refine Below.drew ?_) | (with_reducible refine below_drewN ?_ _) | (with_reducible refine below_via ?_ (by with_reducible assumption) ?_) | omega | (simp; done) | (simp; omega))))) HA.out.bit HB.out.bit).mono ?_); rintro e w1 ⟨v, l, rfl, hown, hb1, hbit, hval, hlen⟩; have hl1 := plus_len hla hlb hlen; have hb0 : Below w.heap.size w w := Below.refl _ _; obtain ⟨A1, c1, rfl, hcc, hmm, hr1, _⟩ := hown.shape; have Hval := Lib.hid hval; clear hval; have Hcc := Lib.hid hcc; clear hcc; obtain ⟨fc1, fg1, hc1, hf1, hz1⟩ := bget hb1; simp at hz1) | (go_at_call 62; (try simp only [List.length_map]); (with_reducible refine (bigTrim _ l A1 c1 _ (by omega) hr1 hbit (by simpa using Hcc.out) hmm).mono ?_); rintro e w2 ⟨l2, rfl, hk2, ht2, hv2, hb2⟩; have Hv2 := Lib.hid hv2; clear hv2; have Hk2 := Lib.hid hk2; clear hk2; obtain ⟨fc2, fg2, hc2, hf2, hz2⟩ := bget hb2))
  go_wp2_with fail
  all_goals
    have r0 : w2.cell? ⟨w.heap.size + 1 + 1, 0, none⟩ = some (.bool false) := by simp [go_sem, hc2, hc1, ↓IntWalk.iteOmega]
    have r1 : w2.cell? ⟨w.heap.size + 1 + 1, 1, none⟩ = some (.slice none 0 0) := by simp [go_sem, hc2, hc1, ↓IntWalk.iteOmega]
    have hval2 : val l = iabs (a + b) := by rw [Hval.out, ← HN.out, HA.out.val, HB.out.val]
    have hl2 := trim_len Hk2.out
    have hs := HSG.out _ hval2
    have hB := trim_big (hr1.keep hb2) hbit Hk2.out ht2 Hv2.out hval2 (by simpa using Hcc.out) hmm hs.symm
    refine bodyPost_ret (v := .agg #[.bool (true && decide (0 < val l)), .slice A1 l2.length c1]) (by simp [results, Tryz.results33, go_sem, r0, r1]; try rfl) rfl ⟨_, A1, l2, c1, rfl, (hB.far r0 (by simp) _).far ((World.cell?_setCell_other _ _ _ _ (by simp)).trans r1) (by simp) _, by omega, ?_⟩
    (repeat' (first | (with_reducible exact Below.refl _ _) | (with_reducible assumption) | (with_reducible refine Below.alloc ?_ ?_ _) | (with_reducible refine Below.setCell ?_ ?_ _) | (with_reducible refine Below.drew ?_) | (with_reducible refine below_drewN ?_ _) | (with_reducible refine below_via ?_ (by with_reducible assumption) ?_) | omega | (simp; done) | (simp; omega)))
theorem bigAdd (a b : Int) (sa sb : Bool) (la lb : List Int) (A B : Option Addr) (c d L : Nat) (w : World) (hL : L ≤ 1000000) (hla : la.length ≤ L) (hlb : lb.length ≤ L) (ha : IsBig w a sa A la c) (hb : IsBig w b sb B lb d) :
    Calls Tryz.prog 33 #[.agg #[.bool sa, .slice A la.length c], .agg #[.bool sb, .slice B lb.length d]] w (BigPost w (a + b) (L + 1)) := by
  have e1 := ha.sgn.symm
  have e2 := hb.sgn.symm
  cases sa <;> cases sb
  · exact bigAdd_false_false_plus a b e1 e2 la lb A B c d L w hL hla hlb ha hb
  · by_cases h : iabs a < iabs b
    · exact bigAdd_false_true_less a b e1 e2 h la lb A B c d L w hL hla hlb ha hb
    · exact bigAdd_false_true_more a b e1 e2 h la lb A B c d L w hL hla hlb ha hb
  · by_cases h : iabs a < iabs b
    · exact bigAdd_true_false_less a b e1 e2 h la lb A B c d L w hL hla hlb ha hb
    · exact bigAdd_true_false_more a b e1 e2 h la lb A B c d L w hL hla hlb ha hb
  · exact bigAdd_true_true_plus a b e1 e2 la lb A B c d L w hL hla hlb ha hb
end Go.Proofs.YtalgfpegaobacaaGreat

/- Contracts of the reference's Neg, Sub, Cmp, Within, Fits, Int. -/
namespace Go.Proofs.YtalgfpegaobacaaGreat
open Go.RowKit
end Go.Proofs.YtalgfpegaobacaaGreat

/- A slice that reads as a list, whatever it holds. No program in sight. -/
namespace Go.Proofs.YtalgfpegaobacaaGreat
open Go.RowKit
/-- The slice (A, rows.length, c) reads as these rows of k cells each. -/
structure Rs (w : World) (k : Nat) (rows : List (List Value)) (A : Option Addr) (c : Nat) : Prop where
  rd : Rd w A k rows
  cap : rows.length ≤ c
  room : c ≤ maxLen
  nil : A = none → c = 0
section
variable {w w' : World} {k : Nat} {rows : List (List Value)} {A : Option Addr} {c : Nat}
theorem Rs.keep (h : Rs w k rows A c) (hb : Below w.heap.size w w') : Rs w' k rows A c := ⟨h.rd.keep hb, h.cap, h.room, h.nil⟩
theorem Rs.empty (w : World) (k : Nat) : Rs w k [] .none 0 := ⟨fun i r hr => by simp at hr, by simp, by simp, fun _ => rfl⟩
theorem Rs.nilrows (h : Rs w k rows .none c) : rows = [] := by
  have := h.nil rfl
  have h1 := h.cap
  exact List.eq_nil_of_length_eq_zero (by omega)
theorem Own.rs {base E : Nat} {v : Value} (h : Own w base E k v rows) : ∃ A c, v = .slice A rows.length c ∧ Rs w k rows A c ∧ ((A = .none ∧ rows = [] ∧ c = 0) ∨ ∃ g, A = some ⟨g, 0, .none⟩ ∧ base ≤ g ∧ g < w.heap.size) := by
  rcases h.2.2 with ⟨hv, h0⟩ | ⟨g, cap, cur, hv, hg, hh, hc, hm, hs, ht⟩
  · have : rows = [] := List.eq_nil_of_length_eq_zero h0
    subst this
    exact ⟨.none, 0, hv, Rs.empty _ _, .inl ⟨rfl, rfl, rfl⟩⟩
  · have hlt := (Array.getElem?_eq_some_iff.1 hh).1
    have hrd := h
    rw [hv] at hrd
    exact ⟨_, cap, hv, ⟨hrd.rd.1, hc, hm, fun e => by cases e⟩, .inr ⟨g, rfl, hg, hlt⟩⟩
end
theorem rd_take' {w : World} {A : Option Addr} {k : Nat} {rows : List (List Value)} (h : Rd w A k rows) (n : Nat) : Rd w A k (rows.take n) := by
  intro i r hr
  refine h i r ?_
  rw [List.getElem?_take] at hr
  split at hr
  · exact hr
  · cases hr
theorem Rs.take {w : World} {k : Nat} {rows : List (List Value)} {A : Option Addr} {c : Nat} (h : Rs w k rows A c) (n : Nat) : Rs w k (rows.take n) A c := ⟨rd_take' h.rd n, by have := h.cap; rw [List.length_take]; omega, h.room, h.nil⟩
theorem drop_cons' {α : Type} {l : List α} {k : Nat} (h : k < l.length) : l.drop k = l[k] :: l.drop (k + 1) := List.drop_eq_getElem_cons h
theorem drop_all {α : Type} {l : List α} {k : Nat} (h : l.length ≤ k) : l.drop k = [] := List.drop_eq_nil_of_le h
theorem map_snoc {α β : Type} {l : List α} {k : Nat} (h : k < l.length) (f : α → β) : (l.take (k + 1)).map f = (l.take k).map f ++ [f l[k]] := by
  rw [List.take_succ_eq_append_getElem h, List.map_append]; rfl
theorem getD_at {α : Type} {l : List α} {k : Nat} (h : k < l.length) (d : α) : l.getD k d = l[k] := by simp [List.getD_eq_getElem?_getD, h]
/-- Of 64 bits. -/
def in64 (n : Int) : Bool := decide (-9223372036854775808 ≤ n ∧ n ≤ 9223372036854775807)
theorem in64_iff {n : Int} : in64 n = true ↔ In64 n := by simp [in64, In64]
theorem in64_no {n : Int} (h : in64 n = false) : ¬ In64 n := fun h1 => by rw [in64_iff.2 h1] at h; cases h
/-- Two lists, place by place. -/
structure Each {α β : Type} (R : α → β → Prop) (us : List α) (bs : List β) : Prop where
  len : us.length = bs.length
  pt : ∀ (i : Nat) (a : α) (b : β), us[i]? = some a → bs[i]? = some b → R a b
theorem Each.nil {α β : Type} (R : α → β → Prop) : Each R [] [] := ⟨rfl, fun i a b h => by simp at h⟩
theorem Each.get {α β : Type} {R : α → β → Prop} {us : List α} {bs : List β} (h : Each R us bs) {i : Nat} (hi : i < bs.length) : ∃ a, us[i]? = some a ∧ R a bs[i] :=
  ⟨us[i]'(by rw [h.len]; exact hi), List.getElem?_eq_getElem _, h.pt i _ _ (List.getElem?_eq_getElem _) (List.getElem?_eq_getElem hi)⟩
theorem Each.imp {α β : Type} {R Q : α → β → Prop} {us : List α} {bs : List β} (h : Each R us bs) (f : ∀ a b, R a b → Q a b) : Each Q us bs := ⟨h.len, fun i a b h1 h2 => f a b (h.pt i a b h1 h2)⟩
theorem Each.take {α β : Type} {R : α → β → Prop} {us : List α} {bs : List β} (h : Each R us bs) (n : Nat) : Each R (us.take n) (bs.take n) := by
  refine ⟨by rw [List.length_take, List.length_take, h.len], fun i a b h1 h2 => ?_⟩
  rw [List.getElem?_take] at h1 h2
  split at h1
  · rename_i hi; rw [if_pos hi] at h2; exact h.pt i a b h1 h2
  · cases h1
theorem Each.append {α β : Type} {R : α → β → Prop} {us cs : List α} {bs ds : List β} (h : Each R us bs) (k : Each R cs ds) : Each R (us ++ cs) (bs ++ ds) := by
  refine ⟨by rw [List.length_append, List.length_append, h.len, k.len], fun i a b h1 h2 => ?_⟩
  rcases Nat.lt_or_ge i us.length with hi | hi
  · rw [List.getElem?_append_left hi] at h1
    rw [List.getElem?_append_left (by rw [← h.len]; exact hi)] at h2
    exact h.pt i a b h1 h2
  · rw [List.getElem?_append_right hi] at h1
    rw [List.getElem?_append_right (by rw [← h.len]; exact hi), ← h.len] at h2
    exact k.pt _ a b h1 h2
theorem Each.one {α β : Type} {R : α → β → Prop} {a : α} {b : β} (h : R a b) : Each R [a] [b] := by
  refine ⟨rfl, fun i x y h1 h2 => ?_⟩
  match i with
  | 0 => simp at h1 h2; subst h1 h2; exact h
  | i + 1 => simp at h1
/-- A slice of slices: what each reads as. -/
def IsSl {α : Type} (k : Nat) (enc : α → List Value) (w : World) (v : Value) (l : List α) : Prop := ∃ A c, v = .slice A l.length c ∧ Rs w k (l.map enc) A c
theorem IsSl.keep {α : Type} {k : Nat} {enc : α → List Value} {w w' : World} {v : Value} {l : List α} (h : IsSl k enc w v l) (hb : Below w.heap.size w w') : IsSl k enc w' v l := by
  obtain ⟨A, c, h1, h2⟩ := h
  exact ⟨A, c, h1, h2.keep hb⟩
theorem isl {α : Type} {k : Nat} {enc : α → List Value} {w : World} {l : List α} {A : Option Addr} {c : Nat} (h : Rs w k (l.map enc) A c) : IsSl k enc w (.slice A l.length c) l := ⟨A, c, rfl, h⟩
theorem IsSl.empty {α : Type} (k : Nat) (enc : α → List Value) (w : World) : IsSl k enc w (.slice .none 0 0) [] := ⟨.none, 0, rfl, Rs.empty _ _⟩
theorem Own.isSl {α : Type} {k base E : Nat} {enc : α → List Value} {w : World} {v : Value} {l : List α} (h : Own w base E k v (l.map enc)) : IsSl k enc w v l := by
  obtain ⟨A, c, h1, h2, _⟩ := h.rs
  rw [List.length_map] at h1
  exact ⟨A, c, h1, h2⟩
/-- One cell each. -/
def enc1 (v : Value) : List Value := [v]
/-- The slice (A, n, c) holds slices that read as ls. -/
structure RsS {α : Type} (k : Nat) (enc : α → List Value) (w : World) (ls : List (List α)) (A : Option Addr) (c : Nat) : Prop where
  ex : ∃ vs : List Value, Each (IsSl k enc w) vs ls ∧ Rs w 1 (vs.map enc1) A c
theorem RsS.keep {α : Type} {k : Nat} {enc : α → List Value} {w w' : World} {ls : List (List α)} {A : Option Addr} {c : Nat} (h : RsS k enc w ls A c) (hb : Below w.heap.size w w') : RsS k enc w' ls A c := by
  obtain ⟨vs, h1, h2⟩ := h.ex
  exact ⟨vs, h1.imp fun _ _ h => h.keep hb, h2.keep hb⟩
theorem RsS.row {α : Type} {k : Nat} {enc : α → List Value} {w : World} {ls : List (List α)} {A : Option Addr} {c : Nat} (h : RsS k enc w ls A c) {i : Nat} (hi : i < ls.length) :
    ∃ b o B d, A = some ⟨b, o, none⟩ ∧ b < w.heap.size ∧ w.cell? ⟨b, o + i, none⟩ = some (.slice B ls[i].length d) ∧ Rs w k (ls[i].map enc) B d := by
  obtain ⟨vs, h1, h2⟩ := h.ex
  obtain ⟨v, hv, B, d, rfl, hr⟩ := h1.get hi
  obtain ⟨b, o, hA, hb, hc⟩ := h2.rd i [.slice B ls[i].length d] (by rw [List.getElem?_map, hv]; rfl)
  exact ⟨b, o, B, d, hA, hb, by simpa using hc 0 _ rfl, hr⟩
end Go.Proofs.YtalgfpegaobacaaGreat

/- Contracts of the reference's Within, Fits, Int. -/
namespace Go.Proofs.YtalgfpegaobacaaGreat
open Go.RowKit
def inW (a : Int) (n : Nat) : Bool := decide (- pw (n - 1) ≤ a ∧ a < pw (n - 1))
theorem len_lt_iff {l : List Int} (h : Bit l) (ht : Top l) {n : Nat} (hn : 1 ≤ n) : l.length < n ↔ Go.Proofs.YtalgfpegaobacaaGreat.val l < pw (n - 1) := by
  constructor
  · intro h1
    have := val_lt h
    have := pw_le (show l.length ≤ n - 1 by omega)
    omega
  · intro h1
    have := len_le h ht h1
    omega
theorem inW_pos {w : World} {a : Int} {A : Option Addr} {l : List Int} {c : Nat} (h : IsBig w a false A l c) {n : Nat} (hn : 1 ≤ n) : decide (l.length < n) = inW a n := by
  have ha : 0 ≤ a := by have := h.sgn; simpa using this
  have h1 := len_lt_iff h.bit h.top hn
  have h2 := h.val
  have h3 := pw_pos (n - 1)
  rw [iabs_pos ha] at h2
  unfold inW
  rw [decide_eq_decide]
  omega
theorem inW_neg {w : World} {a : Int} {s : Bool} {A : Option Addr} {l : List Int} {c : Nat} (ha : a < 0) (h : IsBig w (a + 1) s A l c) {n : Nat} (hn : 1 ≤ n) : decide (l.length < n) = inW a n := by
  have h1 := len_lt_iff h.bit h.top hn
  have h2 := h.val
  have h3 := pw_pos (n - 1)
  have h4 : iabs (a + 1) = - (a + 1) := by unfold iabs; split <;> omega
  rw [h4] at h2
  unfold inW
  rw [decide_eq_decide]
  omega
set_option maxRecDepth 100000 in
set_option maxHeartbeats 2000000 in
theorem bigWithin (a : Int) (n : Nat) (s : Bool) (l : List Int) (A : Option Addr) (c L : Nat) (w : World) (hL : L ≤ 900000) (hl : l.length ≤ L) (hn : 1 ≤ n ∧ n ≤ 1000) (ha : IsBig w a s A l c) :
    Calls Tryz.prog 67 #[.agg #[.bool s, .slice A l.length c], .int .i64 n] w fun e w' => e = .returned (.bool (inW a n)) ∧ Below w.heap.size w w' := by
  have HA := Lib.hid ha
  have hs := ha.sgn
  clear ha
  cases s
  · have HI := Lib.hid (inW_pos HA.out hn.1)
    clear hs
    go_enter Tryz.func67, Tryz.ntmps67
    go_wp2_with fail
    go_ret
    exact ⟨by rw [← HI.out]; rfl, by (repeat' (first | (with_reducible exact Below.refl _ _) | (with_reducible assumption) | (with_reducible refine Below.alloc ?_ ?_ _) | (with_reducible refine Below.setCell ?_ ?_ _) | (with_reducible refine Below.drew ?_) | (with_reducible refine below_drewN ?_ _) | (with_reducible refine below_via ?_ (by with_reducible assumption) ?_) | omega | (simp; done) | (simp; omega)))⟩
  · have HN : Hid (a < 0) := by unfold Hid; simpa using hs.symm
    clear hs
    go_enter Tryz.func67, Tryz.ntmps67
    go_wp2_with fail
    go_region_with (first | (go_at_call 66; (with_reducible refine (bigNat 1 _ (by omega) (by omega)).mono ?_); rintro e w1 ⟨A1, l1, c1, rfl, hB1, hl1', hb1⟩; have HB1 := Lib.hid hB1; clear hB1; obtain ⟨fc1, fg1, hc1, hf1, hz1⟩ := bget hb1; (try simp at hz1)) | (go_at_call 33; (with_reducible refine (bigAdd a 1 true false l l1 A A1 c c1 (L + 64) _ (by omega) (by omega) (by omega) (HA.out.keep (by (repeat' (first | (with_reducible exact Below.refl _ _) | (with_reducible assumption) | (with_reducible refine Below.alloc ?_ ?_ _) | (with_reducible refine Below.setCell ?_ ?_ _) | (with_reducible refine Below.drew ?_) | (with_reducible refine below_drewN ?_ _) | (with_reducible refine below_via ?_ (by with_reducible assumption) ?_) | omega | (simp; done) | (simp; omega))))) (HB1.out.keep (by (repeat' (first | (with_reducible exact Below.refl _ _) | (with_reducible assumption) | (with_reducible refine Below.alloc ?_ ?_ _) | (with_reducible refine Below.setCell ?_ ?_ _) | (with_reducible refine Below.drew ?_) | (with_reducible refine below_drewN ?_ _) | (with_reducible refine below_via ?_ (by with_reducible assumption) ?_) | omega | (simp; done) | (simp; omega)))))).mono ?_); rintro e w2 ⟨s2, A2, l2, c2, rfl, hB2, hl2, hb2⟩; have HB2 := Lib.hid hB2; clear hB2; obtain ⟨fc2, fg2, hc2, hf2, hz2⟩ := bget hb2; (try simp at hz2)))
    all_goals
      have HI := Lib.hid (inW_neg HN.out HB2.out hn.1)
      go_wp2_with fail
      go_ret
      exact ⟨by rw [← HI.out]; rfl, by (repeat' (first | (with_reducible exact Below.refl _ _) | (with_reducible assumption) | (with_reducible refine Below.alloc ?_ ?_ _) | (with_reducible refine Below.setCell ?_ ?_ _) | (with_reducible refine Below.drew ?_) | (with_reducible refine below_drewN ?_ _) | (with_reducible refine below_via ?_ (by with_reducible assumption) ?_) | omega | (simp; done) | (simp; omega)))⟩
theorem inW_64 (a : Int) : inW a 64 = decide (-9223372036854775808 ≤ a ∧ a ≤ 9223372036854775807) := by
  unfold inW
  rw [show pw (64 - 1) = 9223372036854775808 from by decide, decide_eq_decide]
  omega
theorem bigWithin64 (a : Int) (s : Bool) (l : List Int) (A : Option Addr) (c L : Nat) (w : World) (hL : L ≤ 900000) (hl : l.length ≤ L) (ha : IsBig w a s A l c) :
    Calls Tryz.prog 67 #[.agg #[.bool s, .slice A l.length c], .int .i64 64] w fun e w' => e = .returned (.bool (in64 a)) ∧ Below w.heap.size w w' := by
  rw [show in64 a = inW a 64 from (inW_64 a).symm]
  exact bigWithin a 64 s l A c L w hL hl (by omega) ha
set_option maxRecDepth 100000 in
set_option maxHeartbeats 2000000 in
theorem bigFits (a : Int) (s : Bool) (l : List Int) (A : Option Addr) (c L : Nat) (w : World) (hL : L ≤ 900000) (hl : l.length ≤ L) (ha : IsBig w a s A l c) :
    Calls Tryz.prog 35 #[.agg #[.bool s, .slice A l.length c]] w fun e w' => e = .returned (.bool (in64 a)) ∧ Below w.heap.size w w' := by
  have HA := Lib.hid ha
  have c1 := fun W (h : IsBig W a s A l c) => bigWithin64 a s l A c L W hL hl h
  have C1 := Lib.hid c1
  clear ha c1
  go_enter Tryz.func35, Tryz.ntmps35
  go_wp2_with (go_at_call 67; (with_reducible refine (C1.out _ (HA.out.keep (by (repeat' (first | (with_reducible exact Below.refl _ _) | (with_reducible assumption) | (with_reducible refine Below.alloc ?_ ?_ _) | (with_reducible refine Below.setCell ?_ ?_ _) | (with_reducible refine Below.drew ?_) | (with_reducible refine below_drewN ?_ _) | (with_reducible refine below_via ?_ (by with_reducible assumption) ?_) | omega | (simp; done) | (simp; omega)))))).mono ?_); rintro e w1 ⟨rfl, hb1⟩; obtain ⟨fc1, fg1, hc1, hf1, hz1⟩ := bget hb1; try simp at hz1)
  go_ret
  exact ⟨rfl, by (repeat' (first | (with_reducible exact Below.refl _ _) | (with_reducible assumption) | (with_reducible refine Below.alloc ?_ ?_ _) | (with_reducible refine Below.setCell ?_ ?_ _) | (with_reducible refine Below.drew ?_) | (with_reducible refine below_drewN ?_ _) | (with_reducible refine below_via ?_ (by with_reducible assumption) ?_) | omega | (simp; done) | (simp; omega)))⟩
theorem val_drop_pred {l : List Int} {k : Nat} (h0 : 0 < k) (hk : k ≤ l.length) : Go.Proofs.YtalgfpegaobacaaGreat.val (l.drop (k - 1)) = l.getD (k - 1) 0 + 2 * Go.Proofs.YtalgfpegaobacaaGreat.val (l.drop k) := by
  have h1 : k - 1 < l.length := by omega
  rw [List.drop_eq_getElem_cons h1, show k - 1 + 1 = k from by omega]
  simp [Go.Proofs.YtalgfpegaobacaaGreat.val, List.getD_eq_getElem?_getD, h1]
theorem val_drop_le {l : List Int} (h : Bit l) (k : Nat) (hk : k ≤ l.length) : 0 ≤ Go.Proofs.YtalgfpegaobacaaGreat.val (l.drop k) ∧ Go.Proofs.YtalgfpegaobacaaGreat.val (l.drop k) ≤ Go.Proofs.YtalgfpegaobacaaGreat.val l := by
  have h1 := val_nonneg (bit_drop h k)
  have h2 := val_nonneg (bit_take h k)
  have h3 := val_split l k hk
  have h4 := pw_pos k
  have h5 : 1 * Go.Proofs.YtalgfpegaobacaaGreat.val (l.drop k) ≤ pw k * Go.Proofs.YtalgfpegaobacaaGreat.val (l.drop k) := Int.mul_le_mul_of_nonneg_right (by omega) h1
  omega
set_option maxRecDepth 100000 in
set_option maxHeartbeats 2000000 in
theorem bigInt (a : Int) (s : Bool) (l : List Int) (A : Option Addr) (c : Nat) (w : World) (hl : l.length ≤ 1000000) (h64 : In64 a) (ha : IsBig w a s A l c) :
    Calls Tryz.prog 36 #[.agg #[.bool s, .slice A l.length c]] w fun e w' => e = .returned (.int .i64 a) ∧ Below w.heap.size w w' := by
  have HA := Lib.hid ha
  have hs := ha.sgn
  have hv : Go.Proofs.YtalgfpegaobacaaGreat.val l = iabs a := ha.val
  have hbit := Lib.hid ha.bit
  have Hr := Lib.hid ha.rd
  unfold In64 at h64
  clear ha
  cases s
  · have hn : 0 ≤ a := by simpa using hs
    rw [iabs_pos hn] at hv
    have HV := Lib.hid hv
    clear hs hv
    go_enter Tryz.func36, Tryz.ntmps36
    go_wp2_with fail
    go_loopw [3, 4] (fun n i wr => ∃ k : Nat, k ≤ l.length ∧ i = .int .i64 k ∧ n = .int .i64 (Go.Proofs.YtalgfpegaobacaaGreat.val (l.drop k)) ∧ Below (w.heap.size + 1) (w.alloc (.cells #[.bool false, .slice A l.length c] 81)) wr) (fun _ i _ => (intOf i).toNat)
    case atStart => exact ⟨l.length, Nat.le_refl _, rfl, by rw [List.drop_length]; rfl, by (repeat' (first | (with_reducible exact Below.refl _ _) | (with_reducible assumption) | (with_reducible refine Below.alloc ?_ ?_ _) | (with_reducible refine Below.setCell ?_ ?_ _) | (with_reducible refine Below.drew ?_) | (with_reducible refine below_drewN ?_ _) | (with_reducible refine below_via ?_ (by with_reducible assumption) ?_) | omega | (simp; done) | (simp; omega)))⟩
    case round =>
      obtain ⟨k, hk, rfl, rfl, hbl⟩ := hrel
      have Hbl := Lib.hid hbl
      have hz := hbl.size
      simp at hz
      have r0 := (hbl.cell (p := ⟨w.heap.size, 0, none⟩) (by simp))
      have r1 := (hbl.cell (p := ⟨w.heap.size, 1, none⟩) (by simp))
      simp at r0 r1
      clear hbl
      by_cases h0 : k = 0
      · subst h0
        have HE := Lib.hid (show Go.Proofs.YtalgfpegaobacaaGreat.val (l.drop 0) = a from by rw [List.drop_zero]; exact HV.out)
        go_wp2_with fail
        go_ret
        exact ⟨by rw [← HE.out]; rfl, by have hbl := Hbl.out; have h2 : Below w.heap.size w wr := ((Below.refl _ _).alloc (Nat.le_refl _) _).trans (hbl.mono (by omega)); exact h2⟩
      · have k0 : 0 < k := by omega
        have d0 : decide (0 < k) = true := by simpa using k0
        have b0 := val_drop_le hbit.out k hk
        have b1 := val_drop_le hbit.out (k - 1) (by omega)
        have HP := Lib.hid (val_drop_pred k0 hk)
        have hv1 := HP.out
        have gx := bit_get hbit.out (k - 1)
        obtain ⟨b2, o2, rfl, hb2, c2⟩ := bit_cell Hr.out (Below.refl w.heap.size w) (Nat.le_refl _) (show k - 1 < l.length from by omega)
        have e2 : wr.cell? ⟨b2, o2 + (k - 1), none⟩ = some (.int .u8 (l.getD (k - 1) 0)) := (Hbl.out.cell (p := ⟨b2, o2 + (k - 1), none⟩) (by simp; omega)).trans ((World.cell?_alloc_lt w _ ⟨b2, o2 + (k - 1), none⟩ hb2).trans c2)
        obtain ⟨x, hx⟩ : ∃ x, x = l.getD (k - 1) 0 := ⟨_, rfl⟩
        obtain ⟨v, hvv⟩ : ∃ v, v = Go.Proofs.YtalgfpegaobacaaGreat.val (l.drop k) := ⟨_, rfl⟩
        rw [← hx] at e2 gx hv1 HP
        rw [← hvv] at b0 hv1 HP ⊢
        have hvl : v ≤ 4611686018427387904 := by have := HV.out; omega
        have hvx : 2 * v + x ≤ 9223372036854775807 := by have := HV.out; omega
        clear hv1 hvv hx c2 b1
        go_wp2_with fail
        go_roundw
        case rel => exact ⟨k - 1, by omega, by go_num, by rw [HP.out]; go_num, Hbl.out⟩
        case measure => simp [intOf]; omega
  · have hn : a < 0 := by simpa using hs.symm
    rw [iabs_neg hn] at hv
    have HV := Lib.hid hv
    clear hs hv
    go_enter Tryz.func36, Tryz.ntmps36
    go_wp2_with fail
    go_loopw [3, 4] (fun n i wr => ∃ k : Nat, k ≤ l.length ∧ i = .int .i64 k ∧ n = .int .i64 (- Go.Proofs.YtalgfpegaobacaaGreat.val (l.drop k)) ∧ Below (w.heap.size + 1) (w.alloc (.cells #[.bool true, .slice A l.length c] 81)) wr) (fun _ i _ => (intOf i).toNat)
    case atStart => exact ⟨l.length, Nat.le_refl _, rfl, by rw [List.drop_length]; rfl, by (repeat' (first | (with_reducible exact Below.refl _ _) | (with_reducible assumption) | (with_reducible refine Below.alloc ?_ ?_ _) | (with_reducible refine Below.setCell ?_ ?_ _) | (with_reducible refine Below.drew ?_) | (with_reducible refine below_drewN ?_ _) | (with_reducible refine below_via ?_ (by with_reducible assumption) ?_) | omega | (simp; done) | (simp; omega)))⟩
    case round =>
      obtain ⟨k, hk, rfl, rfl, hbl⟩ := hrel
      have Hbl := Lib.hid hbl
      have hz := hbl.size
      simp at hz
      have r0 := (hbl.cell (p := ⟨w.heap.size, 0, none⟩) (by simp))
      have r1 := (hbl.cell (p := ⟨w.heap.size, 1, none⟩) (by simp))
      simp at r0 r1
      clear hbl
      by_cases h0 : k = 0
      · subst h0
        have HE := Lib.hid (show - Go.Proofs.YtalgfpegaobacaaGreat.val (l.drop 0) = a from by rw [List.drop_zero, HV.out]; omega)
        go_wp2_with fail
        go_ret
        exact ⟨by rw [← HE.out]; rfl, by have hbl := Hbl.out; have h2 : Below w.heap.size w wr := ((Below.refl _ _).alloc (Nat.le_refl _) _).trans (hbl.mono (by omega)); exact h2⟩
      · have k0 : 0 < k := by omega
        have d0 : decide (0 < k) = true := by simpa using k0
        have b0 := val_drop_le hbit.out k hk
        have b1 := val_drop_le hbit.out (k - 1) (by omega)
        have HP := Lib.hid (val_drop_pred k0 hk)
        have hv1 := HP.out
        have gx := bit_get hbit.out (k - 1)
        obtain ⟨b2, o2, rfl, hb2, c2⟩ := bit_cell Hr.out (Below.refl w.heap.size w) (Nat.le_refl _) (show k - 1 < l.length from by omega)
        have e2 : wr.cell? ⟨b2, o2 + (k - 1), none⟩ = some (.int .u8 (l.getD (k - 1) 0)) := (Hbl.out.cell (p := ⟨b2, o2 + (k - 1), none⟩) (by simp; omega)).trans ((World.cell?_alloc_lt w _ ⟨b2, o2 + (k - 1), none⟩ hb2).trans c2)
        obtain ⟨x, hx⟩ : ∃ x, x = l.getD (k - 1) 0 := ⟨_, rfl⟩
        obtain ⟨v, hvv⟩ : ∃ v, v = Go.Proofs.YtalgfpegaobacaaGreat.val (l.drop k) := ⟨_, rfl⟩
        rw [← hx] at e2 gx hv1 HP
        rw [← hvv] at b0 hv1 HP ⊢
        have hvl : v ≤ 4611686018427387904 := by have := HV.out; omega
        have hvx : 2 * v + x ≤ 9223372036854775808 := by have := HV.out; omega
        clear hv1 hvv hx c2 b1
        go_wp2_with fail
        go_roundw
        case rel => exact ⟨k - 1, by omega, by go_num, by rw [HP.out]; go_num, Hbl.out⟩
        case measure => simp [intOf]; omega
end Go.Proofs.YtalgfpegaobacaaGreat

/- Layer 2's laws: fix.Scale; what the laws call of their own: lives, Is, few. -/
namespace Go.Proofs.YtalgfpegaobacaaGreat
open Go.RowKit
theorem in64_not' {n : Int} (h : ¬ In64 n) : in64 n = false := by cases e : in64 n; rfl; exact absurd (in64_iff.1 e) h
set_option maxRecDepth 100000 in
set_option maxHeartbeats 4000000 in
theorem fixScaleYes (a n d : Int) (w : World) (ha : In64 a) (hn : In64 n) (hd : 0 < d) (hd1 : d ≤ 9223372036854775807) (h : In64 (a * n / d)) :
    Calls Tryz.prog 77 #[.int .i64 a, .int .i64 n, .int .i64 d] w fun e w' => e = .returned (.tuple #[.int .i64 (a * n / d), .int .i64 (a * n % d), .int .i64 0]) ∧ Below w.heap.size w w' := by
  have hm := mul64_128 ha hn
  skip
  go_enter Tryz.func77, Tryz.ntmps77
  go_wp2_with (first | (go_at_call 96; (with_reducible refine (wideMul a n _ ha hn).mono ?_); rintro e w1 ⟨rfl, hb1⟩; obtain ⟨fc1, fg1, hc1, hf1, hz1⟩ := bget hb1; (try simp at hz1)) | (go_at_call 95; (with_reducible refine (wideDiv (a * n) d _ hm hd hd1).mono ?_); rintro e w2 ⟨rfl, hb2⟩; obtain ⟨fc2, fg2, hc2, hf2, hz2⟩ := bget hb2; (try simp at hz2)) | (go_at_call 55; (with_reducible refine (narrowYes (a * n / d) _ h).mono ?_); rintro e w3 ⟨rfl, hb3⟩; obtain ⟨fc3, fg3, hc3, hf3, hz3⟩ := bget hb3; (try simp at hz3)) | fail)
  refine bodyPost_ret (by simp [results, Tryz.results77, go_sem, ]; try rfl) rfl ⟨rfl, ?_⟩
  (repeat' (first | (with_reducible exact Below.refl _ _) | (with_reducible assumption) | (with_reducible refine Below.alloc ?_ ?_ _) | (with_reducible refine Below.setCell ?_ ?_ _) | (with_reducible refine Below.drew ?_) | (with_reducible refine below_drewN ?_ _) | (with_reducible refine below_via ?_ (by with_reducible assumption) ?_) | omega | (simp; done) | (simp; omega)))
/-- A number or why none, as the code answers. -/
def okN (n : Int) : Int := if in64 n then n else 0
def okE (n : Int) : Int := if in64 n then 0 else 7
theorem okN_yes {n : Int} (h : In64 n) : okN n = n ∧ okE n = 0 := by unfold okN okE; rw [in64_iff.2 h]; exact ⟨rfl, rfl⟩
theorem okN_no {n : Int} (h : ¬ In64 n) : okN n = 0 ∧ okE n = 7 := by unfold okN okE; rw [in64_not' h]; exact ⟨rfl, rfl⟩
end Go.Proofs.YtalgfpegaobacaaGreat

/- wide.Add of two numbers in a row built on the spot. -/
namespace Go.Proofs.YtalgfpegaobacaaGreat
open Go.RowKit
end Go.Proofs.YtalgfpegaobacaaGreat

/- Rows of bits: product, quotient, shift. Plain. -/
namespace Go.Proofs.YtalgfpegaobacaaGreat
theorem val_cons (b : Int) (l : List Int) : val (b :: l) = b + 2 * val l := rfl
theorem bit_cons {b : Int} {l : List Int} (h : Bit l) (h0 : 0 ≤ b) (h1 : b ≤ 1) : Bit (b :: l) := by
  intro x hx
  rcases List.mem_cons.1 hx with e | e
  · subst e; exact ⟨h0, h1⟩
  · exact h x e
theorem top_cons {b : Int} {l : List Int} (h : Top l) (hne : l ≠ []) : Top (b :: l) := by
  intro x hx
  rw [List.getLast?_cons_of_ne_nil hne] at hx
  exact h x hx
end Go.Proofs.YtalgfpegaobacaaGreat
