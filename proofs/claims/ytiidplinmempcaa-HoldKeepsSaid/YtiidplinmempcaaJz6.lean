/- Joined: Big5, Big6, Big7. -/
import Derived.Test.YtiidplinmempcaaJz5
import Derived.Test.YtiidplinmempcaaJz3
import Derived.Test.YtiidplinmempcaaJz1
import Derived.Outline
import Derived.Deep.RegionWith
/- Contracts of the reference's Add. -/
namespace Go.Proofs.Ytiidplinmempcaa
open Go.RowKit
theorem iabs_nonneg (n : Int) : 0 ≤ iabs n := by unfold iabs; split <;> omega
theorem plus_len {x y z L : Nat} {p : Prop} (h1 : x ≤ L) (h2 : y ≤ L) (h : z = max x y ∨ (z = max x y + 1 ∧ p)) : z ≤ L + 1 := by
  rcases h with h | ⟨h, _⟩ <;> omega
theorem len_of_lt {a b : List Int} (ha : Bit a) (hb : Bit b) (ta : Top a) (h : val a ≤ val b) : a.length ≤ b.length := by
  rcases Nat.lt_or_ge b.length a.length with h1 | h1
  · have := lt_of_len hb ha ta h1; omega
  · exact h1
theorem pos_of_neg {n : Int} (h : decide (n < 0) = true) : iabs n = - n := iabs_neg (of_decide_eq_true h)
theorem pos_of_pos {n : Int} (h : decide (n < 0) = false) : iabs n = n ∧ 0 ≤ n := by have := of_decide_eq_false h; exact ⟨iabs_pos (by omega), by omega⟩
set_option maxRecDepth 100000 in
set_option maxHeartbeats 2000000 in
theorem bigAdd_false_false_plus (a b : Int) (hsa : decide (a < 0) = false) (hsb : decide (b < 0) = false) (la lb : List Int) (A B : Option Addr) (c d L : Nat) (w : World) (hL : L ≤ 1000000) (hla : la.length ≤ L) (hlb : lb.length ≤ L) (ha : IsBig w a false A la c) (hb : IsBig w b false B lb d) :
    Calls Try.prog 24 #[.agg #[.bool false, .slice A la.length c], .agg #[.bool false, .slice B lb.length d]] w (BigPost w (a + b) (L + 1)) := by
  have fa := pos_of_pos hsa
  have fb := pos_of_pos hsb
  have hn : iabs a + iabs b = iabs (a + b) := by unfold iabs at *; split at * <;> omega
  have hsg : ∀ x : Int, x = iabs (a + b) → decide (a + b < 0) = (false && decide (0 < x)) := by
    intro x hx
    rw [hx, Bool.eq_iff_iff]; simp; unfold iabs at *; split at * <;> omega
  have HN := Lib.hid hn
  have HSG := Lib.hid hsg
  have HA := Lib.hid ha
  have HB := Lib.hid hb
  clear hn hsg ha hb hsa hsb fa fb
  go_enter Try.func24, Try.ntmps24
  go_wp2_with fail
  go_region_held3 (fun w' => w'.cell? ⟨w.heap.size, 0, none⟩ = some (.bool false) ∧ w'.cell? ⟨w.heap.size, 1, none⟩ = some (.slice A la.length c) ∧ w'.cell? ⟨w.heap.size + 1, 0, none⟩ = some (.bool false) ∧ w'.cell? ⟨w.heap.size + 1, 1, none⟩ = some (.slice B lb.length d)) (first | (simp [go_sem]; done) | (repeat' (first | (with_reducible assumption) | (with_reducible refine And.intro ?_ ?_) | (with_reducible refine cell_drew ?_) | (with_reducible refine cell_via (by with_reducible assumption) ?_ ?_) | (simp [*]; done) | (simp [go_sem]; done) | (with_reducible refine cell_alloc ?_ ?_) | (with_reducible refine cell_set_far ?_ ?_) | omega | (simp; omega)))) (first | (go_at_call 87; (with_reducible refine (bigPlus la lb A B c d _ (by omega) (by omega) (HA.out.rd.keep (by (repeat' (first | (with_reducible exact Below.refl _ _) | (with_reducible assumption) | (with_reducible refine Below.alloc ?_ ?_ _) | (with_reducible refine Below.setCell ?_ ?_ _) | (with_reducible refine Below.drew ?_) | (with_reducible refine below_drewN ?_ _) | (with_reducible refine below_via ?_ (by with_reducible assumption) ?_) | omega | (simp; done) | (simp; omega))))) (HB.out.rd.keep (by (repeat' (first | (with_reducible exact Below.refl _ _) | (with_reducible assumption) | (with_reducible refine Below.alloc ?_ ?_ _) | (with_reducible refine Below.setCell ?_ ?_ _) | (with_reducible refine Below.drew ?_) | (with_reducible refine below_drewN ?_ _) | (with_reducible refine below_via ?_ (by with_reducible assumption) ?_) | omega | (simp; done) | (simp; omega))))) HA.out.bit HB.out.bit).mono ?_); rintro e w1 ⟨v, l, rfl, hown, hb1, hbit, hval, hlen⟩; have hl1 := plus_len hla hlb hlen; have hb0 : Below w.heap.size w w := Below.refl _ _; obtain ⟨A1, c1, rfl, hcc, hmm, hr1, _⟩ := hown.shape; have Hval := Lib.hid hval; clear hval; have Hcc := Lib.hid hcc; clear hcc; obtain ⟨fc1, fg1, hc1, hf1, hz1⟩ := bget hb1; simp at hz1) | (go_at_call 86; (try simp only [List.length_map]); (with_reducible refine (bigTrim _ l A1 c1 _ (by omega) hr1 hbit (by simpa using Hcc.out) hmm).mono ?_); rintro e w2 ⟨l2, rfl, hk2, ht2, hv2, hb2⟩; have Hv2 := Lib.hid hv2; clear hv2; have Hk2 := Lib.hid hk2; clear hk2; obtain ⟨fc2, fg2, hc2, hf2, hz2⟩ := bget hb2))
  go_wp2_with fail
  all_goals
    have r0 : w2.cell? ⟨w.heap.size + 1 + 1, 0, none⟩ = some (.bool false) := by simp [go_sem, hc2, hc1, ↓IntWalk.iteOmega]
    have r1 : w2.cell? ⟨w.heap.size + 1 + 1, 1, none⟩ = some (.slice none 0 0) := by simp [go_sem, hc2, hc1, ↓IntWalk.iteOmega]
    have hval2 : val l = iabs (a + b) := by rw [Hval.out, ← HN.out, HA.out.val, HB.out.val]
    have hl2 := trim_len Hk2.out
    have hs := HSG.out _ hval2
    have hB := trim_big (hr1.keep hb2) hbit Hk2.out ht2 Hv2.out hval2 (by simpa using Hcc.out) hmm hs.symm
    refine bodyPost_ret (v := .agg #[.bool (false && decide (0 < val l)), .slice A1 l2.length c1]) (by simp [results, Try.results24, go_sem, r0, r1]; try rfl) rfl ⟨_, A1, l2, c1, rfl, (hB.far r0 (by simp) _).far ((World.cell?_setCell_other _ _ _ _ (by simp)).trans r1) (by simp) _, by omega, ?_⟩
    (repeat' (first | (with_reducible exact Below.refl _ _) | (with_reducible assumption) | (with_reducible refine Below.alloc ?_ ?_ _) | (with_reducible refine Below.setCell ?_ ?_ _) | (with_reducible refine Below.drew ?_) | (with_reducible refine below_drewN ?_ _) | (with_reducible refine below_via ?_ (by with_reducible assumption) ?_) | omega | (simp; done) | (simp; omega)))
set_option maxRecDepth 100000 in
set_option maxHeartbeats 2000000 in
theorem bigAdd_false_true_less (a b : Int) (hsa : decide (a < 0) = false) (hsb : decide (b < 0) = true) (hlt : iabs a < iabs b) (la lb : List Int) (A B : Option Addr) (c d L : Nat) (w : World) (hL : L ≤ 1000000) (hla : la.length ≤ L) (hlb : lb.length ≤ L) (ha : IsBig w a false A la c) (hb : IsBig w b true B lb d) :
    Calls Try.prog 24 #[.agg #[.bool false, .slice A la.length c], .agg #[.bool true, .slice B lb.length d]] w (BigPost w (a + b) (L + 1)) := by
  have fa := pos_of_pos hsa
  have fb := pos_of_neg hsb
  have hn : iabs b - iabs a = iabs (a + b) := by unfold iabs at *; split at * <;> omega
  have hsg : ∀ x : Int, x = iabs (a + b) → decide (a + b < 0) = (true && decide (0 < x)) := by
    intro x hx
    rw [hx, Bool.eq_iff_iff]; simp; unfold iabs at *; split at * <;> omega
  have HN := Lib.hid hn
  have HSG := Lib.hid hsg
  have HA := Lib.hid ha
  have HB := Lib.hid hb
  have hd : decide (val la < val lb) = true := by rw [ha.val, hb.val]; simpa using hlt
  have hvv : val la ≤ val lb := by rw [ha.val, hb.val]; omega
  have hll := len_of_lt ha.bit hb.bit ha.top hvv
  have HVV := Lib.hid hvv
  clear hvv hlt
  clear hn hsg ha hb hsa hsb fa fb
  go_enter Try.func24, Try.ntmps24
  go_wp2_with (go_at_call 88; (with_reducible refine (bigLess la lb A B c d _ (by omega) (by omega) (HA.out.rd.keep (by (repeat' (first | (with_reducible exact Below.refl _ _) | (with_reducible assumption) | (with_reducible refine Below.alloc ?_ ?_ _) | (with_reducible refine Below.setCell ?_ ?_ _) | (with_reducible refine Below.drew ?_) | (with_reducible refine below_drewN ?_ _) | (with_reducible refine below_via ?_ (by with_reducible assumption) ?_) | omega | (simp; done) | (simp; omega))))) (HB.out.rd.keep (by (repeat' (first | (with_reducible exact Below.refl _ _) | (with_reducible assumption) | (with_reducible refine Below.alloc ?_ ?_ _) | (with_reducible refine Below.setCell ?_ ?_ _) | (with_reducible refine Below.drew ?_) | (with_reducible refine below_drewN ?_ _) | (with_reducible refine below_via ?_ (by with_reducible assumption) ?_) | omega | (simp; done) | (simp; omega))))) HA.out.bit HB.out.bit HA.out.top HB.out.top).mono ?_); rintro e w0 ⟨rfl, hb0⟩; rw [hd]; obtain ⟨fc0, fg0, hc0, hf0, hz0⟩ := bget hb0; simp at hz0)
  go_region_held3 (fun w' => w'.cell? ⟨w.heap.size, 0, none⟩ = some (.bool false) ∧ w'.cell? ⟨w.heap.size, 1, none⟩ = some (.slice A la.length c) ∧ w'.cell? ⟨w.heap.size + 1, 0, none⟩ = some (.bool true) ∧ w'.cell? ⟨w.heap.size + 1, 1, none⟩ = some (.slice B lb.length d)) (first | (simp [go_sem]; done) | (repeat' (first | (with_reducible assumption) | (with_reducible refine And.intro ?_ ?_) | (with_reducible refine cell_drew ?_) | (with_reducible refine cell_via (by with_reducible assumption) ?_ ?_) | (simp [*]; done) | (simp [go_sem]; done) | (with_reducible refine cell_alloc ?_ ?_) | (with_reducible refine cell_set_far ?_ ?_) | omega | (simp; omega)))) (first | (go_at_call 89; (with_reducible refine (bigMinus lb la B A d c _ (by omega) hll (HB.out.rd.keep (by (repeat' (first | (with_reducible exact Below.refl _ _) | (with_reducible assumption) | (with_reducible refine Below.alloc ?_ ?_ _) | (with_reducible refine Below.setCell ?_ ?_ _) | (with_reducible refine Below.drew ?_) | (with_reducible refine below_drewN ?_ _) | (with_reducible refine below_via ?_ (by with_reducible assumption) ?_) | omega | (simp; done) | (simp; omega))))) (HA.out.rd.keep (by (repeat' (first | (with_reducible exact Below.refl _ _) | (with_reducible assumption) | (with_reducible refine Below.alloc ?_ ?_ _) | (with_reducible refine Below.setCell ?_ ?_ _) | (with_reducible refine Below.drew ?_) | (with_reducible refine below_drewN ?_ _) | (with_reducible refine below_via ?_ (by with_reducible assumption) ?_) | omega | (simp; done) | (simp; omega))))) HB.out.bit HA.out.bit HVV.out).mono ?_); rintro e w1 ⟨v, l, rfl, hown, hb1, hbit, hval, hlen⟩; have hl1 : l.length ≤ L + 1 := (by omega); clear hlen; obtain ⟨A1, c1, rfl, hcc, hmm, hr1, _⟩ := hown.shape; have Hval := Lib.hid hval; clear hval; have Hcc := Lib.hid hcc; clear hcc; obtain ⟨fc1, fg1, hc1, hf1, hz1⟩ := bget hb1; simp at hz1) | (go_at_call 86; (try simp only [List.length_map]); (with_reducible refine (bigTrim _ l A1 c1 _ (by omega) hr1 hbit (by simpa using Hcc.out) hmm).mono ?_); rintro e w2 ⟨l2, rfl, hk2, ht2, hv2, hb2⟩; have Hv2 := Lib.hid hv2; clear hv2; have Hk2 := Lib.hid hk2; clear hk2; obtain ⟨fc2, fg2, hc2, hf2, hz2⟩ := bget hb2))
  go_wp2_with fail
  all_goals
    have r0 : w2.cell? ⟨w.heap.size + 1 + 1, 0, none⟩ = some (.bool false) := by simp [go_sem, hc2, hc1, hc0, ↓IntWalk.iteOmega]
    have r1 : w2.cell? ⟨w.heap.size + 1 + 1, 1, none⟩ = some (.slice none 0 0) := by simp [go_sem, hc2, hc1, hc0, ↓IntWalk.iteOmega]
    have hval2 : val l = iabs (a + b) := by rw [Hval.out, ← HN.out, HA.out.val, HB.out.val]
    have hl2 := trim_len Hk2.out
    have hs := HSG.out _ hval2
    have hB := trim_big (hr1.keep hb2) hbit Hk2.out ht2 Hv2.out hval2 (by simpa using Hcc.out) hmm hs.symm
    refine bodyPost_ret (v := .agg #[.bool (true && decide (0 < val l)), .slice A1 l2.length c1]) (by simp [results, Try.results24, go_sem, r0, r1]; try rfl) rfl ⟨_, A1, l2, c1, rfl, (hB.far r0 (by simp) _).far ((World.cell?_setCell_other _ _ _ _ (by simp)).trans r1) (by simp) _, by omega, ?_⟩
    (repeat' (first | (with_reducible exact Below.refl _ _) | (with_reducible assumption) | (with_reducible refine Below.alloc ?_ ?_ _) | (with_reducible refine Below.setCell ?_ ?_ _) | (with_reducible refine Below.drew ?_) | (with_reducible refine below_drewN ?_ _) | (with_reducible refine below_via ?_ (by with_reducible assumption) ?_) | omega | (simp; done) | (simp; omega)))
set_option maxRecDepth 100000 in
set_option maxHeartbeats 2000000 in
theorem bigAdd_false_true_more (a b : Int) (hsa : decide (a < 0) = false) (hsb : decide (b < 0) = true) (hlt : ¬ iabs a < iabs b) (la lb : List Int) (A B : Option Addr) (c d L : Nat) (w : World) (hL : L ≤ 1000000) (hla : la.length ≤ L) (hlb : lb.length ≤ L) (ha : IsBig w a false A la c) (hb : IsBig w b true B lb d) :
    Calls Try.prog 24 #[.agg #[.bool false, .slice A la.length c], .agg #[.bool true, .slice B lb.length d]] w (BigPost w (a + b) (L + 1)) := by
  have fa := pos_of_pos hsa
  have fb := pos_of_neg hsb
  have hn : iabs a - iabs b = iabs (a + b) := by unfold iabs at *; split at * <;> omega
  have hsg : ∀ x : Int, x = iabs (a + b) → decide (a + b < 0) = (false && decide (0 < x)) := by
    intro x hx
    rw [hx, Bool.eq_iff_iff]; simp; unfold iabs at *; split at * <;> omega
  have HN := Lib.hid hn
  have HSG := Lib.hid hsg
  have HA := Lib.hid ha
  have HB := Lib.hid hb
  have hd : decide (val la < val lb) = false := by rw [ha.val, hb.val]; simpa using hlt
  have hvv : val lb ≤ val la := by rw [ha.val, hb.val]; omega
  have hll := len_of_lt hb.bit ha.bit hb.top hvv
  have HVV := Lib.hid hvv
  clear hvv hlt
  clear hn hsg ha hb hsa hsb fa fb
  go_enter Try.func24, Try.ntmps24
  go_wp2_with (go_at_call 88; (with_reducible refine (bigLess la lb A B c d _ (by omega) (by omega) (HA.out.rd.keep (by (repeat' (first | (with_reducible exact Below.refl _ _) | (with_reducible assumption) | (with_reducible refine Below.alloc ?_ ?_ _) | (with_reducible refine Below.setCell ?_ ?_ _) | (with_reducible refine Below.drew ?_) | (with_reducible refine below_drewN ?_ _) | (with_reducible refine below_via ?_ (by with_reducible assumption) ?_) | omega | (simp; done) | (simp; omega))))) (HB.out.rd.keep (by (repeat' (first | (with_reducible exact Below.refl _ _) | (with_reducible assumption) | (with_reducible refine Below.alloc ?_ ?_ _) | (with_reducible refine Below.setCell ?_ ?_ _) | (with_reducible refine Below.drew ?_) | (with_reducible refine below_drewN ?_ _) | (with_reducible refine below_via ?_ (by with_reducible assumption) ?_) | omega | (simp; done) | (simp; omega))))) HA.out.bit HB.out.bit HA.out.top HB.out.top).mono ?_); rintro e w0 ⟨rfl, hb0⟩; rw [hd]; obtain ⟨fc0, fg0, hc0, hf0, hz0⟩ := bget hb0; simp at hz0)
  go_region_held3 (fun w' => w'.cell? ⟨w.heap.size, 0, none⟩ = some (.bool false) ∧ w'.cell? ⟨w.heap.size, 1, none⟩ = some (.slice A la.length c) ∧ w'.cell? ⟨w.heap.size + 1, 0, none⟩ = some (.bool true) ∧ w'.cell? ⟨w.heap.size + 1, 1, none⟩ = some (.slice B lb.length d)) (first | (simp [go_sem]; done) | (repeat' (first | (with_reducible assumption) | (with_reducible refine And.intro ?_ ?_) | (with_reducible refine cell_drew ?_) | (with_reducible refine cell_via (by with_reducible assumption) ?_ ?_) | (simp [*]; done) | (simp [go_sem]; done) | (with_reducible refine cell_alloc ?_ ?_) | (with_reducible refine cell_set_far ?_ ?_) | omega | (simp; omega)))) (first | (go_at_call 89; (with_reducible refine (bigMinus la lb A B c d _ (by omega) hll (HA.out.rd.keep (by (repeat' (first | (with_reducible exact Below.refl _ _) | (with_reducible assumption) | (with_reducible refine Below.alloc ?_ ?_ _) | (with_reducible refine Below.setCell ?_ ?_ _) | (with_reducible refine Below.drew ?_) | (with_reducible refine below_drewN ?_ _) | (with_reducible refine below_via ?_ (by with_reducible assumption) ?_) | omega | (simp; done) | (simp; omega))))) (HB.out.rd.keep (by (repeat' (first | (with_reducible exact Below.refl _ _) | (with_reducible assumption) | (with_reducible refine Below.alloc ?_ ?_ _) | (with_reducible refine Below.setCell ?_ ?_ _) | (with_reducible refine Below.drew ?_) | (with_reducible refine below_drewN ?_ _) | (with_reducible refine below_via ?_ (by with_reducible assumption) ?_) | omega | (simp; done) | (simp; omega))))) HA.out.bit HB.out.bit HVV.out).mono ?_); rintro e w1 ⟨v, l, rfl, hown, hb1, hbit, hval, hlen⟩; have hl1 : l.length ≤ L + 1 := (by omega); clear hlen; obtain ⟨A1, c1, rfl, hcc, hmm, hr1, _⟩ := hown.shape; have Hval := Lib.hid hval; clear hval; have Hcc := Lib.hid hcc; clear hcc; obtain ⟨fc1, fg1, hc1, hf1, hz1⟩ := bget hb1; simp at hz1) | (go_at_call 86; (try simp only [List.length_map]); (with_reducible refine (bigTrim _ l A1 c1 _ (by omega) hr1 hbit (by simpa using Hcc.out) hmm).mono ?_); rintro e w2 ⟨l2, rfl, hk2, ht2, hv2, hb2⟩; have Hv2 := Lib.hid hv2; clear hv2; have Hk2 := Lib.hid hk2; clear hk2; obtain ⟨fc2, fg2, hc2, hf2, hz2⟩ := bget hb2))
  go_wp2_with fail
  all_goals
    have r0 : w2.cell? ⟨w.heap.size + 1 + 1, 0, none⟩ = some (.bool false) := by simp [go_sem, hc2, hc1, hc0, ↓IntWalk.iteOmega]
    have r1 : w2.cell? ⟨w.heap.size + 1 + 1, 1, none⟩ = some (.slice none 0 0) := by simp [go_sem, hc2, hc1, hc0, ↓IntWalk.iteOmega]
    have hval2 : val l = iabs (a + b) := by rw [Hval.out, ← HN.out, HA.out.val, HB.out.val]
    have hl2 := trim_len Hk2.out
    have hs := HSG.out _ hval2
    have hB := trim_big (hr1.keep hb2) hbit Hk2.out ht2 Hv2.out hval2 (by simpa using Hcc.out) hmm hs.symm
    refine bodyPost_ret (v := .agg #[.bool (false && decide (0 < val l)), .slice A1 l2.length c1]) (by simp [results, Try.results24, go_sem, r0, r1]; try rfl) rfl ⟨_, A1, l2, c1, rfl, (hB.far r0 (by simp) _).far ((World.cell?_setCell_other _ _ _ _ (by simp)).trans r1) (by simp) _, by omega, ?_⟩
    (repeat' (first | (with_reducible exact Below.refl _ _) | (with_reducible assumption) | (with_reducible refine Below.alloc ?_ ?_ _) | (with_reducible refine Below.setCell ?_ ?_ _) | (with_reducible refine Below.drew ?_) | (with_reducible refine below_drewN ?_ _) | (with_reducible refine below_via ?_ (by with_reducible assumption) ?_) | omega | (simp; done) | (simp; omega)))
set_option maxRecDepth 100000 in
set_option maxHeartbeats 2000000 in
theorem bigAdd_true_false_less (a b : Int) (hsa : decide (a < 0) = true) (hsb : decide (b < 0) = false) (hlt : iabs a < iabs b) (la lb : List Int) (A B : Option Addr) (c d L : Nat) (w : World) (hL : L ≤ 1000000) (hla : la.length ≤ L) (hlb : lb.length ≤ L) (ha : IsBig w a true A la c) (hb : IsBig w b false B lb d) :
    Calls Try.prog 24 #[.agg #[.bool true, .slice A la.length c], .agg #[.bool false, .slice B lb.length d]] w (BigPost w (a + b) (L + 1)) := by
  have fa := pos_of_neg hsa
  have fb := pos_of_pos hsb
  have hn : iabs b - iabs a = iabs (a + b) := by unfold iabs at *; split at * <;> omega
  have hsg : ∀ x : Int, x = iabs (a + b) → decide (a + b < 0) = (false && decide (0 < x)) := by
    intro x hx
    rw [hx, Bool.eq_iff_iff]; simp; unfold iabs at *; split at * <;> omega
  have HN := Lib.hid hn
  have HSG := Lib.hid hsg
  have HA := Lib.hid ha
  have HB := Lib.hid hb
  have hd : decide (val la < val lb) = true := by rw [ha.val, hb.val]; simpa using hlt
  have hvv : val la ≤ val lb := by rw [ha.val, hb.val]; omega
  have hll := len_of_lt ha.bit hb.bit ha.top hvv
  have HVV := Lib.hid hvv
  clear hvv hlt
  clear hn hsg ha hb hsa hsb fa fb
  go_enter Try.func24, Try.ntmps24
  go_wp2_with (go_at_call 88; (with_reducible refine (bigLess la lb A B c d _ (by omega) (by omega) (HA.out.rd.keep (by (repeat' (first | (with_reducible exact Below.refl _ _) | (with_reducible assumption) | (with_reducible refine Below.alloc ?_ ?_ _) | (with_reducible refine Below.setCell ?_ ?_ _) | (with_reducible refine Below.drew ?_) | (with_reducible refine below_drewN ?_ _) | (with_reducible refine below_via ?_ (by with_reducible assumption) ?_) | omega | (simp; done) | (simp; omega))))) (HB.out.rd.keep (by (repeat' (first | (with_reducible exact Below.refl _ _) | (with_reducible assumption) | (with_reducible refine Below.alloc ?_ ?_ _) | (with_reducible refine Below.setCell ?_ ?_ _) | (with_reducible refine Below.drew ?_) | (with_reducible refine below_drewN ?_ _) | (with_reducible refine below_via ?_ (by with_reducible assumption) ?_) | omega | (simp; done) | (simp; omega))))) HA.out.bit HB.out.bit HA.out.top HB.out.top).mono ?_); rintro e w0 ⟨rfl, hb0⟩; rw [hd]; obtain ⟨fc0, fg0, hc0, hf0, hz0⟩ := bget hb0; simp at hz0)
  go_region_held3 (fun w' => w'.cell? ⟨w.heap.size, 0, none⟩ = some (.bool true) ∧ w'.cell? ⟨w.heap.size, 1, none⟩ = some (.slice A la.length c) ∧ w'.cell? ⟨w.heap.size + 1, 0, none⟩ = some (.bool false) ∧ w'.cell? ⟨w.heap.size + 1, 1, none⟩ = some (.slice B lb.length d)) (first | (simp [go_sem]; done) | (repeat' (first | (with_reducible assumption) | (with_reducible refine And.intro ?_ ?_) | (with_reducible refine cell_drew ?_) | (with_reducible refine cell_via (by with_reducible assumption) ?_ ?_) | (simp [*]; done) | (simp [go_sem]; done) | (with_reducible refine cell_alloc ?_ ?_) | (with_reducible refine cell_set_far ?_ ?_) | omega | (simp; omega)))) (first | (go_at_call 89; (with_reducible refine (bigMinus lb la B A d c _ (by omega) hll (HB.out.rd.keep (by (repeat' (first | (with_reducible exact Below.refl _ _) | (with_reducible assumption) | (with_reducible refine Below.alloc ?_ ?_ _) | (with_reducible refine Below.setCell ?_ ?_ _) | (with_reducible refine Below.drew ?_) | (with_reducible refine below_drewN ?_ _) | (with_reducible refine below_via ?_ (by with_reducible assumption) ?_) | omega | (simp; done) | (simp; omega))))) (HA.out.rd.keep (by (repeat' (first | (with_reducible exact Below.refl _ _) | (with_reducible assumption) | (with_reducible refine Below.alloc ?_ ?_ _) | (with_reducible refine Below.setCell ?_ ?_ _) | (with_reducible refine Below.drew ?_) | (with_reducible refine below_drewN ?_ _) | (with_reducible refine below_via ?_ (by with_reducible assumption) ?_) | omega | (simp; done) | (simp; omega))))) HB.out.bit HA.out.bit HVV.out).mono ?_); rintro e w1 ⟨v, l, rfl, hown, hb1, hbit, hval, hlen⟩; have hl1 : l.length ≤ L + 1 := (by omega); clear hlen; obtain ⟨A1, c1, rfl, hcc, hmm, hr1, _⟩ := hown.shape; have Hval := Lib.hid hval; clear hval; have Hcc := Lib.hid hcc; clear hcc; obtain ⟨fc1, fg1, hc1, hf1, hz1⟩ := bget hb1; simp at hz1) | (go_at_call 86; (try simp only [List.length_map]); (with_reducible refine (bigTrim _ l A1 c1 _ (by omega) hr1 hbit (by simpa using Hcc.out) hmm).mono ?_); rintro e w2 ⟨l2, rfl, hk2, ht2, hv2, hb2⟩; have Hv2 := Lib.hid hv2; clear hv2; have Hk2 := Lib.hid hk2; clear hk2; obtain ⟨fc2, fg2, hc2, hf2, hz2⟩ := bget hb2))
  go_wp2_with fail
  all_goals
    have r0 : w2.cell? ⟨w.heap.size + 1 + 1, 0, none⟩ = some (.bool false) := by simp [go_sem, hc2, hc1, hc0, ↓IntWalk.iteOmega]
    have r1 : w2.cell? ⟨w.heap.size + 1 + 1, 1, none⟩ = some (.slice none 0 0) := by simp [go_sem, hc2, hc1, hc0, ↓IntWalk.iteOmega]
    have hval2 : val l = iabs (a + b) := by rw [Hval.out, ← HN.out, HA.out.val, HB.out.val]
    have hl2 := trim_len Hk2.out
    have hs := HSG.out _ hval2
    have hB := trim_big (hr1.keep hb2) hbit Hk2.out ht2 Hv2.out hval2 (by simpa using Hcc.out) hmm hs.symm
    refine bodyPost_ret (v := .agg #[.bool (false && decide (0 < val l)), .slice A1 l2.length c1]) (by simp [results, Try.results24, go_sem, r0, r1]; try rfl) rfl ⟨_, A1, l2, c1, rfl, (hB.far r0 (by simp) _).far ((World.cell?_setCell_other _ _ _ _ (by simp)).trans r1) (by simp) _, by omega, ?_⟩
    (repeat' (first | (with_reducible exact Below.refl _ _) | (with_reducible assumption) | (with_reducible refine Below.alloc ?_ ?_ _) | (with_reducible refine Below.setCell ?_ ?_ _) | (with_reducible refine Below.drew ?_) | (with_reducible refine below_drewN ?_ _) | (with_reducible refine below_via ?_ (by with_reducible assumption) ?_) | omega | (simp; done) | (simp; omega)))
set_option maxRecDepth 100000 in
set_option maxHeartbeats 2000000 in
theorem bigAdd_true_false_more (a b : Int) (hsa : decide (a < 0) = true) (hsb : decide (b < 0) = false) (hlt : ¬ iabs a < iabs b) (la lb : List Int) (A B : Option Addr) (c d L : Nat) (w : World) (hL : L ≤ 1000000) (hla : la.length ≤ L) (hlb : lb.length ≤ L) (ha : IsBig w a true A la c) (hb : IsBig w b false B lb d) :
    Calls Try.prog 24 #[.agg #[.bool true, .slice A la.length c], .agg #[.bool false, .slice B lb.length d]] w (BigPost w (a + b) (L + 1)) := by
  have fa := pos_of_neg hsa
  have fb := pos_of_pos hsb
  have hn : iabs a - iabs b = iabs (a + b) := by unfold iabs at *; split at * <;> omega
  have hsg : ∀ x : Int, x = iabs (a + b) → decide (a + b < 0) = (true && decide (0 < x)) := by
    intro x hx
    rw [hx, Bool.eq_iff_iff]; simp; unfold iabs at *; split at * <;> omega
  have HN := Lib.hid hn
  have HSG := Lib.hid hsg
  have HA := Lib.hid ha
  have HB := Lib.hid hb
  have hd : decide (val la < val lb) = false := by rw [ha.val, hb.val]; simpa using hlt
  have hvv : val lb ≤ val la := by rw [ha.val, hb.val]; omega
  have hll := len_of_lt hb.bit ha.bit hb.top hvv
  have HVV := Lib.hid hvv
  clear hvv hlt
  clear hn hsg ha hb hsa hsb fa fb
  go_enter Try.func24, Try.ntmps24
  go_wp2_with (go_at_call 88; (with_reducible refine (bigLess la lb A B c d _ (by omega) (by omega) (HA.out.rd.keep (by (repeat' (first | (with_reducible exact Below.refl _ _) | (with_reducible assumption) | (with_reducible refine Below.alloc ?_ ?_ _) | (with_reducible refine Below.setCell ?_ ?_ _) | (with_reducible refine Below.drew ?_) | (with_reducible refine below_drewN ?_ _) | (with_reducible refine below_via ?_ (by with_reducible assumption) ?_) | omega | (simp; done) | (simp; omega))))) (HB.out.rd.keep (by (repeat' (first | (with_reducible exact Below.refl _ _) | (with_reducible assumption) | (with_reducible refine Below.alloc ?_ ?_ _) | (with_reducible refine Below.setCell ?_ ?_ _) | (with_reducible refine Below.drew ?_) | (with_reducible refine below_drewN ?_ _) | (with_reducible refine below_via ?_ (by with_reducible assumption) ?_) | omega | (simp; done) | (simp; omega))))) HA.out.bit HB.out.bit HA.out.top HB.out.top).mono ?_); rintro e w0 ⟨rfl, hb0⟩; rw [hd]; obtain ⟨fc0, fg0, hc0, hf0, hz0⟩ := bget hb0; simp at hz0)
  go_region_held3 (fun w' => w'.cell? ⟨w.heap.size, 0, none⟩ = some (.bool true) ∧ w'.cell? ⟨w.heap.size, 1, none⟩ = some (.slice A la.length c) ∧ w'.cell? ⟨w.heap.size + 1, 0, none⟩ = some (.bool false) ∧ w'.cell? ⟨w.heap.size + 1, 1, none⟩ = some (.slice B lb.length d)) (first | (simp [go_sem]; done) | (repeat' (first | (with_reducible assumption) | (with_reducible refine And.intro ?_ ?_) | (with_reducible refine cell_drew ?_) | (with_reducible refine cell_via (by with_reducible assumption) ?_ ?_) | (simp [*]; done) | (simp [go_sem]; done) | (with_reducible refine cell_alloc ?_ ?_) | (with_reducible refine cell_set_far ?_ ?_) | omega | (simp; omega)))) (first | (go_at_call 89; (with_reducible refine (bigMinus la lb A B c d _ (by omega) hll (HA.out.rd.keep (by (repeat' (first | (with_reducible exact Below.refl _ _) | (with_reducible assumption) | (with_reducible refine Below.alloc ?_ ?_ _) | (with_reducible refine Below.setCell ?_ ?_ _) | (with_reducible refine Below.drew ?_) | (with_reducible refine below_drewN ?_ _) | (with_reducible refine below_via ?_ (by with_reducible assumption) ?_) | omega | (simp; done) | (simp; omega))))) (HB.out.rd.keep (by (repeat' (first | (with_reducible exact Below.refl _ _) | (with_reducible assumption) | (with_reducible refine Below.alloc ?_ ?_ _) | (with_reducible refine Below.setCell ?_ ?_ _) | (with_reducible refine Below.drew ?_) | (with_reducible refine below_drewN ?_ _) | (with_reducible refine below_via ?_ (by with_reducible assumption) ?_) | omega | (simp; done) | (simp; omega))))) HA.out.bit HB.out.bit HVV.out).mono ?_); rintro e w1 ⟨v, l, rfl, hown, hb1, hbit, hval, hlen⟩; have hl1 : l.length ≤ L + 1 := (by omega); clear hlen; obtain ⟨A1, c1, rfl, hcc, hmm, hr1, _⟩ := hown.shape; have Hval := Lib.hid hval; clear hval; have Hcc := Lib.hid hcc; clear hcc; obtain ⟨fc1, fg1, hc1, hf1, hz1⟩ := bget hb1; simp at hz1) | (go_at_call 86; (try simp only [List.length_map]); (with_reducible refine (bigTrim _ l A1 c1 _ (by omega) hr1 hbit (by simpa using Hcc.out) hmm).mono ?_); rintro e w2 ⟨l2, rfl, hk2, ht2, hv2, hb2⟩; have Hv2 := Lib.hid hv2; clear hv2; have Hk2 := Lib.hid hk2; clear hk2; obtain ⟨fc2, fg2, hc2, hf2, hz2⟩ := bget hb2))
  go_wp2_with fail
  all_goals
    have r0 : w2.cell? ⟨w.heap.size + 1 + 1, 0, none⟩ = some (.bool false) := by simp [go_sem, hc2, hc1, hc0, ↓IntWalk.iteOmega]
    have r1 : w2.cell? ⟨w.heap.size + 1 + 1, 1, none⟩ = some (.slice none 0 0) := by simp [go_sem, hc2, hc1, hc0, ↓IntWalk.iteOmega]
    have hval2 : val l = iabs (a + b) := by rw [Hval.out, ← HN.out, HA.out.val, HB.out.val]
    have hl2 := trim_len Hk2.out
    have hs := HSG.out _ hval2
    have hB := trim_big (hr1.keep hb2) hbit Hk2.out ht2 Hv2.out hval2 (by simpa using Hcc.out) hmm hs.symm
    refine bodyPost_ret (v := .agg #[.bool (true && decide (0 < val l)), .slice A1 l2.length c1]) (by simp [results, Try.results24, go_sem, r0, r1]; try rfl) rfl ⟨_, A1, l2, c1, rfl, (hB.far r0 (by simp) _).far ((World.cell?_setCell_other _ _ _ _ (by simp)).trans r1) (by simp) _, by omega, ?_⟩
    (repeat' (first | (with_reducible exact Below.refl _ _) | (with_reducible assumption) | (with_reducible refine Below.alloc ?_ ?_ _) | (with_reducible refine Below.setCell ?_ ?_ _) | (with_reducible refine Below.drew ?_) | (with_reducible refine below_drewN ?_ _) | (with_reducible refine below_via ?_ (by with_reducible assumption) ?_) | omega | (simp; done) | (simp; omega)))
set_option maxRecDepth 100000 in
set_option maxHeartbeats 2000000 in
theorem bigAdd_true_true_plus (a b : Int) (hsa : decide (a < 0) = true) (hsb : decide (b < 0) = true) (la lb : List Int) (A B : Option Addr) (c d L : Nat) (w : World) (hL : L ≤ 1000000) (hla : la.length ≤ L) (hlb : lb.length ≤ L) (ha : IsBig w a true A la c) (hb : IsBig w b true B lb d) :
    Calls Try.prog 24 #[.agg #[.bool true, .slice A la.length c], .agg #[.bool true, .slice B lb.length d]] w (BigPost w (a + b) (L + 1)) := by
  have fa := pos_of_neg hsa
  have fb := pos_of_neg hsb
  have hn : iabs a + iabs b = iabs (a + b) := by unfold iabs at *; split at * <;> omega
  have hsg : ∀ x : Int, x = iabs (a + b) → decide (a + b < 0) = (true && decide (0 < x)) := by
    intro x hx
    rw [hx, Bool.eq_iff_iff]; simp; unfold iabs at *; split at * <;> omega
  have HN := Lib.hid hn
  have HSG := Lib.hid hsg
  have HA := Lib.hid ha
  have HB := Lib.hid hb
  clear hn hsg ha hb hsa hsb fa fb
  go_enter Try.func24, Try.ntmps24
  go_wp2_with fail
  go_region_held3 (fun w' => w'.cell? ⟨w.heap.size, 0, none⟩ = some (.bool true) ∧ w'.cell? ⟨w.heap.size, 1, none⟩ = some (.slice A la.length c) ∧ w'.cell? ⟨w.heap.size + 1, 0, none⟩ = some (.bool true) ∧ w'.cell? ⟨w.heap.size + 1, 1, none⟩ = some (.slice B lb.length d)) (first | (simp [go_sem]; done) | (repeat' (first | (with_reducible assumption) | (with_reducible refine And.intro ?_ ?_) | (with_reducible refine cell_drew ?_) | (with_reducible refine cell_via (by with_reducible assumption) ?_ ?_) | (simp [*]; done) | (simp [go_sem]; done) | (with_reducible refine cell_alloc ?_ ?_) | (with_reducible refine cell_set_far ?_ ?_) | omega | (simp; omega)))) (first | (go_at_call 87; (with_reducible refine (bigPlus la lb A B c d _ (by omega) (by omega) (HA.out.rd.keep (by (repeat' (first | (with_reducible exact Below.refl _ _) | (with_reducible assumption) | (with_reducible refine Below.alloc ?_ ?_ _) | (with_reducible refine Below.setCell ?_ ?_ _) | (with_reducible refine Below.drew ?_) | (with_reducible refine below_drewN ?_ _) | (with_reducible refine below_via ?_ (by with_reducible assumption) ?_) | omega | (simp; done) | (simp; omega))))) (HB.out.rd.keep (by (repeat' (first | (with_reducible exact Below.refl _ _) | (with_reducible assumption) | (with_reducible refine Below.alloc ?_ ?_ _) | (with_reducible refine Below.setCell ?_ ?_ _) | (with_reducible refine Below.drew ?_) | (with_reducible refine below_drewN ?_ _) | (with_reducible refine below_via ?_ (by with_reducible assumption) ?_) | omega | (simp; done) | (simp; omega))))) HA.out.bit HB.out.bit).mono ?_); rintro e w1 ⟨v, l, rfl, hown, hb1, hbit, hval, hlen⟩; have hl1 := plus_len hla hlb hlen; have hb0 : Below w.heap.size w w := Below.refl _ _; obtain ⟨A1, c1, rfl, hcc, hmm, hr1, _⟩ := hown.shape; have Hval := Lib.hid hval; clear hval; have Hcc := Lib.hid hcc; clear hcc; obtain ⟨fc1, fg1, hc1, hf1, hz1⟩ := bget hb1; simp at hz1) | (go_at_call 86; (try simp only [List.length_map]); (with_reducible refine (bigTrim _ l A1 c1 _ (by omega) hr1 hbit (by simpa using Hcc.out) hmm).mono ?_); rintro e w2 ⟨l2, rfl, hk2, ht2, hv2, hb2⟩; have Hv2 := Lib.hid hv2; clear hv2; have Hk2 := Lib.hid hk2; clear hk2; obtain ⟨fc2, fg2, hc2, hf2, hz2⟩ := bget hb2))
  go_wp2_with fail
  all_goals
    have r0 : w2.cell? ⟨w.heap.size + 1 + 1, 0, none⟩ = some (.bool false) := by simp [go_sem, hc2, hc1, ↓IntWalk.iteOmega]
    have r1 : w2.cell? ⟨w.heap.size + 1 + 1, 1, none⟩ = some (.slice none 0 0) := by simp [go_sem, hc2, hc1, ↓IntWalk.iteOmega]
    have hval2 : val l = iabs (a + b) := by rw [Hval.out, ← HN.out, HA.out.val, HB.out.val]
    have hl2 := trim_len Hk2.out
    have hs := HSG.out _ hval2
    have hB := trim_big (hr1.keep hb2) hbit Hk2.out ht2 Hv2.out hval2 (by simpa using Hcc.out) hmm hs.symm
    refine bodyPost_ret (v := .agg #[.bool (true && decide (0 < val l)), .slice A1 l2.length c1]) (by simp [results, Try.results24, go_sem, r0, r1]; try rfl) rfl ⟨_, A1, l2, c1, rfl, (hB.far r0 (by simp) _).far ((World.cell?_setCell_other _ _ _ _ (by simp)).trans r1) (by simp) _, by omega, ?_⟩
    (repeat' (first | (with_reducible exact Below.refl _ _) | (with_reducible assumption) | (with_reducible refine Below.alloc ?_ ?_ _) | (with_reducible refine Below.setCell ?_ ?_ _) | (with_reducible refine Below.drew ?_) | (with_reducible refine below_drewN ?_ _) | (with_reducible refine below_via ?_ (by with_reducible assumption) ?_) | omega | (simp; done) | (simp; omega)))
theorem bigAdd (a b : Int) (sa sb : Bool) (la lb : List Int) (A B : Option Addr) (c d L : Nat) (w : World) (hL : L ≤ 1000000) (hla : la.length ≤ L) (hlb : lb.length ≤ L) (ha : IsBig w a sa A la c) (hb : IsBig w b sb B lb d) :
    Calls Try.prog 24 #[.agg #[.bool sa, .slice A la.length c], .agg #[.bool sb, .slice B lb.length d]] w (BigPost w (a + b) (L + 1)) := by
  have e1 := ha.sgn.symm
  have e2 := hb.sgn.symm
  cases sa <;> cases sb
  · exact bigAdd_false_false_plus a b e1 e2 la lb A B c d L w hL hla hlb ha hb
  · by_cases h : iabs a < iabs b
    · exact bigAdd_false_true_less a b e1 e2 h la lb A B c d L w hL hla hlb ha hb
    · exact bigAdd_false_true_more a b e1 e2 h la lb A B c d L w hL hla hlb ha hb
  · by_cases h : iabs a < iabs b
    · exact bigAdd_true_false_less a b e1 e2 h la lb A B c d L w hL hla hlb ha hb
    · exact bigAdd_true_false_more a b e1 e2 h la lb A B c d L w hL hla hlb ha hb
  · exact bigAdd_true_true_plus a b e1 e2 la lb A B c d L w hL hla hlb ha hb
end Go.Proofs.Ytiidplinmempcaa

/- Contracts of the reference's Neg, Sub, Cmp, Within, Fits, Int. -/
namespace Go.Proofs.Ytiidplinmempcaa
open Go.RowKit
theorem big_zero {w : World} {s : Bool} {A : Option Addr} {l : List Int} {c : Nat} (h : IsBig w 0 s A l c) : l = [] := val_zero_top h.bit h.top h.val
theorem iabs_neg_eq (n : Int) : iabs (- n) = iabs n := by unfold iabs; split <;> split <;> omega
theorem neg_sgn {w : World} {a : Int} {s : Bool} {A : Option Addr} {l : List Int} {c : Nat} (h : IsBig w a s A l c) : (!s && decide (0 < Go.Proofs.Ytiidplinmempcaa.val l)) = decide (- a < 0) := by
  rw [h.val, h.sgn, Bool.eq_iff_iff]; simp; unfold iabs; split <;> omega
set_option maxRecDepth 100000 in
set_option maxHeartbeats 2000000 in
theorem bigNeg (a : Int) (s : Bool) (la : List Int) (A : Option Addr) (c L : Nat) (w : World) (hL : L ≤ 1000000) (hla : la.length ≤ L) (ha : IsBig w a s A la c) :
    Calls Try.prog 133 #[.agg #[.bool s, .slice A la.length c]] w (BigPost w (- a) L) := by
  have HSG := Lib.hid (neg_sgn ha)
  have HA := Lib.hid ha
  clear ha
  go_enter Try.func133, Try.ntmps133
  go_wp2_with (go_at_call 86; (with_reducible refine (bigTrim _ la A c _ (by omega) (HA.out.rd.keep (by (repeat' (first | (with_reducible exact Below.refl _ _) | (with_reducible assumption) | (with_reducible refine Below.alloc ?_ ?_ _) | (with_reducible refine Below.setCell ?_ ?_ _) | (with_reducible refine Below.drew ?_) | (with_reducible refine below_drewN ?_ _) | (with_reducible refine below_via ?_ (by with_reducible assumption) ?_) | omega | (simp; done) | (simp; omega))))) HA.out.bit HA.out.cap HA.out.room).mono ?_); rintro e w2 ⟨l2, rfl, hk2, ht2, hv2, hb2⟩; have Hv2 := Lib.hid hv2; clear hv2; have Hk2 := Lib.hid hk2; clear hk2; obtain ⟨fc2, fg2, hc2, hf2, hz2⟩ := bget hb2; (try simp at hz2))
  have r0 : w2.cell? ⟨w.heap.size + 1, 0, none⟩ = some (.bool false) := by simp [go_sem, hc2]
  have r1 : w2.cell? ⟨w.heap.size + 1, 1, none⟩ = some (.slice none 0 0) := by simp [go_sem, hc2]
  have hB := trim_big ((HA.out.rd.keep (by (repeat' (first | (with_reducible exact Below.refl _ _) | (with_reducible assumption) | (with_reducible refine Below.alloc ?_ ?_ _) | (with_reducible refine Below.setCell ?_ ?_ _) | (with_reducible refine Below.drew ?_) | (with_reducible refine below_drewN ?_ _) | (with_reducible refine below_via ?_ (by with_reducible assumption) ?_) | omega | (simp; done) | (simp; omega))))).keep hb2) HA.out.bit Hk2.out ht2 Hv2.out (by rw [HA.out.val, ← iabs_neg_eq]) HA.out.cap HA.out.room HSG.out
  have hl2 := trim_len Hk2.out
  refine bodyPost_ret (v := .agg #[.bool (!s && decide (0 < Go.Proofs.Ytiidplinmempcaa.val la)), .slice A l2.length c]) (by simp [results, Try.results133, go_sem, r0, r1]; try rfl) rfl ⟨_, A, l2, c, rfl, (hB.far r0 (by simp) _).far ((World.cell?_setCell_other _ _ _ _ (by simp)).trans r1) (by simp) _, by omega, ?_⟩
  (repeat' (first | (with_reducible exact Below.refl _ _) | (with_reducible assumption) | (with_reducible refine Below.alloc ?_ ?_ _) | (with_reducible refine Below.setCell ?_ ?_ _) | (with_reducible refine Below.drew ?_) | (with_reducible refine below_drewN ?_ _) | (with_reducible refine below_via ?_ (by with_reducible assumption) ?_) | omega | (simp; done) | (simp; omega)))
set_option maxRecDepth 100000 in
set_option maxHeartbeats 2000000 in
theorem bigSub (a b : Int) (sa sb : Bool) (la lb : List Int) (A B : Option Addr) (c d L : Nat) (w : World) (hL : L ≤ 1000000) (hla : la.length ≤ L) (hlb : lb.length ≤ L) (ha : IsBig w a sa A la c) (hb : IsBig w b sb B lb d) :
    Calls Try.prog 78 #[.agg #[.bool sa, .slice A la.length c], .agg #[.bool sb, .slice B lb.length d]] w (BigPost w (a - b) (L + 1)) := by
  have HA := Lib.hid ha
  have HB := Lib.hid hb
  clear ha hb
  rw [show a - b = a + - b from by omega]
  go_enter Try.func78, Try.ntmps78
  go_wp2_with fail
  go_region_held3 (fun w' => w'.cell? ⟨w.heap.size, 0, none⟩ = some (.bool sa) ∧ w'.cell? ⟨w.heap.size, 1, none⟩ = some (.slice A la.length c) ∧ w'.cell? ⟨w.heap.size + 1, 0, none⟩ = some (.bool sb) ∧ w'.cell? ⟨w.heap.size + 1, 1, none⟩ = some (.slice B lb.length d)) (first | (simp [go_sem]; done) | (repeat' (first | (with_reducible assumption) | (with_reducible refine And.intro ?_ ?_) | (with_reducible refine cell_drew ?_) | (with_reducible refine cell_via (by with_reducible assumption) ?_ ?_) | (simp [*]; done) | (simp [go_sem]; done) | (with_reducible refine cell_alloc ?_ ?_) | (with_reducible refine cell_set_far ?_ ?_) | omega | (simp; omega)))) (first | (go_at_call 133; (with_reducible refine (bigNeg b sb lb B d L _ hL hlb (HB.out.keep (by (repeat' (first | (with_reducible exact Below.refl _ _) | (with_reducible assumption) | (with_reducible refine Below.alloc ?_ ?_ _) | (with_reducible refine Below.setCell ?_ ?_ _) | (with_reducible refine Below.drew ?_) | (with_reducible refine below_drewN ?_ _) | (with_reducible refine below_via ?_ (by with_reducible assumption) ?_) | omega | (simp; done) | (simp; omega)))))).mono ?_); rintro e w1 ⟨s1, A1, l1, c1, rfl, hB1, hl1, hb1⟩; obtain ⟨fc1, fg1, hc1, hf1, hz1⟩ := bget hb1; simp at hz1) | (go_at_call 24; (with_reducible refine (bigAdd a (- b) sa s1 la l1 A A1 c c1 L _ hL hla hl1 (HA.out.keep (by (repeat' (first | (with_reducible exact Below.refl _ _) | (with_reducible assumption) | (with_reducible refine Below.alloc ?_ ?_ _) | (with_reducible refine Below.setCell ?_ ?_ _) | (with_reducible refine Below.drew ?_) | (with_reducible refine below_drewN ?_ _) | (with_reducible refine below_via ?_ (by with_reducible assumption) ?_) | omega | (simp; done) | (simp; omega))))) hB1).mono ?_); rintro e w2 ⟨s2, A2, l2, c2, rfl, hB2, hl2, hb2⟩; obtain ⟨fc2, fg2, hc2, hf2, hz2⟩ := bget hb2))
  go_wp2_with fail
  all_goals
    have r0 : w2.cell? ⟨w.heap.size + 1 + 1, 0, none⟩ = some (.bool false) := by simp [go_sem, hc2, hc1, ↓IntWalk.iteOmega]
    have r1 : w2.cell? ⟨w.heap.size + 1 + 1, 1, none⟩ = some (.slice none 0 0) := by simp [go_sem, hc2, hc1, ↓IntWalk.iteOmega]
    refine bodyPost_ret (v := .agg #[.bool s2, .slice A2 l2.length c2]) (by simp [results, Try.results78, go_sem, r0, r1]; try rfl) rfl ⟨s2, A2, l2, c2, rfl, (hB2.far r0 (by simp) _).far ((World.cell?_setCell_other _ _ _ _ (by simp)).trans r1) (by simp) _, hl2, ?_⟩
    (repeat' (first | (with_reducible exact Below.refl _ _) | (with_reducible assumption) | (with_reducible refine Below.alloc ?_ ?_ _) | (with_reducible refine Below.setCell ?_ ?_ _) | (with_reducible refine Below.drew ?_) | (with_reducible refine below_drewN ?_ _) | (with_reducible refine below_via ?_ (by with_reducible assumption) ?_) | omega | (simp; done) | (simp; omega)))
theorem big_len_pos {w : World} {n : Int} {s : Bool} {A : Option Addr} {l : List Int} {c : Nat} (h : IsBig w n s A l c) (hn : n ≠ 0) : 0 < l.length := by
  rcases Nat.eq_zero_or_pos l.length with h1 | h1
  · exfalso; apply hn
    have h2 := List.eq_nil_of_length_eq_zero h1
    have h3 := h.val
    rw [h2] at h3; simp [Go.Proofs.Ytiidplinmempcaa.val] at h3; unfold iabs at h3; split at h3 <;> omega
  · exact h1
set_option maxRecDepth 100000 in
set_option maxHeartbeats 2000000 in
theorem bigCmp (a b : Int) (sa sb : Bool) (la lb : List Int) (A B : Option Addr) (c d L : Nat) (w : World) (hL : L ≤ 1000000) (hla : la.length ≤ L) (hlb : lb.length ≤ L) (ha : IsBig w a sa A la c) (hb : IsBig w b sb B lb d) :
    Calls Try.prog 20 #[.agg #[.bool sa, .slice A la.length c], .agg #[.bool sb, .slice B lb.length d]] w fun e w' => e = .returned (.int .i64 (ord a b)) ∧ Below w.heap.size w w' := by
  have HA := Lib.hid ha
  have HB := Lib.hid hb
  clear ha hb
  go_enter Try.func20, Try.ntmps20
  go_wp2_with fail
  refine (bigSub a b sa sb la lb A B c d L _ hL hla hlb (HA.out.keep (by (repeat' (first | (with_reducible exact Below.refl _ _) | (with_reducible assumption) | (with_reducible refine Below.alloc ?_ ?_ _) | (with_reducible refine Below.setCell ?_ ?_ _) | (with_reducible refine Below.drew ?_) | (with_reducible refine below_drewN ?_ _) | (with_reducible refine below_via ?_ (by with_reducible assumption) ?_) | omega | (simp; done) | (simp; omega))))) (HB.out.keep (by (repeat' (first | (with_reducible exact Below.refl _ _) | (with_reducible assumption) | (with_reducible refine Below.alloc ?_ ?_ _) | (with_reducible refine Below.setCell ?_ ?_ _) | (with_reducible refine Below.drew ?_) | (with_reducible refine below_drewN ?_ _) | (with_reducible refine below_via ?_ (by with_reducible assumption) ?_) | omega | (simp; done) | (simp; omega)))))).mono ?_
  rintro e w1 ⟨s1, A1, l1, c1, rfl, hB1, hl1, hb1⟩
  obtain ⟨fc1, fg1, hc1, hf1, hz1⟩ := bget hb1
  simp at hz1
  have HB1 := Lib.hid hB1
  clear hB1
  by_cases h0 : a - b = 0
  · have hl0 : l1 = [] := by have := HB1.out; rw [h0] at this; exact big_zero this
    subst hl0
    have ho : ord a b = 0 := by unfold ord; rw [if_neg (by omega), if_neg (by omega)]
    have HO := Lib.hid ho
    clear h0 ho
    go_wp2_with fail
    go_ret
    exact ⟨by rw [HO.out]; rfl, by (repeat' (first | (with_reducible exact Below.refl _ _) | (with_reducible assumption) | (with_reducible refine Below.alloc ?_ ?_ _) | (with_reducible refine Below.setCell ?_ ?_ _) | (with_reducible refine Below.drew ?_) | (with_reducible refine below_drewN ?_ _) | (with_reducible refine below_via ?_ (by with_reducible assumption) ?_) | omega | (simp; done) | (simp; omega)))⟩
  · have hl0 := big_len_pos HB1.out h0
    have hs := HB1.out.sgn
    by_cases h1 : a - b < 0
    · have d0 : s1 = true := by rw [hs]; simpa using h1
      subst d0
      have ho : ord a b = -1 := by unfold ord; rw [if_pos (by omega)]
      have HO := Lib.hid ho
      clear ho hs
      go_wp2_with fail
      go_ret
      exact ⟨by rw [HO.out]; rfl, by (repeat' (first | (with_reducible exact Below.refl _ _) | (with_reducible assumption) | (with_reducible refine Below.alloc ?_ ?_ _) | (with_reducible refine Below.setCell ?_ ?_ _) | (with_reducible refine Below.drew ?_) | (with_reducible refine below_drewN ?_ _) | (with_reducible refine below_via ?_ (by with_reducible assumption) ?_) | omega | (simp; done) | (simp; omega)))⟩
    · have d0 : s1 = false := by rw [hs]; simpa using h1
      subst d0
      have ho : ord a b = 1 := by unfold ord; rw [if_neg (by omega), if_pos (by omega)]
      have HO := Lib.hid ho
      clear ho hs
      go_wp2_with fail
      go_ret
      exact ⟨by rw [HO.out]; rfl, by (repeat' (first | (with_reducible exact Below.refl _ _) | (with_reducible assumption) | (with_reducible refine Below.alloc ?_ ?_ _) | (with_reducible refine Below.setCell ?_ ?_ _) | (with_reducible refine Below.drew ?_) | (with_reducible refine below_drewN ?_ _) | (with_reducible refine below_via ?_ (by with_reducible assumption) ?_) | omega | (simp; done) | (simp; omega)))⟩
end Go.Proofs.Ytiidplinmempcaa

/- Contracts of the reference's Within, Fits, Int. -/
namespace Go.Proofs.Ytiidplinmempcaa
open Go.RowKit
def inW (a : Int) (n : Nat) : Bool := decide (- pw (n - 1) ≤ a ∧ a < pw (n - 1))
theorem len_lt_iff {l : List Int} (h : Bit l) (ht : Top l) {n : Nat} (hn : 1 ≤ n) : l.length < n ↔ Go.Proofs.Ytiidplinmempcaa.val l < pw (n - 1) := by
  constructor
  · intro h1
    have := val_lt h
    have := pw_le (show l.length ≤ n - 1 by omega)
    omega
  · intro h1
    have := len_le h ht h1
    omega
theorem inW_pos {w : World} {a : Int} {A : Option Addr} {l : List Int} {c : Nat} (h : IsBig w a false A l c) {n : Nat} (hn : 1 ≤ n) : decide (l.length < n) = inW a n := by
  have ha : 0 ≤ a := by have := h.sgn; simpa using this
  have h1 := len_lt_iff h.bit h.top hn
  have h2 := h.val
  have h3 := pw_pos (n - 1)
  rw [iabs_pos ha] at h2
  unfold inW
  rw [decide_eq_decide]
  omega
theorem inW_neg {w : World} {a : Int} {s : Bool} {A : Option Addr} {l : List Int} {c : Nat} (ha : a < 0) (h : IsBig w (a + 1) s A l c) {n : Nat} (hn : 1 ≤ n) : decide (l.length < n) = inW a n := by
  have h1 := len_lt_iff h.bit h.top hn
  have h2 := h.val
  have h3 := pw_pos (n - 1)
  have h4 : iabs (a + 1) = - (a + 1) := by unfold iabs; split <;> omega
  rw [h4] at h2
  unfold inW
  rw [decide_eq_decide]
  omega
set_option maxRecDepth 100000 in
set_option maxHeartbeats 2000000 in
theorem bigWithin (a : Int) (n : Nat) (s : Bool) (l : List Int) (A : Option Addr) (c L : Nat) (w : World) (hL : L ≤ 900000) (hl : l.length ≤ L) (hn : 1 ≤ n ∧ n ≤ 1000) (ha : IsBig w a s A l c) :
    Calls Try.prog 90 #[.agg #[.bool s, .slice A l.length c], .int .i64 n] w fun e w' => e = .returned (.bool (inW a n)) ∧ Below w.heap.size w w' := by
  have HA := Lib.hid ha
  have hs := ha.sgn
  clear ha
  cases s
  · have HI := Lib.hid (inW_pos HA.out hn.1)
    clear hs
    go_enter Try.func90, Try.ntmps90
    go_wp2_with fail
    go_ret
    exact ⟨by rw [← HI.out]; rfl, by (repeat' (first | (with_reducible exact Below.refl _ _) | (with_reducible assumption) | (with_reducible refine Below.alloc ?_ ?_ _) | (with_reducible refine Below.setCell ?_ ?_ _) | (with_reducible refine Below.drew ?_) | (with_reducible refine below_drewN ?_ _) | (with_reducible refine below_via ?_ (by with_reducible assumption) ?_) | omega | (simp; done) | (simp; omega)))⟩
  · have HN : Hid (a < 0) := by unfold Hid; simpa using hs.symm
    clear hs
    go_enter Try.func90, Try.ntmps90
    go_wp2_with fail
    go_region_with (first | (go_at_call 83; (with_reducible refine (bigNat 1 _ (by omega) (by omega)).mono ?_); rintro e w1 ⟨A1, l1, c1, rfl, hB1, hl1', hb1⟩; have HB1 := Lib.hid hB1; clear hB1; obtain ⟨fc1, fg1, hc1, hf1, hz1⟩ := bget hb1; (try simp at hz1)) | (go_at_call 24; (with_reducible refine (bigAdd a 1 true false l l1 A A1 c c1 (L + 64) _ (by omega) (by omega) (by omega) (HA.out.keep (by (repeat' (first | (with_reducible exact Below.refl _ _) | (with_reducible assumption) | (with_reducible refine Below.alloc ?_ ?_ _) | (with_reducible refine Below.setCell ?_ ?_ _) | (with_reducible refine Below.drew ?_) | (with_reducible refine below_drewN ?_ _) | (with_reducible refine below_via ?_ (by with_reducible assumption) ?_) | omega | (simp; done) | (simp; omega))))) (HB1.out.keep (by (repeat' (first | (with_reducible exact Below.refl _ _) | (with_reducible assumption) | (with_reducible refine Below.alloc ?_ ?_ _) | (with_reducible refine Below.setCell ?_ ?_ _) | (with_reducible refine Below.drew ?_) | (with_reducible refine below_drewN ?_ _) | (with_reducible refine below_via ?_ (by with_reducible assumption) ?_) | omega | (simp; done) | (simp; omega)))))).mono ?_); rintro e w2 ⟨s2, A2, l2, c2, rfl, hB2, hl2, hb2⟩; have HB2 := Lib.hid hB2; clear hB2; obtain ⟨fc2, fg2, hc2, hf2, hz2⟩ := bget hb2; (try simp at hz2)))
    all_goals
      have HI := Lib.hid (inW_neg HN.out HB2.out hn.1)
      go_wp2_with fail
      go_ret
      exact ⟨by rw [← HI.out]; rfl, by (repeat' (first | (with_reducible exact Below.refl _ _) | (with_reducible assumption) | (with_reducible refine Below.alloc ?_ ?_ _) | (with_reducible refine Below.setCell ?_ ?_ _) | (with_reducible refine Below.drew ?_) | (with_reducible refine below_drewN ?_ _) | (with_reducible refine below_via ?_ (by with_reducible assumption) ?_) | omega | (simp; done) | (simp; omega)))⟩
theorem inW_64 (a : Int) : inW a 64 = decide (-9223372036854775808 ≤ a ∧ a ≤ 9223372036854775807) := by
  unfold inW
  rw [show pw (64 - 1) = 9223372036854775808 from by decide, decide_eq_decide]
  omega
theorem inW_128 (a : Int) : inW a 128 = in128 a := by
  unfold inW in128
  rw [show pw (128 - 1) = 170141183460469231731687303715884105728 from by decide, decide_eq_decide]
theorem bigWithin64 (a : Int) (s : Bool) (l : List Int) (A : Option Addr) (c L : Nat) (w : World) (hL : L ≤ 900000) (hl : l.length ≤ L) (ha : IsBig w a s A l c) :
    Calls Try.prog 90 #[.agg #[.bool s, .slice A l.length c], .int .i64 64] w fun e w' => e = .returned (.bool (in64 a)) ∧ Below w.heap.size w w' := by
  rw [show in64 a = inW a 64 from (inW_64 a).symm]
  exact bigWithin a 64 s l A c L w hL hl (by omega) ha
set_option maxRecDepth 100000 in
set_option maxHeartbeats 2000000 in
theorem bigFits (a : Int) (s : Bool) (l : List Int) (A : Option Addr) (c L : Nat) (w : World) (hL : L ≤ 900000) (hl : l.length ≤ L) (ha : IsBig w a s A l c) :
    Calls Try.prog 26 #[.agg #[.bool s, .slice A l.length c]] w fun e w' => e = .returned (.bool (in64 a)) ∧ Below w.heap.size w w' := by
  have HA := Lib.hid ha
  have c1 := fun W (h : IsBig W a s A l c) => bigWithin64 a s l A c L W hL hl h
  have C1 := Lib.hid c1
  clear ha c1
  go_enter Try.func26, Try.ntmps26
  go_wp2_with (go_at_call 90; (with_reducible refine (C1.out _ (HA.out.keep (by (repeat' (first | (with_reducible exact Below.refl _ _) | (with_reducible assumption) | (with_reducible refine Below.alloc ?_ ?_ _) | (with_reducible refine Below.setCell ?_ ?_ _) | (with_reducible refine Below.drew ?_) | (with_reducible refine below_drewN ?_ _) | (with_reducible refine below_via ?_ (by with_reducible assumption) ?_) | omega | (simp; done) | (simp; omega)))))).mono ?_); rintro e w1 ⟨rfl, hb1⟩; obtain ⟨fc1, fg1, hc1, hf1, hz1⟩ := bget hb1; try simp at hz1)
  go_ret
  exact ⟨rfl, by (repeat' (first | (with_reducible exact Below.refl _ _) | (with_reducible assumption) | (with_reducible refine Below.alloc ?_ ?_ _) | (with_reducible refine Below.setCell ?_ ?_ _) | (with_reducible refine Below.drew ?_) | (with_reducible refine below_drewN ?_ _) | (with_reducible refine below_via ?_ (by with_reducible assumption) ?_) | omega | (simp; done) | (simp; omega)))⟩
theorem val_drop_pred {l : List Int} {k : Nat} (h0 : 0 < k) (hk : k ≤ l.length) : Go.Proofs.Ytiidplinmempcaa.val (l.drop (k - 1)) = l.getD (k - 1) 0 + 2 * Go.Proofs.Ytiidplinmempcaa.val (l.drop k) := by
  have h1 : k - 1 < l.length := by omega
  rw [List.drop_eq_getElem_cons h1, show k - 1 + 1 = k from by omega]
  simp [Go.Proofs.Ytiidplinmempcaa.val, List.getD_eq_getElem?_getD, h1]
theorem val_drop_le {l : List Int} (h : Bit l) (k : Nat) (hk : k ≤ l.length) : 0 ≤ Go.Proofs.Ytiidplinmempcaa.val (l.drop k) ∧ Go.Proofs.Ytiidplinmempcaa.val (l.drop k) ≤ Go.Proofs.Ytiidplinmempcaa.val l := by
  have h1 := val_nonneg (bit_drop h k)
  have h2 := val_nonneg (bit_take h k)
  have h3 := val_split l k hk
  have h4 := pw_pos k
  have h5 : 1 * Go.Proofs.Ytiidplinmempcaa.val (l.drop k) ≤ pw k * Go.Proofs.Ytiidplinmempcaa.val (l.drop k) := Int.mul_le_mul_of_nonneg_right (by omega) h1
  omega
set_option maxRecDepth 100000 in
set_option maxHeartbeats 2000000 in
theorem bigInt (a : Int) (s : Bool) (l : List Int) (A : Option Addr) (c : Nat) (w : World) (hl : l.length ≤ 1000000) (h64 : In64 a) (ha : IsBig w a s A l c) :
    Calls Try.prog 27 #[.agg #[.bool s, .slice A l.length c]] w fun e w' => e = .returned (.int .i64 a) ∧ Below w.heap.size w w' := by
  have HA := Lib.hid ha
  have hs := ha.sgn
  have hv : Go.Proofs.Ytiidplinmempcaa.val l = iabs a := ha.val
  have hbit := Lib.hid ha.bit
  have Hr := Lib.hid ha.rd
  unfold In64 at h64
  clear ha
  cases s
  · have hn : 0 ≤ a := by simpa using hs
    rw [iabs_pos hn] at hv
    have HV := Lib.hid hv
    clear hs hv
    go_enter Try.func27, Try.ntmps27
    go_wp2_with fail
    go_loopw [3, 4] (fun n i wr => ∃ k : Nat, k ≤ l.length ∧ i = .int .i64 k ∧ n = .int .i64 (Go.Proofs.Ytiidplinmempcaa.val (l.drop k)) ∧ Below (w.heap.size + 1) (w.alloc (.cells #[.bool false, .slice A l.length c] 34)) wr) (fun _ i _ => (intOf i).toNat)
    case atStart => exact ⟨l.length, Nat.le_refl _, rfl, by rw [List.drop_length]; rfl, by (repeat' (first | (with_reducible exact Below.refl _ _) | (with_reducible assumption) | (with_reducible refine Below.alloc ?_ ?_ _) | (with_reducible refine Below.setCell ?_ ?_ _) | (with_reducible refine Below.drew ?_) | (with_reducible refine below_drewN ?_ _) | (with_reducible refine below_via ?_ (by with_reducible assumption) ?_) | omega | (simp; done) | (simp; omega)))⟩
    case round =>
      obtain ⟨k, hk, rfl, rfl, hbl⟩ := hrel
      have Hbl := Lib.hid hbl
      have hz := hbl.size
      simp at hz
      have r0 := (hbl.cell (p := ⟨w.heap.size, 0, none⟩) (by simp))
      have r1 := (hbl.cell (p := ⟨w.heap.size, 1, none⟩) (by simp))
      simp at r0 r1
      clear hbl
      by_cases h0 : k = 0
      · subst h0
        have HE := Lib.hid (show Go.Proofs.Ytiidplinmempcaa.val (l.drop 0) = a from by rw [List.drop_zero]; exact HV.out)
        go_wp2_with fail
        go_ret
        exact ⟨by rw [← HE.out]; rfl, by have hbl := Hbl.out; have h2 : Below w.heap.size w wr := ((Below.refl _ _).alloc (Nat.le_refl _) _).trans (hbl.mono (by omega)); exact h2⟩
      · have k0 : 0 < k := by omega
        have d0 : decide (0 < k) = true := by simpa using k0
        have b0 := val_drop_le hbit.out k hk
        have b1 := val_drop_le hbit.out (k - 1) (by omega)
        have HP := Lib.hid (val_drop_pred k0 hk)
        have hv1 := HP.out
        have gx := bit_get hbit.out (k - 1)
        obtain ⟨b2, o2, rfl, hb2, c2⟩ := bit_cell Hr.out (Below.refl w.heap.size w) (Nat.le_refl _) (show k - 1 < l.length from by omega)
        have e2 : wr.cell? ⟨b2, o2 + (k - 1), none⟩ = some (.int .u8 (l.getD (k - 1) 0)) := (Hbl.out.cell (p := ⟨b2, o2 + (k - 1), none⟩) (by simp; omega)).trans ((World.cell?_alloc_lt w _ ⟨b2, o2 + (k - 1), none⟩ hb2).trans c2)
        obtain ⟨x, hx⟩ : ∃ x, x = l.getD (k - 1) 0 := ⟨_, rfl⟩
        obtain ⟨v, hvv⟩ : ∃ v, v = Go.Proofs.Ytiidplinmempcaa.val (l.drop k) := ⟨_, rfl⟩
        rw [← hx] at e2 gx hv1 HP
        rw [← hvv] at b0 hv1 HP ⊢
        have hvl : v ≤ 4611686018427387904 := by have := HV.out; omega
        have hvx : 2 * v + x ≤ 9223372036854775807 := by have := HV.out; omega
        clear hv1 hvv hx c2 b1
        go_wp2_with fail
        go_roundw
        case rel => exact ⟨k - 1, by omega, by go_num, by rw [HP.out]; go_num, Hbl.out⟩
        case measure => simp [intOf]; omega
  · have hn : a < 0 := by simpa using hs.symm
    rw [iabs_neg hn] at hv
    have HV := Lib.hid hv
    clear hs hv
    go_enter Try.func27, Try.ntmps27
    go_wp2_with fail
    go_loopw [3, 4] (fun n i wr => ∃ k : Nat, k ≤ l.length ∧ i = .int .i64 k ∧ n = .int .i64 (- Go.Proofs.Ytiidplinmempcaa.val (l.drop k)) ∧ Below (w.heap.size + 1) (w.alloc (.cells #[.bool true, .slice A l.length c] 34)) wr) (fun _ i _ => (intOf i).toNat)
    case atStart => exact ⟨l.length, Nat.le_refl _, rfl, by rw [List.drop_length]; rfl, by (repeat' (first | (with_reducible exact Below.refl _ _) | (with_reducible assumption) | (with_reducible refine Below.alloc ?_ ?_ _) | (with_reducible refine Below.setCell ?_ ?_ _) | (with_reducible refine Below.drew ?_) | (with_reducible refine below_drewN ?_ _) | (with_reducible refine below_via ?_ (by with_reducible assumption) ?_) | omega | (simp; done) | (simp; omega)))⟩
    case round =>
      obtain ⟨k, hk, rfl, rfl, hbl⟩ := hrel
      have Hbl := Lib.hid hbl
      have hz := hbl.size
      simp at hz
      have r0 := (hbl.cell (p := ⟨w.heap.size, 0, none⟩) (by simp))
      have r1 := (hbl.cell (p := ⟨w.heap.size, 1, none⟩) (by simp))
      simp at r0 r1
      clear hbl
      by_cases h0 : k = 0
      · subst h0
        have HE := Lib.hid (show - Go.Proofs.Ytiidplinmempcaa.val (l.drop 0) = a from by rw [List.drop_zero, HV.out]; omega)
        go_wp2_with fail
        go_ret
        exact ⟨by rw [← HE.out]; rfl, by have hbl := Hbl.out; have h2 : Below w.heap.size w wr := ((Below.refl _ _).alloc (Nat.le_refl _) _).trans (hbl.mono (by omega)); exact h2⟩
      · have k0 : 0 < k := by omega
        have d0 : decide (0 < k) = true := by simpa using k0
        have b0 := val_drop_le hbit.out k hk
        have b1 := val_drop_le hbit.out (k - 1) (by omega)
        have HP := Lib.hid (val_drop_pred k0 hk)
        have hv1 := HP.out
        have gx := bit_get hbit.out (k - 1)
        obtain ⟨b2, o2, rfl, hb2, c2⟩ := bit_cell Hr.out (Below.refl w.heap.size w) (Nat.le_refl _) (show k - 1 < l.length from by omega)
        have e2 : wr.cell? ⟨b2, o2 + (k - 1), none⟩ = some (.int .u8 (l.getD (k - 1) 0)) := (Hbl.out.cell (p := ⟨b2, o2 + (k - 1), none⟩) (by simp; omega)).trans ((World.cell?_alloc_lt w _ ⟨b2, o2 + (k - 1), none⟩ hb2).trans c2)
        obtain ⟨x, hx⟩ : ∃ x, x = l.getD (k - 1) 0 := ⟨_, rfl⟩
        obtain ⟨v, hvv⟩ : ∃ v, v = Go.Proofs.Ytiidplinmempcaa.val (l.drop k) := ⟨_, rfl⟩
        rw [← hx] at e2 gx hv1 HP
        rw [← hvv] at b0 hv1 HP ⊢
        have hvl : v ≤ 4611686018427387904 := by have := HV.out; omega
        have hvx : 2 * v + x ≤ 9223372036854775808 := by have := HV.out; omega
        clear hv1 hvv hx c2 b1
        go_wp2_with fail
        go_roundw
        case rel => exact ⟨k - 1, by omega, by go_num, by rw [HP.out]; go_num, Hbl.out⟩
        case measure => simp [intOf]; omega
end Go.Proofs.Ytiidplinmempcaa
