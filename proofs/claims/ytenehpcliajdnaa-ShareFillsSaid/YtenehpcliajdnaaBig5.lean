/- Contracts of the reference's Add. -/
import Derived.Test.YtenehpcliajdnaaBig3
import Derived.Test.YtenehpcliajdnaaBig4
namespace Go.Proofs.Ytenehpcliajdnaa
open Go.RowKit
theorem iabs_nonneg (n : Int) : 0 ≤ iabs n := by unfold iabs; split <;> omega
theorem plus_len {x y z L : Nat} {p : Prop} (h1 : x ≤ L) (h2 : y ≤ L) (h : z = max x y ∨ (z = max x y + 1 ∧ p)) : z ≤ L + 1 := by
  rcases h with h | ⟨h, _⟩ <;> omega
theorem len_of_lt {a b : List Int} (ha : Bit a) (hb : Bit b) (ta : Top a) (h : val a ≤ val b) : a.length ≤ b.length := by
  rcases Nat.lt_or_ge b.length a.length with h1 | h1
  · have := lt_of_len hb ha ta h1; omega
  · exact h1
theorem pos_of_neg {n : Int} (h : decide (n < 0) = true) : iabs n = - n := iabs_neg (of_decide_eq_true h)
theorem pos_of_pos {n : Int} (h : decide (n < 0) = false) : iabs n = n ∧ 0 ≤ n := by have := of_decide_eq_false h; exact ⟨iabs_pos (by omega), by omega⟩
set_option maxRecDepth 100000 in
set_option maxHeartbeats 2000000 in
theorem bigAdd_false_false_plus (a b : Int) (hsa : decide (a < 0) = false) (hsb : decide (b < 0) = false) (la lb : List Int) (A B : Option Addr) (c d L : Nat) (w : World) (hL : L ≤ 1000000) (hla : la.length ≤ L) (hlb : lb.length ≤ L) (ha : IsBig w a false A la c) (hb : IsBig w b false B lb d) :
    Calls Try.prog 14 #[.agg #[.bool false, .slice A la.length c], .agg #[.bool false, .slice B lb.length d]] w (BigPost w (a + b) (L + 1)) := by
  have fa := pos_of_pos hsa
  have fb := pos_of_pos hsb
  have hn : iabs a + iabs b = iabs (a + b) := by unfold iabs at *; split at * <;> omega
  have hsg : ∀ x : Int, x = iabs (a + b) → decide (a + b < 0) = (false && decide (0 < x)) := by
    intro x hx
    rw [hx, Bool.eq_iff_iff]; simp; unfold iabs at *; split at * <;> omega
  have HN := Lib.hid hn
  have HSG := Lib.hid hsg
  have HA := Lib.hid ha
  have HB := Lib.hid hb
  clear hn hsg ha hb hsa hsb fa fb
  go_enter Try.func14, Try.ntmps14
  go_wp2_with fail
  go_region_held3 (fun w' => w'.cell? ⟨w.heap.size, 0, none⟩ = some (.bool false) ∧ w'.cell? ⟨w.heap.size, 1, none⟩ = some (.slice A la.length c) ∧ w'.cell? ⟨w.heap.size + 1, 0, none⟩ = some (.bool false) ∧ w'.cell? ⟨w.heap.size + 1, 1, none⟩ = some (.slice B lb.length d)) (first | (simp [go_sem]; done) | (repeat' (first | (with_reducible assumption) | (with_reducible refine And.intro ?_ ?_) | (with_reducible refine cell_drew ?_) | (with_reducible refine cell_via (by with_reducible assumption) ?_ ?_) | (simp [*]; done) | (simp [go_sem]; done) | (with_reducible refine cell_alloc ?_ ?_) | (with_reducible refine cell_set_far ?_ ?_) | omega | (simp; omega)))) (first | (go_at_call 47; (with_reducible refine (bigPlus la lb A B c d _ (by omega) (by omega) (HA.out.rd.keep (by (repeat' (first | (with_reducible exact Below.refl _ _) | (with_reducible assumption) | (with_reducible refine Below.alloc ?_ ?_ _) | (with_reducible refine Below.setCell ?_ ?_ _) | (with_reducible refine Below.drew ?_) | (with_reducible refine below_drewN ?_ _) | (with_reducible refine below_via ?_ (by with_reducible assumption) ?_) | omega | (simp; done) | (simp; omega))))) (HB.out.rd.keep (by (repeat' (first | (with_reducible exact Below.refl _ _) | (with_reducible assumption) | (with_reducible refine Below.alloc ?_ ?_ _) | (with_reducible refine Below.setCell ?_ ?_ _) | (with_reducible refine Below.drew ?_) | (with_reducible refine below_drewN ?_ _) | (with_reducible refine below_via ?_ (by with_reducible assumption) ?_) | omega | (simp; done) | (simp; omega))))) HA.out.bit HB.out.bit).mono ?_); rintro e w1 ⟨v, l, rfl, hown, hb1, hbit, hval, hlen⟩; have hl1 := plus_len hla hlb hlen; have hb0 : Below w.heap.size w w := Below.refl _ _; obtain ⟨A1, c1, rfl, hcc, hmm, hr1, _⟩ := hown.shape; have Hval := Lib.hid hval; clear hval; have Hcc := Lib.hid hcc; clear hcc; obtain ⟨fc1, fg1, hc1, hf1, hz1⟩ := bget hb1; simp at hz1) | (go_at_call 46; (try simp only [List.length_map]); (with_reducible refine (bigTrim _ l A1 c1 _ (by omega) hr1 hbit (by simpa using Hcc.out) hmm).mono ?_); rintro e w2 ⟨l2, rfl, hk2, ht2, hv2, hb2⟩; have Hv2 := Lib.hid hv2; clear hv2; have Hk2 := Lib.hid hk2; clear hk2; obtain ⟨fc2, fg2, hc2, hf2, hz2⟩ := bget hb2))
  go_wp2_with fail
  all_goals
    have r0 : w2.cell? ⟨w.heap.size + 1 + 1, 0, none⟩ = some (.bool false) := by simp [go_sem, hc2, hc1, ↓IntWalk.iteOmega]
    have r1 : w2.cell? ⟨w.heap.size + 1 + 1, 1, none⟩ = some (.slice none 0 0) := by simp [go_sem, hc2, hc1, ↓IntWalk.iteOmega]
    have hval2 : val l = iabs (a + b) := by rw [Hval.out, ← HN.out, HA.out.val, HB.out.val]
    have hl2 := trim_len Hk2.out
    have hs := HSG.out _ hval2
    have hB := trim_big (hr1.keep hb2) hbit Hk2.out ht2 Hv2.out hval2 (by simpa using Hcc.out) hmm hs.symm
    refine bodyPost_ret (v := .agg #[.bool (false && decide (0 < val l)), .slice A1 l2.length c1]) (by simp [results, Try.results14, go_sem, r0, r1]; try rfl) rfl ⟨_, A1, l2, c1, rfl, (hB.far r0 (by simp) _).far ((World.cell?_setCell_other _ _ _ _ (by simp)).trans r1) (by simp) _, by omega, ?_⟩
    (repeat' (first | (with_reducible exact Below.refl _ _) | (with_reducible assumption) | (with_reducible refine Below.alloc ?_ ?_ _) | (with_reducible refine Below.setCell ?_ ?_ _) | (with_reducible refine Below.drew ?_) | (with_reducible refine below_drewN ?_ _) | (with_reducible refine below_via ?_ (by with_reducible assumption) ?_) | omega | (simp; done) | (simp; omega)))
set_option maxRecDepth 100000 in
set_option maxHeartbeats 2000000 in
theorem bigAdd_false_true_less (a b : Int) (hsa : decide (a < 0) = false) (hsb : decide (b < 0) = true) (hlt : iabs a < iabs b) (la lb : List Int) (A B : Option Addr) (c d L : Nat) (w : World) (hL : L ≤ 1000000) (hla : la.length ≤ L) (hlb : lb.length ≤ L) (ha : IsBig w a false A la c) (hb : IsBig w b true B lb d) :
    Calls Try.prog 14 #[.agg #[.bool false, .slice A la.length c], .agg #[.bool true, .slice B lb.length d]] w (BigPost w (a + b) (L + 1)) := by
  have fa := pos_of_pos hsa
  have fb := pos_of_neg hsb
  have hn : iabs b - iabs a = iabs (a + b) := by unfold iabs at *; split at * <;> omega
  have hsg : ∀ x : Int, x = iabs (a + b) → decide (a + b < 0) = (true && decide (0 < x)) := by
    intro x hx
    rw [hx, Bool.eq_iff_iff]; simp; unfold iabs at *; split at * <;> omega
  have HN := Lib.hid hn
  have HSG := Lib.hid hsg
  have HA := Lib.hid ha
  have HB := Lib.hid hb
  have hd : decide (val la < val lb) = true := by rw [ha.val, hb.val]; simpa using hlt
  have hvv : val la ≤ val lb := by rw [ha.val, hb.val]; omega
  have hll := len_of_lt ha.bit hb.bit ha.top hvv
  have HVV := Lib.hid hvv
  clear hvv hlt
  clear hn hsg ha hb hsa hsb fa fb
  go_enter Try.func14, Try.ntmps14
  go_wp2_with (go_at_call 48; (with_reducible refine (bigLess la lb A B c d _ (by omega) (by omega) (HA.out.rd.keep (by (repeat' (first | (with_reducible exact Below.refl _ _) | (with_reducible assumption) | (with_reducible refine Below.alloc ?_ ?_ _) | (with_reducible refine Below.setCell ?_ ?_ _) | (with_reducible refine Below.drew ?_) | (with_reducible refine below_drewN ?_ _) | (with_reducible refine below_via ?_ (by with_reducible assumption) ?_) | omega | (simp; done) | (simp; omega))))) (HB.out.rd.keep (by (repeat' (first | (with_reducible exact Below.refl _ _) | (with_reducible assumption) | (with_reducible refine Below.alloc ?_ ?_ _) | (with_reducible refine Below.setCell ?_ ?_ _) | (with_reducible refine Below.drew ?_) | (with_reducible refine below_drewN ?_ _) | (with_reducible refine below_via ?_ (by with_reducible assumption) ?_) | omega | (simp; done) | (simp; omega))))) HA.out.bit HB.out.bit HA.out.top HB.out.top).mono ?_); rintro e w0 ⟨rfl, hb0⟩; rw [hd]; obtain ⟨fc0, fg0, hc0, hf0, hz0⟩ := bget hb0; simp at hz0)
  go_region_held3 (fun w' => w'.cell? ⟨w.heap.size, 0, none⟩ = some (.bool false) ∧ w'.cell? ⟨w.heap.size, 1, none⟩ = some (.slice A la.length c) ∧ w'.cell? ⟨w.heap.size + 1, 0, none⟩ = some (.bool true) ∧ w'.cell? ⟨w.heap.size + 1, 1, none⟩ = some (.slice B lb.length d)) (first | (simp [go_sem]; done) | (repeat' (first | (with_reducible assumption) | (with_reducible refine And.intro ?_ ?_) | (with_reducible refine cell_drew ?_) | (with_reducible refine cell_via (by with_reducible assumption) ?_ ?_) | (simp [*]; done) | (simp [go_sem]; done) | (with_reducible refine cell_alloc ?_ ?_) | (with_reducible refine cell_set_far ?_ ?_) | omega | (simp; omega)))) (first | (go_at_call 49; (with_reducible refine (bigMinus lb la B A d c _ (by omega) hll (HB.out.rd.keep (by (repeat' (first | (with_reducible exact Below.refl _ _) | (with_reducible assumption) | (with_reducible refine Below.alloc ?_ ?_ _) | (with_reducible refine Below.setCell ?_ ?_ _) | (with_reducible refine Below.drew ?_) | (with_reducible refine below_drewN ?_ _) | (with_reducible refine below_via ?_ (by with_reducible assumption) ?_) | omega | (simp; done) | (simp; omega))))) (HA.out.rd.keep (by (repeat' (first | (with_reducible exact Below.refl _ _) | (with_reducible assumption) | (with_reducible refine Below.alloc ?_ ?_ _) | (with_reducible refine Below.setCell ?_ ?_ _) | (with_reducible refine Below.drew ?_) | (with_reducible refine below_drewN ?_ _) | (with_reducible refine below_via ?_ (by with_reducible assumption) ?_) | omega | (simp; done) | (simp; omega))))) HB.out.bit HA.out.bit HVV.out).mono ?_); rintro e w1 ⟨v, l, rfl, hown, hb1, hbit, hval, hlen⟩; have hl1 : l.length ≤ L + 1 := (by omega); clear hlen; obtain ⟨A1, c1, rfl, hcc, hmm, hr1, _⟩ := hown.shape; have Hval := Lib.hid hval; clear hval; have Hcc := Lib.hid hcc; clear hcc; obtain ⟨fc1, fg1, hc1, hf1, hz1⟩ := bget hb1; simp at hz1) | (go_at_call 46; (try simp only [List.length_map]); (with_reducible refine (bigTrim _ l A1 c1 _ (by omega) hr1 hbit (by simpa using Hcc.out) hmm).mono ?_); rintro e w2 ⟨l2, rfl, hk2, ht2, hv2, hb2⟩; have Hv2 := Lib.hid hv2; clear hv2; have Hk2 := Lib.hid hk2; clear hk2; obtain ⟨fc2, fg2, hc2, hf2, hz2⟩ := bget hb2))
  go_wp2_with fail
  all_goals
    have r0 : w2.cell? ⟨w.heap.size + 1 + 1, 0, none⟩ = some (.bool false) := by simp [go_sem, hc2, hc1, hc0, ↓IntWalk.iteOmega]
    have r1 : w2.cell? ⟨w.heap.size + 1 + 1, 1, none⟩ = some (.slice none 0 0) := by simp [go_sem, hc2, hc1, hc0, ↓IntWalk.iteOmega]
    have hval2 : val l = iabs (a + b) := by rw [Hval.out, ← HN.out, HA.out.val, HB.out.val]
    have hl2 := trim_len Hk2.out
    have hs := HSG.out _ hval2
    have hB := trim_big (hr1.keep hb2) hbit Hk2.out ht2 Hv2.out hval2 (by simpa using Hcc.out) hmm hs.symm
    refine bodyPost_ret (v := .agg #[.bool (true && decide (0 < val l)), .slice A1 l2.length c1]) (by simp [results, Try.results14, go_sem, r0, r1]; try rfl) rfl ⟨_, A1, l2, c1, rfl, (hB.far r0 (by simp) _).far ((World.cell?_setCell_other _ _ _ _ (by simp)).trans r1) (by simp) _, by omega, ?_⟩
    (repeat' (first | (with_reducible exact Below.refl _ _) | (with_reducible assumption) | (with_reducible refine Below.alloc ?_ ?_ _) | (with_reducible refine Below.setCell ?_ ?_ _) | (with_reducible refine Below.drew ?_) | (with_reducible refine below_drewN ?_ _) | (with_reducible refine below_via ?_ (by with_reducible assumption) ?_) | omega | (simp; done) | (simp; omega)))
set_option maxRecDepth 100000 in
set_option maxHeartbeats 2000000 in
theorem bigAdd_false_true_more (a b : Int) (hsa : decide (a < 0) = false) (hsb : decide (b < 0) = true) (hlt : ¬ iabs a < iabs b) (la lb : List Int) (A B : Option Addr) (c d L : Nat) (w : World) (hL : L ≤ 1000000) (hla : la.length ≤ L) (hlb : lb.length ≤ L) (ha : IsBig w a false A la c) (hb : IsBig w b true B lb d) :
    Calls Try.prog 14 #[.agg #[.bool false, .slice A la.length c], .agg #[.bool true, .slice B lb.length d]] w (BigPost w (a + b) (L + 1)) := by
  have fa := pos_of_pos hsa
  have fb := pos_of_neg hsb
  have hn : iabs a - iabs b = iabs (a + b) := by unfold iabs at *; split at * <;> omega
  have hsg : ∀ x : Int, x = iabs (a + b) → decide (a + b < 0) = (false && decide (0 < x)) := by
    intro x hx
    rw [hx, Bool.eq_iff_iff]; simp; unfold iabs at *; split at * <;> omega
  have HN := Lib.hid hn
  have HSG := Lib.hid hsg
  have HA := Lib.hid ha
  have HB := Lib.hid hb
  have hd : decide (val la < val lb) = false := by rw [ha.val, hb.val]; simpa using hlt
  have hvv : val lb ≤ val la := by rw [ha.val, hb.val]; omega
  have hll := len_of_lt hb.bit ha.bit hb.top hvv
  have HVV := Lib.hid hvv
  clear hvv hlt
  clear hn hsg ha hb hsa hsb fa fb
  go_enter Try.func14, Try.ntmps14
  go_wp2_with (go_at_call 48; (with_reducible refine (bigLess la lb A B c d _ (by omega) (by omega) (HA.out.rd.keep (by (repeat' (first | (with_reducible exact Below.refl _ _) | (with_reducible assumption) | (with_reducible refine Below.alloc ?_ ?_ _) | (with_reducible refine Below.setCell ?_ ?_ _) | (with_reducible refine Below.drew ?_) | (with_reducible refine below_drewN ?_ _) | (with_reducible refine below_via ?_ (by with_reducible assumption) ?_) | omega | (simp; done) | (simp; omega))))) (HB.out.rd.keep (by (repeat' (first | (with_reducible exact Below.refl _ _) | (with_reducible assumption) | (with_reducible refine Below.alloc ?_ ?_ _) | (with_reducible refine Below.setCell ?_ ?_ _) | (with_reducible refine Below.drew ?_) | (with_reducible refine below_drewN ?_ _) | (with_reducible refine below_via ?_ (by with_reducible assumption) ?_) | omega | (simp; done) | (simp; omega))))) HA.out.bit HB.out.bit HA.out.top HB.out.top).mono ?_); rintro e w0 ⟨rfl, hb0⟩; rw [hd]; obtain ⟨fc0, fg0, hc0, hf0, hz0⟩ := bget hb0; simp at hz0)
  go_region_held3 (fun w' => w'.cell? ⟨w.heap.size, 0, none⟩ = some (.bool false) ∧ w'.cell? ⟨w.heap.size, 1, none⟩ = some (.slice A la.length c) ∧ w'.cell? ⟨w.heap.size + 1, 0, none⟩ = some (.bool true) ∧ w'.cell? ⟨w.heap.size + 1, 1, none⟩ = some (.slice B lb.length d)) (first | (simp [go_sem]; done) | (repeat' (first | (with_reducible assumption) | (with_reducible refine And.intro ?_ ?_) | (with_reducible refine cell_drew ?_) | (with_reducible refine cell_via (by with_reducible assumption) ?_ ?_) | (simp [*]; done) | (simp [go_sem]; done) | (with_reducible refine cell_alloc ?_ ?_) | (with_reducible refine cell_set_far ?_ ?_) | omega | (simp; omega)))) (first | (go_at_call 49; (with_reducible refine (bigMinus la lb A B c d _ (by omega) hll (HA.out.rd.keep (by (repeat' (first | (with_reducible exact Below.refl _ _) | (with_reducible assumption) | (with_reducible refine Below.alloc ?_ ?_ _) | (with_reducible refine Below.setCell ?_ ?_ _) | (with_reducible refine Below.drew ?_) | (with_reducible refine below_drewN ?_ _) | (with_reducible refine below_via ?_ (by with_reducible assumption) ?_) | omega | (simp; done) | (simp; omega))))) (HB.out.rd.keep (by (repeat' (first | (with_reducible exact Below.refl _ _) | (with_reducible assumption) | (with_reducible refine Below.alloc ?_ ?_ _) | (with_reducible refine Below.setCell ?_ ?_ _) | (with_reducible refine Below.drew ?_) | (with_reducible refine below_drewN ?_ _) | (with_reducible refine below_via ?_ (by with_reducible assumption) ?_) | omega | (simp; done) | (simp; omega))))) HA.out.bit HB.out.bit HVV.out).mono ?_); rintro e w1 ⟨v, l, rfl, hown, hb1, hbit, hval, hlen⟩; have hl1 : l.length ≤ L + 1 := (by omega); clear hlen; obtain ⟨A1, c1, rfl, hcc, hmm, hr1, _⟩ := hown.shape; have Hval := Lib.hid hval; clear hval; have Hcc := Lib.hid hcc; clear hcc; obtain ⟨fc1, fg1, hc1, hf1, hz1⟩ := bget hb1; simp at hz1) | (go_at_call 46; (try simp only [List.length_map]); (with_reducible refine (bigTrim _ l A1 c1 _ (by omega) hr1 hbit (by simpa using Hcc.out) hmm).mono ?_); rintro e w2 ⟨l2, rfl, hk2, ht2, hv2, hb2⟩; have Hv2 := Lib.hid hv2; clear hv2; have Hk2 := Lib.hid hk2; clear hk2; obtain ⟨fc2, fg2, hc2, hf2, hz2⟩ := bget hb2))
  go_wp2_with fail
  all_goals
    have r0 : w2.cell? ⟨w.heap.size + 1 + 1, 0, none⟩ = some (.bool false) := by simp [go_sem, hc2, hc1, hc0, ↓IntWalk.iteOmega]
    have r1 : w2.cell? ⟨w.heap.size + 1 + 1, 1, none⟩ = some (.slice none 0 0) := by simp [go_sem, hc2, hc1, hc0, ↓IntWalk.iteOmega]
    have hval2 : val l = iabs (a + b) := by rw [Hval.out, ← HN.out, HA.out.val, HB.out.val]
    have hl2 := trim_len Hk2.out
    have hs := HSG.out _ hval2
    have hB := trim_big (hr1.keep hb2) hbit Hk2.out ht2 Hv2.out hval2 (by simpa using Hcc.out) hmm hs.symm
    refine bodyPost_ret (v := .agg #[.bool (false && decide (0 < val l)), .slice A1 l2.length c1]) (by simp [results, Try.results14, go_sem, r0, r1]; try rfl) rfl ⟨_, A1, l2, c1, rfl, (hB.far r0 (by simp) _).far ((World.cell?_setCell_other _ _ _ _ (by simp)).trans r1) (by simp) _, by omega, ?_⟩
    (repeat' (first | (with_reducible exact Below.refl _ _) | (with_reducible assumption) | (with_reducible refine Below.alloc ?_ ?_ _) | (with_reducible refine Below.setCell ?_ ?_ _) | (with_reducible refine Below.drew ?_) | (with_reducible refine below_drewN ?_ _) | (with_reducible refine below_via ?_ (by with_reducible assumption) ?_) | omega | (simp; done) | (simp; omega)))
set_option maxRecDepth 100000 in
set_option maxHeartbeats 2000000 in
theorem bigAdd_true_false_less (a b : Int) (hsa : decide (a < 0) = true) (hsb : decide (b < 0) = false) (hlt : iabs a < iabs b) (la lb : List Int) (A B : Option Addr) (c d L : Nat) (w : World) (hL : L ≤ 1000000) (hla : la.length ≤ L) (hlb : lb.length ≤ L) (ha : IsBig w a true A la c) (hb : IsBig w b false B lb d) :
    Calls Try.prog 14 #[.agg #[.bool true, .slice A la.length c], .agg #[.bool false, .slice B lb.length d]] w (BigPost w (a + b) (L + 1)) := by
  have fa := pos_of_neg hsa
  have fb := pos_of_pos hsb
  have hn : iabs b - iabs a = iabs (a + b) := by unfold iabs at *; split at * <;> omega
  have hsg : ∀ x : Int, x = iabs (a + b) → decide (a + b < 0) = (false && decide (0 < x)) := by
    intro x hx
    rw [hx, Bool.eq_iff_iff]; simp; unfold iabs at *; split at * <;> omega
  have HN := Lib.hid hn
  have HSG := Lib.hid hsg
  have HA := Lib.hid ha
  have HB := Lib.hid hb
  have hd : decide (val la < val lb) = true := by rw [ha.val, hb.val]; simpa using hlt
  have hvv : val la ≤ val lb := by rw [ha.val, hb.val]; omega
  have hll := len_of_lt ha.bit hb.bit ha.top hvv
  have HVV := Lib.hid hvv
  clear hvv hlt
  clear hn hsg ha hb hsa hsb fa fb
  go_enter Try.func14, Try.ntmps14
  go_wp2_with (go_at_call 48; (with_reducible refine (bigLess la lb A B c d _ (by omega) (by omega) (HA.out.rd.keep (by (repeat' (first | (with_reducible exact Below.refl _ _) | (with_reducible assumption) | (with_reducible refine Below.alloc ?_ ?_ _) | (with_reducible refine Below.setCell ?_ ?_ _) | (with_reducible refine Below.drew ?_) | (with_reducible refine below_drewN ?_ _) | (with_reducible refine below_via ?_ (by with_reducible assumption) ?_) | omega | (simp; done) | (simp; omega))))) (HB.out.rd.keep (by (repeat' (first | (with_reducible exact Below.refl _ _) | (with_reducible assumption) | (with_reducible refine Below.alloc ?_ ?_ _) | (with_reducible refine Below.setCell ?_ ?_ _) | (with_reducible refine Below.drew ?_) | (with_reducible refine below_drewN ?_ _) | (with_reducible refine below_via ?_ (by with_reducible assumption) ?_) | omega | (simp; done) | (simp; omega))))) HA.out.bit HB.out.bit HA.out.top HB.out.top).mono ?_); rintro e w0 ⟨rfl, hb0⟩; rw [hd]; obtain ⟨fc0, fg0, hc0, hf0, hz0⟩ := bget hb0; simp at hz0)
  go_region_held3 (fun w' => w'.cell? ⟨w.heap.size, 0, none⟩ = some (.bool true) ∧ w'.cell? ⟨w.heap.size, 1, none⟩ = some (.slice A la.length c) ∧ w'.cell? ⟨w.heap.size + 1, 0, none⟩ = some (.bool false) ∧ w'.cell? ⟨w.heap.size + 1, 1, none⟩ = some (.slice B lb.length d)) (first | (simp [go_sem]; done) | (repeat' (first | (with_reducible assumption) | (with_reducible refine And.intro ?_ ?_) | (with_reducible refine cell_drew ?_) | (with_reducible refine cell_via (by with_reducible assumption) ?_ ?_) | (simp [*]; done) | (simp [go_sem]; done) | (with_reducible refine cell_alloc ?_ ?_) | (with_reducible refine cell_set_far ?_ ?_) | omega | (simp; omega)))) (first | (go_at_call 49; (with_reducible refine (bigMinus lb la B A d c _ (by omega) hll (HB.out.rd.keep (by (repeat' (first | (with_reducible exact Below.refl _ _) | (with_reducible assumption) | (with_reducible refine Below.alloc ?_ ?_ _) | (with_reducible refine Below.setCell ?_ ?_ _) | (with_reducible refine Below.drew ?_) | (with_reducible refine below_drewN ?_ _) | (with_reducible refine below_via ?_ (by with_reducible assumption) ?_) | omega | (simp; done) | (simp; omega))))) (HA.out.rd.keep (by (repeat' (first | (with_reducible exact Below.refl _ _) | (with_reducible assumption) | (with_reducible refine Below.alloc ?_ ?_ _) | (with_reducible refine Below.setCell ?_ ?_ _) | (with_reducible refine Below.drew ?_) | (with_reducible refine below_drewN ?_ _) | (with_reducible refine below_via ?_ (by with_reducible assumption) ?_) | omega | (simp; done) | (simp; omega))))) HB.out.bit HA.out.bit HVV.out).mono ?_); rintro e w1 ⟨v, l, rfl, hown, hb1, hbit, hval, hlen⟩; have hl1 : l.length ≤ L + 1 := (by omega); clear hlen; obtain ⟨A1, c1, rfl, hcc, hmm, hr1, _⟩ := hown.shape; have Hval := Lib.hid hval; clear hval; have Hcc := Lib.hid hcc; clear hcc; obtain ⟨fc1, fg1, hc1, hf1, hz1⟩ := bget hb1; simp at hz1) | (go_at_call 46; (try simp only [List.length_map]); (with_reducible refine (bigTrim _ l A1 c1 _ (by omega) hr1 hbit (by simpa using Hcc.out) hmm).mono ?_); rintro e w2 ⟨l2, rfl, hk2, ht2, hv2, hb2⟩; have Hv2 := Lib.hid hv2; clear hv2; have Hk2 := Lib.hid hk2; clear hk2; obtain ⟨fc2, fg2, hc2, hf2, hz2⟩ := bget hb2))
  go_wp2_with fail
  all_goals
    have r0 : w2.cell? ⟨w.heap.size + 1 + 1, 0, none⟩ = some (.bool false) := by simp [go_sem, hc2, hc1, hc0, ↓IntWalk.iteOmega]
    have r1 : w2.cell? ⟨w.heap.size + 1 + 1, 1, none⟩ = some (.slice none 0 0) := by simp [go_sem, hc2, hc1, hc0, ↓IntWalk.iteOmega]
    have hval2 : val l = iabs (a + b) := by rw [Hval.out, ← HN.out, HA.out.val, HB.out.val]
    have hl2 := trim_len Hk2.out
    have hs := HSG.out _ hval2
    have hB := trim_big (hr1.keep hb2) hbit Hk2.out ht2 Hv2.out hval2 (by simpa using Hcc.out) hmm hs.symm
    refine bodyPost_ret (v := .agg #[.bool (false && decide (0 < val l)), .slice A1 l2.length c1]) (by simp [results, Try.results14, go_sem, r0, r1]; try rfl) rfl ⟨_, A1, l2, c1, rfl, (hB.far r0 (by simp) _).far ((World.cell?_setCell_other _ _ _ _ (by simp)).trans r1) (by simp) _, by omega, ?_⟩
    (repeat' (first | (with_reducible exact Below.refl _ _) | (with_reducible assumption) | (with_reducible refine Below.alloc ?_ ?_ _) | (with_reducible refine Below.setCell ?_ ?_ _) | (with_reducible refine Below.drew ?_) | (with_reducible refine below_drewN ?_ _) | (with_reducible refine below_via ?_ (by with_reducible assumption) ?_) | omega | (simp; done) | (simp; omega)))
set_option maxRecDepth 100000 in
set_option maxHeartbeats 2000000 in
theorem bigAdd_true_false_more (a b : Int) (hsa : decide (a < 0) = true) (hsb : decide (b < 0) = false) (hlt : ¬ iabs a < iabs b) (la lb : List Int) (A B : Option Addr) (c d L : Nat) (w : World) (hL : L ≤ 1000000) (hla : la.length ≤ L) (hlb : lb.length ≤ L) (ha : IsBig w a true A la c) (hb : IsBig w b false B lb d) :
    Calls Try.prog 14 #[.agg #[.bool true, .slice A la.length c], .agg #[.bool false, .slice B lb.length d]] w (BigPost w (a + b) (L + 1)) := by
  have fa := pos_of_neg hsa
  have fb := pos_of_pos hsb
  have hn : iabs a - iabs b = iabs (a + b) := by unfold iabs at *; split at * <;> omega
  have hsg : ∀ x : Int, x = iabs (a + b) → decide (a + b < 0) = (true && decide (0 < x)) := by
    intro x hx
    rw [hx, Bool.eq_iff_iff]; simp; unfold iabs at *; split at * <;> omega
  have HN := Lib.hid hn
  have HSG := Lib.hid hsg
  have HA := Lib.hid ha
  have HB := Lib.hid hb
  have hd : decide (val la < val lb) = false := by rw [ha.val, hb.val]; simpa using hlt
  have hvv : val lb ≤ val la := by rw [ha.val, hb.val]; omega
  have hll := len_of_lt hb.bit ha.bit hb.top hvv
  have HVV := Lib.hid hvv
  clear hvv hlt
  clear hn hsg ha hb hsa hsb fa fb
  go_enter Try.func14, Try.ntmps14
  go_wp2_with (go_at_call 48; (with_reducible refine (bigLess la lb A B c d _ (by omega) (by omega) (HA.out.rd.keep (by (repeat' (first | (with_reducible exact Below.refl _ _) | (with_reducible assumption) | (with_reducible refine Below.alloc ?_ ?_ _) | (with_reducible refine Below.setCell ?_ ?_ _) | (with_reducible refine Below.drew ?_) | (with_reducible refine below_drewN ?_ _) | (with_reducible refine below_via ?_ (by with_reducible assumption) ?_) | omega | (simp; done) | (simp; omega))))) (HB.out.rd.keep (by (repeat' (first | (with_reducible exact Below.refl _ _) | (with_reducible assumption) | (with_reducible refine Below.alloc ?_ ?_ _) | (with_reducible refine Below.setCell ?_ ?_ _) | (with_reducible refine Below.drew ?_) | (with_reducible refine below_drewN ?_ _) | (with_reducible refine below_via ?_ (by with_reducible assumption) ?_) | omega | (simp; done) | (simp; omega))))) HA.out.bit HB.out.bit HA.out.top HB.out.top).mono ?_); rintro e w0 ⟨rfl, hb0⟩; rw [hd]; obtain ⟨fc0, fg0, hc0, hf0, hz0⟩ := bget hb0; simp at hz0)
  go_region_held3 (fun w' => w'.cell? ⟨w.heap.size, 0, none⟩ = some (.bool true) ∧ w'.cell? ⟨w.heap.size, 1, none⟩ = some (.slice A la.length c) ∧ w'.cell? ⟨w.heap.size + 1, 0, none⟩ = some (.bool false) ∧ w'.cell? ⟨w.heap.size + 1, 1, none⟩ = some (.slice B lb.length d)) (first | (simp [go_sem]; done) | (repeat' (first | (with_reducible assumption) | (with_reducible refine And.intro ?_ ?_) | (with_reducible refine cell_drew ?_) | (with_reducible refine cell_via (by with_reducible assumption) ?_ ?_) | (simp [*]; done) | (simp [go_sem]; done) | (with_reducible refine cell_alloc ?_ ?_) | (with_reducible refine cell_set_far ?_ ?_) | omega | (simp; omega)))) (first | (go_at_call 49; (with_reducible refine (bigMinus la lb A B c d _ (by omega) hll (HA.out.rd.keep (by (repeat' (first | (with_reducible exact Below.refl _ _) | (with_reducible assumption) | (with_reducible refine Below.alloc ?_ ?_ _) | (with_reducible refine Below.setCell ?_ ?_ _) | (with_reducible refine Below.drew ?_) | (with_reducible refine below_drewN ?_ _) | (with_reducible refine below_via ?_ (by with_reducible assumption) ?_) | omega | (simp; done) | (simp; omega))))) (HB.out.rd.keep (by (repeat' (first | (with_reducible exact Below.refl _ _) | (with_reducible assumption) | (with_reducible refine Below.alloc ?_ ?_ _) | (with_reducible refine Below.setCell ?_ ?_ _) | (with_reducible refine Below.drew ?_) | (with_reducible refine below_drewN ?_ _) | (with_reducible refine below_via ?_ (by with_reducible assumption) ?_) | omega | (simp; done) | (simp; omega))))) HA.out.bit HB.out.bit HVV.out).mono ?_); rintro e w1 ⟨v, l, rfl, hown, hb1, hbit, hval, hlen⟩; have hl1 : l.length ≤ L + 1 := (by omega); clear hlen; obtain ⟨A1, c1, rfl, hcc, hmm, hr1, _⟩ := hown.shape; have Hval := Lib.hid hval; clear hval; have Hcc := Lib.hid hcc; clear hcc; obtain ⟨fc1, fg1, hc1, hf1, hz1⟩ := bget hb1; simp at hz1) | (go_at_call 46; (try simp only [List.length_map]); (with_reducible refine (bigTrim _ l A1 c1 _ (by omega) hr1 hbit (by simpa using Hcc.out) hmm).mono ?_); rintro e w2 ⟨l2, rfl, hk2, ht2, hv2, hb2⟩; have Hv2 := Lib.hid hv2; clear hv2; have Hk2 := Lib.hid hk2; clear hk2; obtain ⟨fc2, fg2, hc2, hf2, hz2⟩ := bget hb2))
  go_wp2_with fail
  all_goals
    have r0 : w2.cell? ⟨w.heap.size + 1 + 1, 0, none⟩ = some (.bool false) := by simp [go_sem, hc2, hc1, hc0, ↓IntWalk.iteOmega]
    have r1 : w2.cell? ⟨w.heap.size + 1 + 1, 1, none⟩ = some (.slice none 0 0) := by simp [go_sem, hc2, hc1, hc0, ↓IntWalk.iteOmega]
    have hval2 : val l = iabs (a + b) := by rw [Hval.out, ← HN.out, HA.out.val, HB.out.val]
    have hl2 := trim_len Hk2.out
    have hs := HSG.out _ hval2
    have hB := trim_big (hr1.keep hb2) hbit Hk2.out ht2 Hv2.out hval2 (by simpa using Hcc.out) hmm hs.symm
    refine bodyPost_ret (v := .agg #[.bool (true && decide (0 < val l)), .slice A1 l2.length c1]) (by simp [results, Try.results14, go_sem, r0, r1]; try rfl) rfl ⟨_, A1, l2, c1, rfl, (hB.far r0 (by simp) _).far ((World.cell?_setCell_other _ _ _ _ (by simp)).trans r1) (by simp) _, by omega, ?_⟩
    (repeat' (first | (with_reducible exact Below.refl _ _) | (with_reducible assumption) | (with_reducible refine Below.alloc ?_ ?_ _) | (with_reducible refine Below.setCell ?_ ?_ _) | (with_reducible refine Below.drew ?_) | (with_reducible refine below_drewN ?_ _) | (with_reducible refine below_via ?_ (by with_reducible assumption) ?_) | omega | (simp; done) | (simp; omega)))
set_option maxRecDepth 100000 in
set_option maxHeartbeats 2000000 in
theorem bigAdd_true_true_plus (a b : Int) (hsa : decide (a < 0) = true) (hsb : decide (b < 0) = true) (la lb : List Int) (A B : Option Addr) (c d L : Nat) (w : World) (hL : L ≤ 1000000) (hla : la.length ≤ L) (hlb : lb.length ≤ L) (ha : IsBig w a true A la c) (hb : IsBig w b true B lb d) :
    Calls Try.prog 14 #[.agg #[.bool true, .slice A la.length c], .agg #[.bool true, .slice B lb.length d]] w (BigPost w (a + b) (L + 1)) := by
  have fa := pos_of_neg hsa
  have fb := pos_of_neg hsb
  have hn : iabs a + iabs b = iabs (a + b) := by unfold iabs at *; split at * <;> omega
  have hsg : ∀ x : Int, x = iabs (a + b) → decide (a + b < 0) = (true && decide (0 < x)) := by
    intro x hx
    rw [hx, Bool.eq_iff_iff]; simp; unfold iabs at *; split at * <;> omega
  have HN := Lib.hid hn
  have HSG := Lib.hid hsg
  have HA := Lib.hid ha
  have HB := Lib.hid hb
  clear hn hsg ha hb hsa hsb fa fb
  go_enter Try.func14, Try.ntmps14
  go_wp2_with fail
  go_region_held3 (fun w' => w'.cell? ⟨w.heap.size, 0, none⟩ = some (.bool true) ∧ w'.cell? ⟨w.heap.size, 1, none⟩ = some (.slice A la.length c) ∧ w'.cell? ⟨w.heap.size + 1, 0, none⟩ = some (.bool true) ∧ w'.cell? ⟨w.heap.size + 1, 1, none⟩ = some (.slice B lb.length d)) (first | (simp [go_sem]; done) | (repeat' (first | (with_reducible assumption) | (with_reducible refine And.intro ?_ ?_) | (with_reducible refine cell_drew ?_) | (with_reducible refine cell_via (by with_reducible assumption) ?_ ?_) | (simp [*]; done) | (simp [go_sem]; done) | (with_reducible refine cell_alloc ?_ ?_) | (with_reducible refine cell_set_far ?_ ?_) | omega | (simp; omega)))) (first | (go_at_call 47; (with_reducible refine (bigPlus la lb A B c d _ (by omega) (by omega) (HA.out.rd.keep (by (repeat' (first | (with_reducible exact Below.refl _ _) | (with_reducible assumption) | (with_reducible refine Below.alloc ?_ ?_ _) | (with_reducible refine Below.setCell ?_ ?_ _) | (with_reducible refine Below.drew ?_) | (with_reducible refine below_drewN ?_ _) | (with_reducible refine below_via ?_ (by with_reducible assumption) ?_) | omega | (simp; done) | (simp; omega))))) (HB.out.rd.keep (by (repeat' (first | (with_reducible exact Below.refl _ _) | (with_reducible assumption) | (with_reducible refine Below.alloc ?_ ?_ _) | (with_reducible refine Below.setCell ?_ ?_ _) | (with_reducible refine Below.drew ?_) | (with_reducible refine below_drewN ?_ _) | (with_reducible refine below_via ?_ (by with_reducible assumption) ?_) | omega | (simp; done) | (simp; omega))))) HA.out.bit HB.out.bit).mono ?_); rintro e w1 ⟨v, l, rfl, hown, hb1, hbit, hval, hlen⟩; have hl1 := plus_len hla hlb hlen; have hb0 : Below w.heap.size w w := Below.refl _ _; obtain ⟨A1, c1, rfl, hcc, hmm, hr1, _⟩ := hown.shape; have Hval := Lib.hid hval; clear hval; have Hcc := Lib.hid hcc; clear hcc; obtain ⟨fc1, fg1, hc1, hf1, hz1⟩ := bget hb1; simp at hz1) | (go_at_call 46; (try simp only [List.length_map]); (with_reducible refine (bigTrim _ l A1 c1 _ (by omega) hr1 hbit (by simpa using Hcc.out) hmm).mono ?_); rintro e w2 ⟨l2, rfl, hk2, ht2, hv2, hb2⟩; have Hv2 := Lib.hid hv2; clear hv2; have Hk2 := Lib.hid hk2; clear hk2; obtain ⟨fc2, fg2, hc2, hf2, hz2⟩ := bget hb2))
  go_wp2_with fail
  all_goals
    have r0 : w2.cell? ⟨w.heap.size + 1 + 1, 0, none⟩ = some (.bool false) := by simp [go_sem, hc2, hc1, ↓IntWalk.iteOmega]
    have r1 : w2.cell? ⟨w.heap.size + 1 + 1, 1, none⟩ = some (.slice none 0 0) := by simp [go_sem, hc2, hc1, ↓IntWalk.iteOmega]
    have hval2 : val l = iabs (a + b) := by rw [Hval.out, ← HN.out, HA.out.val, HB.out.val]
    have hl2 := trim_len Hk2.out
    have hs := HSG.out _ hval2
    have hB := trim_big (hr1.keep hb2) hbit Hk2.out ht2 Hv2.out hval2 (by simpa using Hcc.out) hmm hs.symm
    refine bodyPost_ret (v := .agg #[.bool (true && decide (0 < val l)), .slice A1 l2.length c1]) (by simp [results, Try.results14, go_sem, r0, r1]; try rfl) rfl ⟨_, A1, l2, c1, rfl, (hB.far r0 (by simp) _).far ((World.cell?_setCell_other _ _ _ _ (by simp)).trans r1) (by simp) _, by omega, ?_⟩
    (repeat' (first | (with_reducible exact Below.refl _ _) | (with_reducible assumption) | (with_reducible refine Below.alloc ?_ ?_ _) | (with_reducible refine Below.setCell ?_ ?_ _) | (with_reducible refine Below.drew ?_) | (with_reducible refine below_drewN ?_ _) | (with_reducible refine below_via ?_ (by with_reducible assumption) ?_) | omega | (simp; done) | (simp; omega)))
theorem bigAdd (a b : Int) (sa sb : Bool) (la lb : List Int) (A B : Option Addr) (c d L : Nat) (w : World) (hL : L ≤ 1000000) (hla : la.length ≤ L) (hlb : lb.length ≤ L) (ha : IsBig w a sa A la c) (hb : IsBig w b sb B lb d) :
    Calls Try.prog 14 #[.agg #[.bool sa, .slice A la.length c], .agg #[.bool sb, .slice B lb.length d]] w (BigPost w (a + b) (L + 1)) := by
  have e1 := ha.sgn.symm
  have e2 := hb.sgn.symm
  cases sa <;> cases sb
  · exact bigAdd_false_false_plus a b e1 e2 la lb A B c d L w hL hla hlb ha hb
  · by_cases h : iabs a < iabs b
    · exact bigAdd_false_true_less a b e1 e2 h la lb A B c d L w hL hla hlb ha hb
    · exact bigAdd_false_true_more a b e1 e2 h la lb A B c d L w hL hla hlb ha hb
  · by_cases h : iabs a < iabs b
    · exact bigAdd_true_false_less a b e1 e2 h la lb A B c d L w hL hla hlb ha hb
    · exact bigAdd_true_false_more a b e1 e2 h la lb A B c d L w hL hla hlb ha hb
  · exact bigAdd_true_true_plus a b e1 e2 la lb A B c d L w hL hla hlb ha hb
end Go.Proofs.Ytenehpcliajdnaa
