/- Joined: Big5, Big6, Sl. -/
import Derived.Test.YtalgfpegaobacaaJz4
import Derived.Test.YtalgfpegaobacaaJz2
import Derived.Test.YtalgfpegaobacaaJz1
/- Contracts of the reference's Add. -/
namespace Go.Proofs.Ytalgfpegaobacaa
open Go.RowKit
theorem iabs_nonneg (n : Int) : 0 ≤ iabs n := by unfold iabs; split <;> omega
theorem plus_len {x y z L : Nat} {p : Prop} (h1 : x ≤ L) (h2 : y ≤ L) (h : z = max x y ∨ (z = max x y + 1 ∧ p)) : z ≤ L + 1 := by
  rcases h with h | ⟨h, _⟩ <;> omega
theorem len_of_lt {a b : List Int} (ha : Bit a) (hb : Bit b) (ta : Top a) (h : val a ≤ val b) : a.length ≤ b.length := by
  rcases Nat.lt_or_ge b.length a.length with h1 | h1
  · have := lt_of_len hb ha ta h1; omega
  · exact h1
theorem pos_of_neg {n : Int} (h : decide (n < 0) = true) : iabs n = - n := iabs_neg (of_decide_eq_true h)
theorem pos_of_pos {n : Int} (h : decide (n < 0) = false) : iabs n = n ∧ 0 ≤ n := by have := of_decide_eq_false h; exact ⟨iabs_pos (by omega), by omega⟩
set_option maxRecDepth 100000 in
set_option maxHeartbeats 2000000 in
theorem bigAdd_false_false_plus (a b : Int) (hsa : decide (a < 0) = false) (hsb : decide (b < 0) = false) (la lb : List Int) (A B : Option Addr) (c d L : Nat) (w : World) (hL : L ≤ 1000000) (hla : la.length ≤ L) (hlb : lb.length ≤ L) (ha : IsBig w a false A la c) (hb : IsBig w b false B lb d) :
    Calls Try.prog 20 #[.agg #[.bool false, .slice A la.length c], .agg #[.bool false, .slice B lb.length d]] w (BigPost w (a + b) (L + 1)) := by
  have fa := pos_of_pos hsa
  have fb := pos_of_pos hsb
  have hn : iabs a + iabs b = iabs (a + b) := by unfold iabs at *; split at * <;> omega
  have hsg : ∀ x : Int, x = iabs (a + b) → decide (a + b < 0) = (false && decide (0 < x)) := by
    intro x hx
    rw [hx, Bool.eq_iff_iff]; simp; unfold iabs at *; split at * <;> omega
  have HN := Lib.hid hn
  have HSG := Lib.hid hsg
  have HA := Lib.hid ha
  have HB := Lib.hid hb
  clear hn hsg ha hb hsa hsb fa fb
  go_enter Try.func20, Try.ntmps20
  go_wp2_with fail
  go_region_held3 (fun w' => w'.cell? ⟨w.heap.size, 0, none⟩ = some (.bool false) ∧ w'.cell? ⟨w.heap.size, 1, none⟩ = some (.slice A la.length c) ∧ w'.cell? ⟨w.heap.size + 1, 0, none⟩ = some (.bool false) ∧ w'.cell? ⟨w.heap.size + 1, 1, none⟩ = some (.slice B lb.length d)) (first | (simp [go_sem]; done) | (repeat' (first | (with_reducible assumption) | (with_reducible refine And.intro ?_ ?_) | (with_reducible refine cell_drew ?_) | (with_reducible refine cell_via (by with_reducible assumption) ?_ ?_) | (simp [*]; done) | (simp [go_sem]; done) | (with_reducible refine cell_alloc ?_ ?_) | (with_reducible refine cell_set_far ?_ ?_) | omega | (simp; omega)))) (first | (go_at_call 34; (with_reducible refine (bigPlus la lb A B c d _ (by omega) (by omega) (HA.out.rd.keep (by (repeat' (first | (with_reducible exact Below.refl _ _) | (with_reducible assumption) | (with_reducible refine Below.alloc ?_ ?_ _) | (with_reducible refine Below.setCell ?_ ?_ _) | (with_reducible refine Below.drew ?_) | (with_reducible refine below_drewN ?_ _) | (with_reducible refine below_via ?_ (by with_reducible assumption) ?_) | omega | (simp; done) | (simp; omega))))) (HB.out.rd.keep (by (repeat' (first | (with_reducible exact Below.refl _ _) | (with_reducible assumption) | (with_reducible refine Below.alloc ?_ ?_ _) | (with_reducible refine Below.setCell ?_ ?_ _) | (with_reducible refine Below.drew ?_) | (with_reducible refine below_drewN ?_ _) | (with_reducible refine below_via ?_ (by with_reducible assumption) ?_) | omega | (simp; done) | (simp; omega))))) HA.out.bit HB.out.bit).mono ?_); rintro e w1 ⟨v, l, rfl, hown, hb1, hbit, hval, hlen⟩; have hl1 := plus_len hla hlb hlen; have hb0 : Below w.heap.size w w := Below.refl _ _; obtain ⟨A1, c1, rfl, hcc, hmm, hr1, _⟩ := hown.shape; have Hval := Lib.hid hval; clear hval; have Hcc := Lib.hid hcc; clear hcc; obtain ⟨fc1, fg1, hc1, hf1, hz1⟩ := bget hb1; simp at hz1) | (go_at_call 38; (try simp only [List.length_map]); (with_reducible refine (bigTrim _ l A1 c1 _ (by omega) hr1 hbit (by simpa using Hcc.out) hmm).mono ?_); rintro e w2 ⟨l2, rfl, hk2, ht2, hv2, hb2⟩; have Hv2 := Lib.hid hv2; clear hv2; have Hk2 := Lib.hid hk2; clear hk2; obtain ⟨fc2, fg2, hc2, hf2, hz2⟩ := bget hb2))
  go_wp2_with fail
  all_goals
    have r0 : w2.cell? ⟨w.heap.size + 1 + 1, 0, none⟩ = some (.bool false) := by simp [go_sem, hc2, hc1, ↓IntWalk.iteOmega]
    have r1 : w2.cell? ⟨w.heap.size + 1 + 1, 1, none⟩ = some (.slice none 0 0) := by simp [go_sem, hc2, hc1, ↓IntWalk.iteOmega]
    have hval2 : val l = iabs (a + b) := by rw [Hval.out, ← HN.out, HA.out.val, HB.out.val]
    have hl2 := trim_len Hk2.out
    have hs := HSG.out _ hval2
    have hB := trim_big (hr1.keep hb2) hbit Hk2.out ht2 Hv2.out hval2 (by simpa using Hcc.out) hmm hs.symm
    refine bodyPost_ret (v := .agg #[.bool (false && decide (0 < val l)), .slice A1 l2.length c1]) (by simp [results, Try.results20, go_sem, r0, r1]; try rfl) rfl ⟨_, A1, l2, c1, rfl, (hB.far r0 (by simp) _).far ((World.cell?_setCell_other _ _ _ _ (by simp)).trans r1) (by simp) _, by omega, ?_⟩
    (repeat' (first | (with_reducible exact Below.refl _ _) | (with_reducible assumption) | (with_reducible refine Below.alloc ?_ ?_ _) | (with_reducible refine Below.setCell ?_ ?_ _) | (with_reducible refine Below.drew ?_) | (with_reducible refine below_drewN ?_ _) | (with_reducible refine below_via ?_ (by with_reducible assumption) ?_) | omega | (simp; done) | (simp; omega)))
set_option maxRecDepth 100000 in
set_option maxHeartbeats 2000000 in
theorem bigAdd_false_true_less (a b : Int) (hsa : decide (a < 0) = false) (hsb : decide (b < 0) = true) (hlt : iabs a < iabs b) (la lb : List Int) (A B : Option Addr) (c d L : Nat) (w : World) (hL : L ≤ 1000000) (hla : la.length ≤ L) (hlb : lb.length ≤ L) (ha : IsBig w a false A la c) (hb : IsBig w b true B lb d) :
    Calls Try.prog 20 #[.agg #[.bool false, .slice A la.length c], .agg #[.bool true, .slice B lb.length d]] w (BigPost w (a + b) (L + 1)) := by
  have fa := pos_of_pos hsa
  have fb := pos_of_neg hsb
  have hn : iabs b - iabs a = iabs (a + b) := by unfold iabs at *; split at * <;> omega
  have hsg : ∀ x : Int, x = iabs (a + b) → decide (a + b < 0) = (true && decide (0 < x)) := by
    intro x hx
    rw [hx, Bool.eq_iff_iff]; simp; unfold iabs at *; split at * <;> omega
  have HN := Lib.hid hn
  have HSG := Lib.hid hsg
  have HA := Lib.hid ha
  have HB := Lib.hid hb
  have hd : decide (val la < val lb) = true := by rw [ha.val, hb.val]; simpa using hlt
  have hvv : val la ≤ val lb := by rw [ha.val, hb.val]; omega
  have hll := len_of_lt ha.bit hb.bit ha.top hvv
  have HVV := Lib.hid hvv
  clear hvv hlt
  clear hn hsg ha hb hsa hsb fa fb
  go_enter Try.func20, Try.ntmps20
  go_wp2_with (go_at_call 39; (with_reducible refine (bigLess la lb A B c d _ (by omega) (by omega) (HA.out.rd.keep (by (repeat' (first | (with_reducible exact Below.refl _ _) | (with_reducible assumption) | (with_reducible refine Below.alloc ?_ ?_ _) | (with_reducible refine Below.setCell ?_ ?_ _) | (with_reducible refine Below.drew ?_) | (with_reducible refine below_drewN ?_ _) | (with_reducible refine below_via ?_ (by with_reducible assumption) ?_) | omega | (simp; done) | (simp; omega))))) (HB.out.rd.keep (by (repeat' (first | (with_reducible exact Below.refl _ _) | (with_reducible assumption) | (with_reducible refine Below.alloc ?_ ?_ _) | (with_reducible refine Below.setCell ?_ ?_ _) | (with_reducible refine Below.drew ?_) | (with_reducible refine below_drewN ?_ _) | (with_reducible refine below_via ?_ (by with_reducible assumption) ?_) | omega | (simp; done) | (simp; omega))))) HA.out.bit HB.out.bit HA.out.top HB.out.top).mono ?_); rintro e w0 ⟨rfl, hb0⟩; rw [hd]; obtain ⟨fc0, fg0, hc0, hf0, hz0⟩ := bget hb0; simp at hz0)
  go_region_held3 (fun w' => w'.cell? ⟨w.heap.size, 0, none⟩ = some (.bool false) ∧ w'.cell? ⟨w.heap.size, 1, none⟩ = some (.slice A la.length c) ∧ w'.cell? ⟨w.heap.size + 1, 0, none⟩ = some (.bool true) ∧ w'.cell? ⟨w.heap.size + 1, 1, none⟩ = some (.slice B lb.length d)) (first | (simp [go_sem]; done) | (repeat' (first | (with_reducible assumption) | (with_reducible refine And.intro ?_ ?_) | (with_reducible refine cell_drew ?_) | (with_reducible refine cell_via (by with_reducible assumption) ?_ ?_) | (simp [*]; done) | (simp [go_sem]; done) | (with_reducible refine cell_alloc ?_ ?_) | (with_reducible refine cell_set_far ?_ ?_) | omega | (simp; omega)))) (first | (go_at_call 40; (with_reducible refine (bigMinus lb la B A d c _ (by omega) hll (HB.out.rd.keep (by (repeat' (first | (with_reducible exact Below.refl _ _) | (with_reducible assumption) | (with_reducible refine Below.alloc ?_ ?_ _) | (with_reducible refine Below.setCell ?_ ?_ _) | (with_reducible refine Below.drew ?_) | (with_reducible refine below_drewN ?_ _) | (with_reducible refine below_via ?_ (by with_reducible assumption) ?_) | omega | (simp; done) | (simp; omega))))) (HA.out.rd.keep (by (repeat' (first | (with_reducible exact Below.refl _ _) | (with_reducible assumption) | (with_reducible refine Below.alloc ?_ ?_ _) | (with_reducible refine Below.setCell ?_ ?_ _) | (with_reducible refine Below.drew ?_) | (with_reducible refine below_drewN ?_ _) | (with_reducible refine below_via ?_ (by with_reducible assumption) ?_) | omega | (simp; done) | (simp; omega))))) HB.out.bit HA.out.bit HVV.out).mono ?_); rintro e w1 ⟨v, l, rfl, hown, hb1, hbit, hval, hlen⟩; have hl1 : l.length ≤ L + 1 := (by omega); clear hlen; obtain ⟨A1, c1, rfl, hcc, hmm, hr1, _⟩ := hown.shape; have Hval := Lib.hid hval; clear hval; have Hcc := Lib.hid hcc; clear hcc; obtain ⟨fc1, fg1, hc1, hf1, hz1⟩ := bget hb1; simp at hz1) | (go_at_call 38; (try simp only [List.length_map]); (with_reducible refine (bigTrim _ l A1 c1 _ (by omega) hr1 hbit (by simpa using Hcc.out) hmm).mono ?_); rintro e w2 ⟨l2, rfl, hk2, ht2, hv2, hb2⟩; have Hv2 := Lib.hid hv2; clear hv2; have Hk2 := Lib.hid hk2; clear hk2; obtain ⟨fc2, fg2, hc2, hf2, hz2⟩ := bget hb2))
  go_wp2_with fail
  all_goals
    have r0 : w2.cell? ⟨w.heap.size + 1 + 1, 0, none⟩ = some (.bool false) := by simp [go_sem, hc2, hc1, hc0, ↓IntWalk.iteOmega]
    have r1 : w2.cell? ⟨w.heap.size + 1 + 1, 1, none⟩ = some (.slice none 0 0) := by simp [go_sem, hc2, hc1, hc0, ↓IntWalk.iteOmega]
    have hval2 : val l = iabs (a + b) := by rw [Hval.out, ← HN.out, HA.out.val, HB.out.val]
    have hl2 := trim_len Hk2.out
    have hs := HSG.out _ hval2
    have hB := trim_big (hr1.keep hb2) hbit Hk2.out ht2 Hv2.out hval2 (by simpa using Hcc.out) hmm hs.symm
    refine bodyPost_ret (v := .agg #[.bool (true && decide (0 < val l)), .slice A1 l2.length c1]) (by simp [results, Try.results20, go_sem, r0, r1]; try rfl) rfl ⟨_, A1, l2, c1, rfl, (hB.far r0 (by simp) _).far ((World.cell?_setCell_other _ _ _ _ (by simp)).trans r1) (by simp) _, by omega, ?_⟩
    (repeat' (first | (with_reducible exact Below.refl _ _) | (with_reducible assumption) | (with_reducible refine Below.alloc ?_ ?_ _) | (with_reducible refine Below.setCell ?_ ?_ _) | (with_reducible refine Below.drew ?_) | (with_reducible refine below_drewN ?_ _) | (with_reducible refine below_via ?_ (by with_reducible assumption) ?_) | omega | (simp; done) | (simp; omega)))
set_option maxRecDepth 100000 in
set_option maxHeartbeats 2000000 in
theorem bigAdd_false_true_more (a b : Int) (hsa : decide (a < 0) = false) (hsb : decide (b < 0) = true) (hlt : ¬ iabs a < iabs b) (la lb : List Int) (A B : Option Addr) (c d L : Nat) (w : World) (hL : L ≤ 1000000) (hla : la.length ≤ L) (hlb : lb.length ≤ L) (ha : IsBig w a false A la c) (hb : IsBig w b true B lb d) :
    Calls Try.prog 20 #[.agg #[.bool false, .slice A la.length c], .agg #[.bool true, .slice B lb.length d]] w (BigPost w (a + b) (L + 1)) := by
  have fa := pos_of_pos hsa
  have fb := pos_of_neg hsb
  have hn : iabs a - iabs b = iabs (a + b) := by unfold iabs at *; split at * <;> omega
  have hsg : ∀ x : Int, x = iabs (a + b) → decide (a + b < 0) = (false && decide (0 < x)) := by
    intro x hx
    rw [hx, Bool.eq_iff_iff]; simp; unfold iabs at *; split at * <;> omega
  have HN := Lib.hid hn
  have HSG := Lib.hid hsg
  have HA := Lib.hid ha
  have HB := Lib.hid hb
  have hd : decide (val la < val lb) = false := by rw [ha.val, hb.val]; simpa using hlt
  have hvv : val lb ≤ val la := by rw [ha.val, hb.val]; omega
  have hll := len_of_lt hb.bit ha.bit hb.top hvv
  have HVV := Lib.hid hvv
  clear hvv hlt
  clear hn hsg ha hb hsa hsb fa fb
  go_enter Try.func20, Try.ntmps20
  go_wp2_with (go_at_call 39; (with_reducible refine (bigLess la lb A B c d _ (by omega) (by omega) (HA.out.rd.keep (by (repeat' (first | (with_reducible exact Below.refl _ _) | (with_reducible assumption) | (with_reducible refine Below.alloc ?_ ?_ _) | (with_reducible refine Below.setCell ?_ ?_ _) | (with_reducible refine Below.drew ?_) | (with_reducible refine below_drewN ?_ _) | (with_reducible refine below_via ?_ (by with_reducible assumption) ?_) | omega | (simp; done) | (simp; omega))))) (HB.out.rd.keep (by (repeat' (first | (with_reducible exact Below.refl _ _) | (with_reducible assumption) | (with_reducible refine Below.alloc ?_ ?_ _) | (with_reducible refine Below.setCell ?_ ?_ _) | (with_reducible refine Below.drew ?_) | (with_reducible refine below_drewN ?_ _) | (with_reducible refine below_via ?_ (by with_reducible assumption) ?_) | omega | (simp; done) | (simp; omega))))) HA.out.bit HB.out.bit HA.out.top HB.out.top).mono ?_); rintro e w0 ⟨rfl, hb0⟩; rw [hd]; obtain ⟨fc0, fg0, hc0, hf0, hz0⟩ := bget hb0; simp at hz0)
  go_region_held3 (fun w' => w'.cell? ⟨w.heap.size, 0, none⟩ = some (.bool false) ∧ w'.cell? ⟨w.heap.size, 1, none⟩ = some (.slice A la.length c) ∧ w'.cell? ⟨w.heap.size + 1, 0, none⟩ = some (.bool true) ∧ w'.cell? ⟨w.heap.size + 1, 1, none⟩ = some (.slice B lb.length d)) (first | (simp [go_sem]; done) | (repeat' (first | (with_reducible assumption) | (with_reducible refine And.intro ?_ ?_) | (with_reducible refine cell_drew ?_) | (with_reducible refine cell_via (by with_reducible assumption) ?_ ?_) | (simp [*]; done) | (simp [go_sem]; done) | (with_reducible refine cell_alloc ?_ ?_) | (with_reducible refine cell_set_far ?_ ?_) | omega | (simp; omega)))) (first | (go_at_call 40; (with_reducible refine (bigMinus la lb A B c d _ (by omega) hll (HA.out.rd.keep (by (repeat' (first | (with_reducible exact Below.refl _ _) | (with_reducible assumption) | (with_reducible refine Below.alloc ?_ ?_ _) | (with_reducible refine Below.setCell ?_ ?_ _) | (with_reducible refine Below.drew ?_) | (with_reducible refine below_drewN ?_ _) | (with_reducible refine below_via ?_ (by with_reducible assumption) ?_) | omega | (simp; done) | (simp; omega))))) (HB.out.rd.keep (by (repeat' (first | (with_reducible exact Below.refl _ _) | (with_reducible assumption) | (with_reducible refine Below.alloc ?_ ?_ _) | (with_reducible refine Below.setCell ?_ ?_ _) | (with_reducible refine Below.drew ?_) | (with_reducible refine below_drewN ?_ _) | (with_reducible refine below_via ?_ (by with_reducible assumption) ?_) | omega | (simp; done) | (simp; omega))))) HA.out.bit HB.out.bit HVV.out).mono ?_); rintro e w1 ⟨v, l, rfl, hown, hb1, hbit, hval, hlen⟩; have hl1 : l.length ≤ L + 1 := (by omega); clear hlen; obtain ⟨A1, c1, rfl, hcc, hmm, hr1, _⟩ := hown.shape; have Hval := Lib.hid hval; clear hval; have Hcc := Lib.hid hcc; clear hcc; obtain ⟨fc1, fg1, hc1, hf1, hz1⟩ := bget hb1; simp at hz1) | (go_at_call 38; (try simp only [List.length_map]); (with_reducible refine (bigTrim _ l A1 c1 _ (by omega) hr1 hbit (by simpa using Hcc.out) hmm).mono ?_); rintro e w2 ⟨l2, rfl, hk2, ht2, hv2, hb2⟩; have Hv2 := Lib.hid hv2; clear hv2; have Hk2 := Lib.hid hk2; clear hk2; obtain ⟨fc2, fg2, hc2, hf2, hz2⟩ := bget hb2))
  go_wp2_with fail
  all_goals
    have r0 : w2.cell? ⟨w.heap.size + 1 + 1, 0, none⟩ = some (.bool false) := by simp [go_sem, hc2, hc1, hc0, ↓IntWalk.iteOmega]
    have r1 : w2.cell? ⟨w.heap.size + 1 + 1, 1, none⟩ = some (.slice none 0 0) := by simp [go_sem, hc2, hc1, hc0, ↓IntWalk.iteOmega]
    have hval2 : val l = iabs (a + b) := by rw [Hval.out, ← HN.out, HA.out.val, HB.out.val]
    have hl2 := trim_len Hk2.out
    have hs := HSG.out _ hval2
    have hB := trim_big (hr1.keep hb2) hbit Hk2.out ht2 Hv2.out hval2 (by simpa using Hcc.out) hmm hs.symm
    refine bodyPost_ret (v := .agg #[.bool (false && decide (0 < val l)), .slice A1 l2.length c1]) (by simp [results, Try.results20, go_sem, r0, r1]; try rfl) rfl ⟨_, A1, l2, c1, rfl, (hB.far r0 (by simp) _).far ((World.cell?_setCell_other _ _ _ _ (by simp)).trans r1) (by simp) _, by omega, ?_⟩
    (repeat' (first | (with_reducible exact Below.refl _ _) | (with_reducible assumption) | (with_reducible refine Below.alloc ?_ ?_ _) | (with_reducible refine Below.setCell ?_ ?_ _) | (with_reducible refine Below.drew ?_) | (with_reducible refine below_drewN ?_ _) | (with_reducible refine below_via ?_ (by with_reducible assumption) ?_) | omega | (simp; done) | (simp; omega)))
set_option maxRecDepth 100000 in
set_option maxHeartbeats 2000000 in
theorem bigAdd_true_false_less (a b : Int) (hsa : decide (a < 0) = true) (hsb : decide (b < 0) = false) (hlt : iabs a < iabs b) (la lb : List Int) (A B : Option Addr) (c d L : Nat) (w : World) (hL : L ≤ 1000000) (hla : la.length ≤ L) (hlb : lb.length ≤ L) (ha : IsBig w a true A la c) (hb : IsBig w b false B lb d) :
    Calls Try.prog 20 #[.agg #[.bool true, .slice A la.length c], .agg #[.bool false, .slice B lb.length d]] w (BigPost w (a + b) (L + 1)) := by
  have fa := pos_of_neg hsa
  have fb := pos_of_pos hsb
  have hn : iabs b - iabs a = iabs (a + b) := by unfold iabs at *; split at * <;> omega
  have hsg : ∀ x : Int, x = iabs (a + b) → decide (a + b < 0) = (false && decide (0 < x)) := by
    intro x hx
    rw [hx, Bool.eq_iff_iff]; simp; unfold iabs at *; split at * <;> omega
  have HN := Lib.hid hn
  have HSG := Lib.hid hsg
  have HA := Lib.hid ha
  have HB := Lib.hid hb
  have hd : decide (val la < val lb) = true := by rw [ha.val, hb.val]; simpa using hlt
  have hvv : val la ≤ val lb := by rw [ha.val, hb.val]; omega
  have hll := len_of_lt ha.bit hb.bit ha.top hvv
  have HVV := Lib.hid hvv
  clear hvv hlt
  clear hn hsg ha hb hsa hsb fa fb
  go_enter Try.func20, Try.ntmps20
  go_wp2_with (go_at_call 39; (with_reducible refine (bigLess la lb A B c d _ (by omega) (by omega) (HA.out.rd.keep (by (repeat' (first | (with_reducible exact Below.refl _ _) | (with_reducible assumption) | (with_reducible refine Below.alloc ?_ ?_ _) | (with_reducible refine Below.setCell ?_ ?_ _) | (with_reducible refine Below.drew ?_) | (with_reducible refine below_drewN ?_ _) | (with_reducible refine below_via ?_ (by with_reducible assumption) ?_) | omega | (simp; done) | (simp; omega))))) (HB.out.rd.keep (by (repeat' (first | (with_reducible exact Below.refl _ _) | (with_reducible assumption) | (with_reducible refine Below.alloc ?_ ?_ _) | (with_reducible refine Below.setCell ?_ ?_ _) | (with_reducible refine Below.drew ?_) | (with_reducible refine below_drewN ?_ _) | (with_reducible refine below_via ?_ (by with_reducible assumption) ?_) | omega | (simp; done) | (simp; omega))))) HA.out.bit HB.out.bit HA.out.top HB.out.top).mono ?_); rintro e w0 ⟨rfl, hb0⟩; rw [hd]; obtain ⟨fc0, fg0, hc0, hf0, hz0⟩ := bget hb0; simp at hz0)
  go_region_held3 (fun w' => w'.cell? ⟨w.heap.size, 0, none⟩ = some (.bool true) ∧ w'.cell? ⟨w.heap.size, 1, none⟩ = some (.slice A la.length c) ∧ w'.cell? ⟨w.heap.size + 1, 0, none⟩ = some (.bool false) ∧ w'.cell? ⟨w.heap.size + 1, 1, none⟩ = some (.slice B lb.length d)) (first | (simp [go_sem]; done) | (repeat' (first | (with_reducible assumption) | (with_reducible refine And.intro ?_ ?_) | (with_reducible refine cell_drew ?_) | (with_reducible refine cell_via (by with_reducible assumption) ?_ ?_) | (simp [*]; done) | (simp [go_sem]; done) | (with_reducible refine cell_alloc ?_ ?_) | (with_reducible refine cell_set_far ?_ ?_) | omega | (simp; omega)))) (first | (go_at_call 40; (with_reducible refine (bigMinus lb la B A d c _ (by omega) hll (HB.out.rd.keep (by (repeat' (first | (with_reducible exact Below.refl _ _) | (with_reducible assumption) | (with_reducible refine Below.alloc ?_ ?_ _) | (with_reducible refine Below.setCell ?_ ?_ _) | (with_reducible refine Below.drew ?_) | (with_reducible refine below_drewN ?_ _) | (with_reducible refine below_via ?_ (by with_reducible assumption) ?_) | omega | (simp; done) | (simp; omega))))) (HA.out.rd.keep (by (repeat' (first | (with_reducible exact Below.refl _ _) | (with_reducible assumption) | (with_reducible refine Below.alloc ?_ ?_ _) | (with_reducible refine Below.setCell ?_ ?_ _) | (with_reducible refine Below.drew ?_) | (with_reducible refine below_drewN ?_ _) | (with_reducible refine below_via ?_ (by with_reducible assumption) ?_) | omega | (simp; done) | (simp; omega))))) HB.out.bit HA.out.bit HVV.out).mono ?_); rintro e w1 ⟨v, l, rfl, hown, hb1, hbit, hval, hlen⟩; have hl1 : l.length ≤ L + 1 := (by omega); clear hlen; obtain ⟨A1, c1, rfl, hcc, hmm, hr1, _⟩ := hown.shape; have Hval := Lib.hid hval; clear hval; have Hcc := Lib.hid hcc; clear hcc; obtain ⟨fc1, fg1, hc1, hf1, hz1⟩ := bget hb1; simp at hz1) | (go_at_call 38; (try simp only [List.length_map]); (with_reducible refine (bigTrim _ l A1 c1 _ (by omega) hr1 hbit (by simpa using Hcc.out) hmm).mono ?_); rintro e w2 ⟨l2, rfl, hk2, ht2, hv2, hb2⟩; have Hv2 := Lib.hid hv2; clear hv2; have Hk2 := Lib.hid hk2; clear hk2; obtain ⟨fc2, fg2, hc2, hf2, hz2⟩ := bget hb2))
  go_wp2_with fail
  all_goals
    have r0 : w2.cell? ⟨w.heap.size + 1 + 1, 0, none⟩ = some (.bool false) := by simp [go_sem, hc2, hc1, hc0, ↓IntWalk.iteOmega]
    have r1 : w2.cell? ⟨w.heap.size + 1 + 1, 1, none⟩ = some (.slice none 0 0) := by simp [go_sem, hc2, hc1, hc0, ↓IntWalk.iteOmega]
    have hval2 : val l = iabs (a + b) := by rw [Hval.out, ← HN.out, HA.out.val, HB.out.val]
    have hl2 := trim_len Hk2.out
    have hs := HSG.out _ hval2
    have hB := trim_big (hr1.keep hb2) hbit Hk2.out ht2 Hv2.out hval2 (by simpa using Hcc.out) hmm hs.symm
    refine bodyPost_ret (v := .agg #[.bool (false && decide (0 < val l)), .slice A1 l2.length c1]) (by simp [results, Try.results20, go_sem, r0, r1]; try rfl) rfl ⟨_, A1, l2, c1, rfl, (hB.far r0 (by simp) _).far ((World.cell?_setCell_other _ _ _ _ (by simp)).trans r1) (by simp) _, by omega, ?_⟩
    (repeat' (first | (with_reducible exact Below.refl _ _) | (with_reducible assumption) | (with_reducible refine Below.alloc ?_ ?_ _) | (with_reducible refine Below.setCell ?_ ?_ _) | (with_reducible refine Below.drew ?_) | (with_reducible refine below_drewN ?_ _) | (with_reducible refine below_via ?_ (by with_reducible assumption) ?_) | omega | (simp; done) | (simp; omega)))
set_option maxRecDepth 100000 in
set_option maxHeartbeats 2000000 in
theorem bigAdd_true_false_more (a b : Int) (hsa : decide (a < 0) = true) (hsb : decide (b < 0) = false) (hlt : ¬ iabs a < iabs b) (la lb : List Int) (A B : Option Addr) (c d L : Nat) (w : World) (hL : L ≤ 1000000) (hla : la.length ≤ L) (hlb : lb.length ≤ L) (ha : IsBig w a true A la c) (hb : IsBig w b false B lb d) :
    Calls Try.prog 20 #[.agg #[.bool true, .slice A la.length c], .agg #[.bool false, .slice B lb.length d]] w (BigPost w (a + b) (L + 1)) := by
  have fa := pos_of_neg hsa
  have fb := pos_of_pos hsb
  have hn : iabs a - iabs b = iabs (a + b) := by unfold iabs at *; split at * <;> omega
  have hsg : ∀ x : Int, x = iabs (a + b) → decide (a + b < 0) = (true && decide (0 < x)) := by
    intro x hx
    rw [hx, Bool.eq_iff_iff]; simp; unfold iabs at *; split at * <;> omega
  have HN := Lib.hid hn
  have HSG := Lib.hid hsg
  have HA := Lib.hid ha
  have HB := Lib.hid hb
  have hd : decide (val la < val lb) = false := by rw [ha.val, hb.val]; simpa using hlt
  have hvv : val lb ≤ val la := by rw [ha.val, hb.val]; omega
  have hll := len_of_lt hb.bit ha.bit hb.top hvv
  have HVV := Lib.hid hvv
  clear hvv hlt
  clear hn hsg ha hb hsa hsb fa fb
  go_enter Try.func20, Try.ntmps20
  go_wp2_with (go_at_call 39; (with_reducible refine (bigLess la lb A B c d _ (by omega) (by omega) (HA.out.rd.keep (by (repeat' (first | (with_reducible exact Below.refl _ _) | (with_reducible assumption) | (with_reducible refine Below.alloc ?_ ?_ _) | (with_reducible refine Below.setCell ?_ ?_ _) | (with_reducible refine Below.drew ?_) | (with_reducible refine below_drewN ?_ _) | (with_reducible refine below_via ?_ (by with_reducible assumption) ?_) | omega | (simp; done) | (simp; omega))))) (HB.out.rd.keep (by (repeat' (first | (with_reducible exact Below.refl _ _) | (with_reducible assumption) | (with_reducible refine Below.alloc ?_ ?_ _) | (with_reducible refine Below.setCell ?_ ?_ _) | (with_reducible refine Below.drew ?_) | (with_reducible refine below_drewN ?_ _) | (with_reducible refine below_via ?_ (by with_reducible assumption) ?_) | omega | (simp; done) | (simp; omega))))) HA.out.bit HB.out.bit HA.out.top HB.out.top).mono ?_); rintro e w0 ⟨rfl, hb0⟩; rw [hd]; obtain ⟨fc0, fg0, hc0, hf0, hz0⟩ := bget hb0; simp at hz0)
  go_region_held3 (fun w' => w'.cell? ⟨w.heap.size, 0, none⟩ = some (.bool true) ∧ w'.cell? ⟨w.heap.size, 1, none⟩ = some (.slice A la.length c) ∧ w'.cell? ⟨w.heap.size + 1, 0, none⟩ = some (.bool false) ∧ w'.cell? ⟨w.heap.size + 1, 1, none⟩ = some (.slice B lb.length d)) (first | (simp [go_sem]; done) | (repeat' (first | (with_reducible assumption) | (with_reducible refine And.intro ?_ ?_) | (with_reducible refine cell_drew ?_) | (with_reducible refine cell_via (by with_reducible assumption) ?_ ?_) | (simp [*]; done) | (simp [go_sem]; done) | (with_reducible refine cell_alloc ?_ ?_) | (with_reducible refine cell_set_far ?_ ?_) | omega | (simp; omega)))) (first | (go_at_call 40; (with_reducible refine (bigMinus la lb A B c d _ (by omega) hll (HA.out.rd.keep (by (repeat' (first | (with_reducible exact Below.refl _ _) | (with_reducible assumption) | (with_reducible refine Below.alloc ?_ ?_ _) | (with_reducible refine Below.setCell ?_ ?_ _) | (with_reducible refine Below.drew ?_) | (with_reducible refine below_drewN ?_ _) | (with_reducible refine below_via ?_ (by with_reducible assumption) ?_) | omega | (simp; done) | (simp; omega))))) (HB.out.rd.keep (by (repeat' (first | (with_reducible exact Below.refl _ _) | (with_reducible assumption) | (with_reducible refine Below.alloc ?_ ?_ _) | (with_reducible refine Below.setCell ?_ ?_ _) | (with_reducible refine Below.drew ?_) | (with_reducible refine below_drewN ?_ _) | (with_reducible refine below_via ?_ (by with_reducible assumption) ?_) | omega | (simp; done) | (simp; omega))))) HA.out.bit HB.out.bit HVV.out).mono ?_); rintro e w1 ⟨v, l, rfl, hown, hb1, hbit, hval, hlen⟩; have hl1 : l.length ≤ L + 1 := (by omega); clear hlen; obtain ⟨A1, c1, rfl, hcc, hmm, hr1, _⟩ := hown.shape; have Hval := Lib.hid hval; clear hval; have Hcc := Lib.hid hcc; clear hcc; obtain ⟨fc1, fg1, hc1, hf1, hz1⟩ := bget hb1; simp at hz1) | (go_at_call 38; (try simp only [List.length_map]); (with_reducible refine (bigTrim _ l A1 c1 _ (by omega) hr1 hbit (by simpa using Hcc.out) hmm).mono ?_); rintro e w2 ⟨l2, rfl, hk2, ht2, hv2, hb2⟩; have Hv2 := Lib.hid hv2; clear hv2; have Hk2 := Lib.hid hk2; clear hk2; obtain ⟨fc2, fg2, hc2, hf2, hz2⟩ := bget hb2))
  go_wp2_with fail
  all_goals
    have r0 : w2.cell? ⟨w.heap.size + 1 + 1, 0, none⟩ = some (.bool false) := by simp [go_sem, hc2, hc1, hc0, ↓IntWalk.iteOmega]
    have r1 : w2.cell? ⟨w.heap.size + 1 + 1, 1, none⟩ = some (.slice none 0 0) := by simp [go_sem, hc2, hc1, hc0, ↓IntWalk.iteOmega]
    have hval2 : val l = iabs (a + b) := by rw [Hval.out, ← HN.out, HA.out.val, HB.out.val]
    have hl2 := trim_len Hk2.out
    have hs := HSG.out _ hval2
    have hB := trim_big (hr1.keep hb2) hbit Hk2.out ht2 Hv2.out hval2 (by simpa using Hcc.out) hmm hs.symm
    refine bodyPost_ret (v := .agg #[.bool (true && decide (0 < val l)), .slice A1 l2.length c1]) (by simp [results, Try.results20, go_sem, r0, r1]; try rfl) rfl ⟨_, A1, l2, c1, rfl, (hB.far r0 (by simp) _).far ((World.cell?_setCell_other _ _ _ _ (by simp)).trans r1) (by simp) _, by omega, ?_⟩
    (repeat' (first | (with_reducible exact Below.refl _ _) | (with_reducible assumption) | (with_reducible refine Below.alloc ?_ ?_ _) | (with_reducible refine Below.setCell ?_ ?_ _) | (with_reducible refine Below.drew ?_) | (with_reducible refine below_drewN ?_ _) | (with_reducible refine below_via ?_ (by with_reducible assumption) ?_) | omega | (simp; done) | (simp; omega)))
set_option maxRecDepth 100000 in
set_option maxHeartbeats 2000000 in
theorem bigAdd_true_true_plus (a b : Int) (hsa : decide (a < 0) = true) (hsb : decide (b < 0) = true) (la lb : List Int) (A B : Option Addr) (c d L : Nat) (w : World) (hL : L ≤ 1000000) (hla : la.length ≤ L) (hlb : lb.length ≤ L) (ha : IsBig w a true A la c) (hb : IsBig w b true B lb d) :
    Calls Try.prog 20 #[.agg #[.bool true, .slice A la.length c], .agg #[.bool true, .slice B lb.length d]] w (BigPost w (a + b) (L + 1)) := by
  have fa := pos_of_neg hsa
  have fb := pos_of_neg hsb
  have hn : iabs a + iabs b = iabs (a + b) := by unfold iabs at *; split at * <;> omega
  have hsg : ∀ x : Int, x = iabs (a + b) → decide (a + b < 0) = (true && decide (0 < x)) := by
    intro x hx
    rw [hx, Bool.eq_iff_iff]; simp; unfold iabs at *; split at * <;> omega
  have HN := Lib.hid hn
  have HSG := Lib.hid hsg
  have HA := Lib.hid ha
  have HB := Lib.hid hb
  clear hn hsg ha hb hsa hsb fa fb
  go_enter Try.func20, Try.ntmps20
  go_wp2_with fail
  go_region_held3 (fun w' => w'.cell? ⟨w.heap.size, 0, none⟩ = some (.bool true) ∧ w'.cell? ⟨w.heap.size, 1, none⟩ = some (.slice A la.length c) ∧ w'.cell? ⟨w.heap.size + 1, 0, none⟩ = some (.bool true) ∧ w'.cell? ⟨w.heap.size + 1, 1, none⟩ = some (.slice B lb.length d)) (first | (simp [go_sem]; done) | (repeat' (first | (with_reducible assumption) | (with_reducible refine And.intro ?_ ?_) | (with_reducible refine cell_drew ?_) | (with_reducible refine cell_via (by with_reducible assumption) ?_ ?_) | (simp [*]; done) | (simp [go_sem]; done) | (with_reducible refine cell_alloc ?_ ?_) | (with_reducible refine cell_set_far ?_ ?_) | omega | (simp; omega)))) (first | (go_at_call 34; (with_reducible refine (bigPlus la lb A B c d _ (by omega) (by omega) (HA.out.rd.keep (by (repeat' (first | (with_reducible exact Below.refl _ _) | (with_reducible assumption) | (with_reducible refine Below.alloc ?_ ?_ _) | (with_reducible refine Below.setCell ?_ ?_ _) | (with_reducible refine Below.drew ?_) | (with_reducible refine below_drewN ?_ _) | (with_reducible refine below_via ?_ (by with_reducible assumption) ?_) | omega | (simp; done) | (simp; omega))))) (HB.out.rd.keep (by (repeat' (first | (with_reducible exact Below.refl _ _) | (with_reducible assumption) | (with_reducible refine Below.alloc ?_ ?_ _) | (with_reducible refine Below.setCell ?_ ?_ _) | (with_reducible refine Below.drew ?_) | (with_reducible refine below_drewN ?_ _) | (with_reducible refine below_via ?_ (by with_reducible assumption) ?_) | omega | (simp; done) | (simp; omega))))) HA.out.bit HB.out.bit).mono ?_); rintro e w1 ⟨v, l, rfl, hown, hb1, hbit, hval, hlen⟩; have hl1 := plus_len hla hlb hlen; have hb0 : Below w.heap.size w w := Below.refl _ _; obtain ⟨A1, c1, rfl, hcc, hmm, hr1, _⟩ := hown.shape; have Hval := Lib.hid hval; clear hval; have Hcc := Lib.hid hcc; clear hcc; obtain ⟨fc1, fg1, hc1, hf1, hz1⟩ := bget hb1; simp at hz1) | (go_at_call 38; (try simp only [List.length_map]); (with_reducible refine (bigTrim _ l A1 c1 _ (by omega) hr1 hbit (by simpa using Hcc.out) hmm).mono ?_); rintro e w2 ⟨l2, rfl, hk2, ht2, hv2, hb2⟩; have Hv2 := Lib.hid hv2; clear hv2; have Hk2 := Lib.hid hk2; clear hk2; obtain ⟨fc2, fg2, hc2, hf2, hz2⟩ := bget hb2))
  go_wp2_with fail
  all_goals
    have r0 : w2.cell? ⟨w.heap.size + 1 + 1, 0, none⟩ = some (.bool false) := by simp [go_sem, hc2, hc1, ↓IntWalk.iteOmega]
    have r1 : w2.cell? ⟨w.heap.size + 1 + 1, 1, none⟩ = some (.slice none 0 0) := by simp [go_sem, hc2, hc1, ↓IntWalk.iteOmega]
    have hval2 : val l = iabs (a + b) := by rw [Hval.out, ← HN.out, HA.out.val, HB.out.val]
    have hl2 := trim_len Hk2.out
    have hs := HSG.out _ hval2
    have hB := trim_big (hr1.keep hb2) hbit Hk2.out ht2 Hv2.out hval2 (by simpa using Hcc.out) hmm hs.symm
    refine bodyPost_ret (v := .agg #[.bool (true && decide (0 < val l)), .slice A1 l2.length c1]) (by simp [results, Try.results20, go_sem, r0, r1]; try rfl) rfl ⟨_, A1, l2, c1, rfl, (hB.far r0 (by simp) _).far ((World.cell?_setCell_other _ _ _ _ (by simp)).trans r1) (by simp) _, by omega, ?_⟩
    (repeat' (first | (with_reducible exact Below.refl _ _) | (with_reducible assumption) | (with_reducible refine Below.alloc ?_ ?_ _) | (with_reducible refine Below.setCell ?_ ?_ _) | (with_reducible refine Below.drew ?_) | (with_reducible refine below_drewN ?_ _) | (with_reducible refine below_via ?_ (by with_reducible assumption) ?_) | omega | (simp; done) | (simp; omega)))
theorem bigAdd (a b : Int) (sa sb : Bool) (la lb : List Int) (A B : Option Addr) (c d L : Nat) (w : World) (hL : L ≤ 1000000) (hla : la.length ≤ L) (hlb : lb.length ≤ L) (ha : IsBig w a sa A la c) (hb : IsBig w b sb B lb d) :
    Calls Try.prog 20 #[.agg #[.bool sa, .slice A la.length c], .agg #[.bool sb, .slice B lb.length d]] w (BigPost w (a + b) (L + 1)) := by
  have e1 := ha.sgn.symm
  have e2 := hb.sgn.symm
  cases sa <;> cases sb
  · exact bigAdd_false_false_plus a b e1 e2 la lb A B c d L w hL hla hlb ha hb
  · by_cases h : iabs a < iabs b
    · exact bigAdd_false_true_less a b e1 e2 h la lb A B c d L w hL hla hlb ha hb
    · exact bigAdd_false_true_more a b e1 e2 h la lb A B c d L w hL hla hlb ha hb
  · by_cases h : iabs a < iabs b
    · exact bigAdd_true_false_less a b e1 e2 h la lb A B c d L w hL hla hlb ha hb
    · exact bigAdd_true_false_more a b e1 e2 h la lb A B c d L w hL hla hlb ha hb
  · exact bigAdd_true_true_plus a b e1 e2 la lb A B c d L w hL hla hlb ha hb
end Go.Proofs.Ytalgfpegaobacaa

/- Contracts of the reference's Neg, Sub, Cmp, Within, Fits, Int. -/
namespace Go.Proofs.Ytalgfpegaobacaa
open Go.RowKit
theorem big_zero {w : World} {s : Bool} {A : Option Addr} {l : List Int} {c : Nat} (h : IsBig w 0 s A l c) : l = [] := val_zero_top h.bit h.top h.val
theorem iabs_neg_eq (n : Int) : iabs (- n) = iabs n := by unfold iabs; split <;> split <;> omega
theorem neg_sgn {w : World} {a : Int} {s : Bool} {A : Option Addr} {l : List Int} {c : Nat} (h : IsBig w a s A l c) : (!s && decide (0 < Go.Proofs.Ytalgfpegaobacaa.val l)) = decide (- a < 0) := by
  rw [h.val, h.sgn, Bool.eq_iff_iff]; simp; unfold iabs; split <;> omega
set_option maxRecDepth 100000 in
set_option maxHeartbeats 2000000 in
theorem bigNeg (a : Int) (s : Bool) (la : List Int) (A : Option Addr) (c L : Nat) (w : World) (hL : L ≤ 1000000) (hla : la.length ≤ L) (ha : IsBig w a s A la c) :
    Calls Try.prog 60 #[.agg #[.bool s, .slice A la.length c]] w (BigPost w (- a) L) := by
  have HSG := Lib.hid (neg_sgn ha)
  have HA := Lib.hid ha
  clear ha
  go_enter Try.func60, Try.ntmps60
  go_wp2_with (go_at_call 38; (with_reducible refine (bigTrim _ la A c _ (by omega) (HA.out.rd.keep (by (repeat' (first | (with_reducible exact Below.refl _ _) | (with_reducible assumption) | (with_reducible refine Below.alloc ?_ ?_ _) | (with_reducible refine Below.setCell ?_ ?_ _) | (with_reducible refine Below.drew ?_) | (with_reducible refine below_drewN ?_ _) | (with_reducible refine below_via ?_ (by with_reducible assumption) ?_) | omega | (simp; done) | (simp; omega))))) HA.out.bit HA.out.cap HA.out.room).mono ?_); rintro e w2 ⟨l2, rfl, hk2, ht2, hv2, hb2⟩; have Hv2 := Lib.hid hv2; clear hv2; have Hk2 := Lib.hid hk2; clear hk2; obtain ⟨fc2, fg2, hc2, hf2, hz2⟩ := bget hb2; (try simp at hz2))
  have r0 : w2.cell? ⟨w.heap.size + 1, 0, none⟩ = some (.bool false) := by simp [go_sem, hc2]
  have r1 : w2.cell? ⟨w.heap.size + 1, 1, none⟩ = some (.slice none 0 0) := by simp [go_sem, hc2]
  have hB := trim_big ((HA.out.rd.keep (by (repeat' (first | (with_reducible exact Below.refl _ _) | (with_reducible assumption) | (with_reducible refine Below.alloc ?_ ?_ _) | (with_reducible refine Below.setCell ?_ ?_ _) | (with_reducible refine Below.drew ?_) | (with_reducible refine below_drewN ?_ _) | (with_reducible refine below_via ?_ (by with_reducible assumption) ?_) | omega | (simp; done) | (simp; omega))))).keep hb2) HA.out.bit Hk2.out ht2 Hv2.out (by rw [HA.out.val, ← iabs_neg_eq]) HA.out.cap HA.out.room HSG.out
  have hl2 := trim_len Hk2.out
  refine bodyPost_ret (v := .agg #[.bool (!s && decide (0 < Go.Proofs.Ytalgfpegaobacaa.val la)), .slice A l2.length c]) (by simp [results, Try.results60, go_sem, r0, r1]; try rfl) rfl ⟨_, A, l2, c, rfl, (hB.far r0 (by simp) _).far ((World.cell?_setCell_other _ _ _ _ (by simp)).trans r1) (by simp) _, by omega, ?_⟩
  (repeat' (first | (with_reducible exact Below.refl _ _) | (with_reducible assumption) | (with_reducible refine Below.alloc ?_ ?_ _) | (with_reducible refine Below.setCell ?_ ?_ _) | (with_reducible refine Below.drew ?_) | (with_reducible refine below_drewN ?_ _) | (with_reducible refine below_via ?_ (by with_reducible assumption) ?_) | omega | (simp; done) | (simp; omega)))
set_option maxRecDepth 100000 in
set_option maxHeartbeats 2000000 in
theorem bigSub (a b : Int) (sa sb : Bool) (la lb : List Int) (A B : Option Addr) (c d L : Nat) (w : World) (hL : L ≤ 1000000) (hla : la.length ≤ L) (hlb : lb.length ≤ L) (ha : IsBig w a sa A la c) (hb : IsBig w b sb B lb d) :
    Calls Try.prog 50 #[.agg #[.bool sa, .slice A la.length c], .agg #[.bool sb, .slice B lb.length d]] w (BigPost w (a - b) (L + 1)) := by
  have HA := Lib.hid ha
  have HB := Lib.hid hb
  clear ha hb
  rw [show a - b = a + - b from by omega]
  go_enter Try.func50, Try.ntmps50
  go_wp2_with fail
  go_region_held3 (fun w' => w'.cell? ⟨w.heap.size, 0, none⟩ = some (.bool sa) ∧ w'.cell? ⟨w.heap.size, 1, none⟩ = some (.slice A la.length c) ∧ w'.cell? ⟨w.heap.size + 1, 0, none⟩ = some (.bool sb) ∧ w'.cell? ⟨w.heap.size + 1, 1, none⟩ = some (.slice B lb.length d)) (first | (simp [go_sem]; done) | (repeat' (first | (with_reducible assumption) | (with_reducible refine And.intro ?_ ?_) | (with_reducible refine cell_drew ?_) | (with_reducible refine cell_via (by with_reducible assumption) ?_ ?_) | (simp [*]; done) | (simp [go_sem]; done) | (with_reducible refine cell_alloc ?_ ?_) | (with_reducible refine cell_set_far ?_ ?_) | omega | (simp; omega)))) (first | (go_at_call 60; (with_reducible refine (bigNeg b sb lb B d L _ hL hlb (HB.out.keep (by (repeat' (first | (with_reducible exact Below.refl _ _) | (with_reducible assumption) | (with_reducible refine Below.alloc ?_ ?_ _) | (with_reducible refine Below.setCell ?_ ?_ _) | (with_reducible refine Below.drew ?_) | (with_reducible refine below_drewN ?_ _) | (with_reducible refine below_via ?_ (by with_reducible assumption) ?_) | omega | (simp; done) | (simp; omega)))))).mono ?_); rintro e w1 ⟨s1, A1, l1, c1, rfl, hB1, hl1, hb1⟩; obtain ⟨fc1, fg1, hc1, hf1, hz1⟩ := bget hb1; simp at hz1) | (go_at_call 20; (with_reducible refine (bigAdd a (- b) sa s1 la l1 A A1 c c1 L _ hL hla hl1 (HA.out.keep (by (repeat' (first | (with_reducible exact Below.refl _ _) | (with_reducible assumption) | (with_reducible refine Below.alloc ?_ ?_ _) | (with_reducible refine Below.setCell ?_ ?_ _) | (with_reducible refine Below.drew ?_) | (with_reducible refine below_drewN ?_ _) | (with_reducible refine below_via ?_ (by with_reducible assumption) ?_) | omega | (simp; done) | (simp; omega))))) hB1).mono ?_); rintro e w2 ⟨s2, A2, l2, c2, rfl, hB2, hl2, hb2⟩; obtain ⟨fc2, fg2, hc2, hf2, hz2⟩ := bget hb2))
  go_wp2_with fail
  all_goals
    have r0 : w2.cell? ⟨w.heap.size + 1 + 1, 0, none⟩ = some (.bool false) := by simp [go_sem, hc2, hc1, ↓IntWalk.iteOmega]
    have r1 : w2.cell? ⟨w.heap.size + 1 + 1, 1, none⟩ = some (.slice none 0 0) := by simp [go_sem, hc2, hc1, ↓IntWalk.iteOmega]
    refine bodyPost_ret (v := .agg #[.bool s2, .slice A2 l2.length c2]) (by simp [results, Try.results50, go_sem, r0, r1]; try rfl) rfl ⟨s2, A2, l2, c2, rfl, (hB2.far r0 (by simp) _).far ((World.cell?_setCell_other _ _ _ _ (by simp)).trans r1) (by simp) _, hl2, ?_⟩
    (repeat' (first | (with_reducible exact Below.refl _ _) | (with_reducible assumption) | (with_reducible refine Below.alloc ?_ ?_ _) | (with_reducible refine Below.setCell ?_ ?_ _) | (with_reducible refine Below.drew ?_) | (with_reducible refine below_drewN ?_ _) | (with_reducible refine below_via ?_ (by with_reducible assumption) ?_) | omega | (simp; done) | (simp; omega)))
theorem big_len_pos {w : World} {n : Int} {s : Bool} {A : Option Addr} {l : List Int} {c : Nat} (h : IsBig w n s A l c) (hn : n ≠ 0) : 0 < l.length := by
  rcases Nat.eq_zero_or_pos l.length with h1 | h1
  · exfalso; apply hn
    have h2 := List.eq_nil_of_length_eq_zero h1
    have h3 := h.val
    rw [h2] at h3; simp [Go.Proofs.Ytalgfpegaobacaa.val] at h3; unfold iabs at h3; split at h3 <;> omega
  · exact h1
end Go.Proofs.Ytalgfpegaobacaa

/- A slice that reads as a list, whatever it holds. No program in sight. -/
namespace Go.Proofs.Ytalgfpegaobacaa
open Go.RowKit
/-- The slice (A, rows.length, c) reads as these rows of k cells each. -/
structure Rs (w : World) (k : Nat) (rows : List (List Value)) (A : Option Addr) (c : Nat) : Prop where
  rd : Rd w A k rows
  cap : rows.length ≤ c
  room : c ≤ maxLen
  nil : A = none → c = 0
section
variable {w w' : World} {k : Nat} {rows : List (List Value)} {A : Option Addr} {c : Nat}
theorem Rs.keep (h : Rs w k rows A c) (hb : Below w.heap.size w w') : Rs w' k rows A c := ⟨h.rd.keep hb, h.cap, h.room, h.nil⟩
theorem Rs.empty (w : World) (k : Nat) : Rs w k [] .none 0 := ⟨fun i r hr => by simp at hr, by simp, by simp, fun _ => rfl⟩
theorem Rs.nilrows (h : Rs w k rows .none c) : rows = [] := by
  have := h.nil rfl
  have h1 := h.cap
  exact List.eq_nil_of_length_eq_zero (by omega)
theorem Own.rs {base E : Nat} {v : Value} (h : Own w base E k v rows) : ∃ A c, v = .slice A rows.length c ∧ Rs w k rows A c ∧ ((A = .none ∧ rows = [] ∧ c = 0) ∨ ∃ g, A = some ⟨g, 0, .none⟩ ∧ base ≤ g ∧ g < w.heap.size) := by
  rcases h.2.2 with ⟨hv, h0⟩ | ⟨g, cap, cur, hv, hg, hh, hc, hm, hs, ht⟩
  · have : rows = [] := List.eq_nil_of_length_eq_zero h0
    subst this
    exact ⟨.none, 0, hv, Rs.empty _ _, .inl ⟨rfl, rfl, rfl⟩⟩
  · have hlt := (Array.getElem?_eq_some_iff.1 hh).1
    have hrd := h
    rw [hv] at hrd
    exact ⟨_, cap, hv, ⟨hrd.rd.1, hc, hm, fun e => by cases e⟩, .inr ⟨g, rfl, hg, hlt⟩⟩
end
theorem rd_take' {w : World} {A : Option Addr} {k : Nat} {rows : List (List Value)} (h : Rd w A k rows) (n : Nat) : Rd w A k (rows.take n) := by
  intro i r hr
  refine h i r ?_
  rw [List.getElem?_take] at hr
  split at hr
  · exact hr
  · cases hr
theorem Rs.take {w : World} {k : Nat} {rows : List (List Value)} {A : Option Addr} {c : Nat} (h : Rs w k rows A c) (n : Nat) : Rs w k (rows.take n) A c := ⟨rd_take' h.rd n, by have := h.cap; rw [List.length_take]; omega, h.room, h.nil⟩
theorem drop_cons' {α : Type} {l : List α} {k : Nat} (h : k < l.length) : l.drop k = l[k] :: l.drop (k + 1) := List.drop_eq_getElem_cons h
theorem drop_all {α : Type} {l : List α} {k : Nat} (h : l.length ≤ k) : l.drop k = [] := List.drop_eq_nil_of_le h
theorem map_snoc {α β : Type} {l : List α} {k : Nat} (h : k < l.length) (f : α → β) : (l.take (k + 1)).map f = (l.take k).map f ++ [f l[k]] := by
  rw [List.take_succ_eq_append_getElem h, List.map_append]; rfl
theorem getD_at {α : Type} {l : List α} {k : Nat} (h : k < l.length) (d : α) : l.getD k d = l[k] := by simp [List.getD_eq_getElem?_getD, h]
/-- Of 64 bits. -/
def in64 (n : Int) : Bool := decide (-9223372036854775808 ≤ n ∧ n ≤ 9223372036854775807)
theorem in64_iff {n : Int} : in64 n = true ↔ In64 n := by simp [in64, In64]
theorem in64_no {n : Int} (h : in64 n = false) : ¬ In64 n := fun h1 => by rw [in64_iff.2 h1] at h; cases h
/-- Two lists, place by place. -/
structure Each {α β : Type} (R : α → β → Prop) (us : List α) (bs : List β) : Prop where
  len : us.length = bs.length
  pt : ∀ (i : Nat) (a : α) (b : β), us[i]? = some a → bs[i]? = some b → R a b
theorem Each.nil {α β : Type} (R : α → β → Prop) : Each R [] [] := ⟨rfl, fun i a b h => by simp at h⟩
theorem Each.get {α β : Type} {R : α → β → Prop} {us : List α} {bs : List β} (h : Each R us bs) {i : Nat} (hi : i < bs.length) : ∃ a, us[i]? = some a ∧ R a bs[i] :=
  ⟨us[i]'(by rw [h.len]; exact hi), List.getElem?_eq_getElem _, h.pt i _ _ (List.getElem?_eq_getElem _) (List.getElem?_eq_getElem hi)⟩
theorem Each.imp {α β : Type} {R Q : α → β → Prop} {us : List α} {bs : List β} (h : Each R us bs) (f : ∀ a b, R a b → Q a b) : Each Q us bs := ⟨h.len, fun i a b h1 h2 => f a b (h.pt i a b h1 h2)⟩
theorem Each.take {α β : Type} {R : α → β → Prop} {us : List α} {bs : List β} (h : Each R us bs) (n : Nat) : Each R (us.take n) (bs.take n) := by
  refine ⟨by rw [List.length_take, List.length_take, h.len], fun i a b h1 h2 => ?_⟩
  rw [List.getElem?_take] at h1 h2
  split at h1
  · rename_i hi; rw [if_pos hi] at h2; exact h.pt i a b h1 h2
  · cases h1
theorem Each.append {α β : Type} {R : α → β → Prop} {us cs : List α} {bs ds : List β} (h : Each R us bs) (k : Each R cs ds) : Each R (us ++ cs) (bs ++ ds) := by
  refine ⟨by rw [List.length_append, List.length_append, h.len, k.len], fun i a b h1 h2 => ?_⟩
  rcases Nat.lt_or_ge i us.length with hi | hi
  · rw [List.getElem?_append_left hi] at h1
    rw [List.getElem?_append_left (by rw [← h.len]; exact hi)] at h2
    exact h.pt i a b h1 h2
  · rw [List.getElem?_append_right hi] at h1
    rw [List.getElem?_append_right (by rw [← h.len]; exact hi), ← h.len] at h2
    exact k.pt _ a b h1 h2
theorem Each.one {α β : Type} {R : α → β → Prop} {a : α} {b : β} (h : R a b) : Each R [a] [b] := by
  refine ⟨rfl, fun i x y h1 h2 => ?_⟩
  match i with
  | 0 => simp at h1 h2; subst h1 h2; exact h
  | i + 1 => simp at h1
/-- A slice of slices: what each reads as. -/
def IsSl {α : Type} (k : Nat) (enc : α → List Value) (w : World) (v : Value) (l : List α) : Prop := ∃ A c, v = .slice A l.length c ∧ Rs w k (l.map enc) A c
theorem IsSl.keep {α : Type} {k : Nat} {enc : α → List Value} {w w' : World} {v : Value} {l : List α} (h : IsSl k enc w v l) (hb : Below w.heap.size w w') : IsSl k enc w' v l := by
  obtain ⟨A, c, h1, h2⟩ := h
  exact ⟨A, c, h1, h2.keep hb⟩
theorem isl {α : Type} {k : Nat} {enc : α → List Value} {w : World} {l : List α} {A : Option Addr} {c : Nat} (h : Rs w k (l.map enc) A c) : IsSl k enc w (.slice A l.length c) l := ⟨A, c, rfl, h⟩
theorem IsSl.empty {α : Type} (k : Nat) (enc : α → List Value) (w : World) : IsSl k enc w (.slice .none 0 0) [] := ⟨.none, 0, rfl, Rs.empty _ _⟩
theorem Own.isSl {α : Type} {k base E : Nat} {enc : α → List Value} {w : World} {v : Value} {l : List α} (h : Own w base E k v (l.map enc)) : IsSl k enc w v l := by
  obtain ⟨A, c, h1, h2, _⟩ := h.rs
  rw [List.length_map] at h1
  exact ⟨A, c, h1, h2⟩
/-- One cell each. -/
def enc1 (v : Value) : List Value := [v]
/-- The slice (A, n, c) holds slices that read as ls. -/
structure RsS {α : Type} (k : Nat) (enc : α → List Value) (w : World) (ls : List (List α)) (A : Option Addr) (c : Nat) : Prop where
  ex : ∃ vs : List Value, Each (IsSl k enc w) vs ls ∧ Rs w 1 (vs.map enc1) A c
theorem RsS.keep {α : Type} {k : Nat} {enc : α → List Value} {w w' : World} {ls : List (List α)} {A : Option Addr} {c : Nat} (h : RsS k enc w ls A c) (hb : Below w.heap.size w w') : RsS k enc w' ls A c := by
  obtain ⟨vs, h1, h2⟩ := h.ex
  exact ⟨vs, h1.imp fun _ _ h => h.keep hb, h2.keep hb⟩
theorem RsS.row {α : Type} {k : Nat} {enc : α → List Value} {w : World} {ls : List (List α)} {A : Option Addr} {c : Nat} (h : RsS k enc w ls A c) {i : Nat} (hi : i < ls.length) :
    ∃ b o B d, A = some ⟨b, o, none⟩ ∧ b < w.heap.size ∧ w.cell? ⟨b, o + i, none⟩ = some (.slice B ls[i].length d) ∧ Rs w k (ls[i].map enc) B d := by
  obtain ⟨vs, h1, h2⟩ := h.ex
  obtain ⟨v, hv, B, d, rfl, hr⟩ := h1.get hi
  obtain ⟨b, o, hA, hb, hc⟩ := h2.rd i [.slice B ls[i].length d] (by rw [List.getElem?_map, hv]; rfl)
  exact ⟨b, o, B, d, hA, hb, by simpa using hc 0 _ rfl, hr⟩
end Go.Proofs.Ytalgfpegaobacaa
