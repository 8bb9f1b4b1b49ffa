/- Layer 3's laws: few, lives, ShareFair's walk. -/
import Derived.Test.YtenehpcliajdnaaShr5
namespace Go.Proofs.Ytenehpcliajdnaa
open Go.RowKit
set_option maxRecDepth 100000 in
set_option maxHeartbeats 8000000 in
theorem law03few (l : List Int) (A : Option Addr) (c : Nat) (w : World) (hlc : l.length ≤ c) (hcm : c ≤ maxLen) (hr : Rd w A 1 (l.map encI)) :
    Calls Try.prog 32 #[.slice A l.length c] w fun e w' => e = .returned (.slice A (l.take 30).length c) ∧ Below w.heap.size w w' := by
  unfold maxLen at hcm
  by_cases h : 30 < l.length
  · have HN := Lib.hid (show (l.take 30).length = 30 from by rw [List.length_take]; omega)
    have d1 : decide (30 < (l.length : Int)) = true := by simp; omega
    obtain ⟨b, o, rfl, hq⟩ := hr 0 (encI (l[0]'(by omega))) (by rw [List.getElem?_map, List.getElem?_eq_getElem (by omega)]; rfl)
    rw [HN.out]
    clear hq hr
    go_enter Try.func32, Try.ntmps32
    go_wp2_with fail
    all_goals
      go_ret
      exact ⟨rfl, by (repeat' (first | (with_reducible exact Below.refl _ _) | (with_reducible assumption) | (with_reducible refine Below.alloc ?_ ?_ _) | (with_reducible refine Below.setCell ?_ ?_ _) | (with_reducible refine Below.drew ?_) | (with_reducible refine below_drewN ?_ _) | (with_reducible refine below_via ?_ (by with_reducible assumption) ?_) | omega | (simp; done) | (simp; omega)))⟩
  · rw [List.take_of_length_le (by omega)]
    have d1 : decide (30 < (l.length : Int)) = false := by simp; omega
    clear hr
    go_enter Try.func32, Try.ntmps32
    go_wp2_with fail
    go_ret
    exact ⟨rfl, by (repeat' (first | (with_reducible exact Below.refl _ _) | (with_reducible assumption) | (with_reducible refine Below.alloc ?_ ?_ _) | (with_reducible refine Below.setCell ?_ ?_ _) | (with_reducible refine Below.drew ?_) | (with_reducible refine below_drewN ?_ _) | (with_reducible refine below_via ?_ (by with_reducible assumption) ?_) | omega | (simp; done) | (simp; omega)))⟩
theorem rd_threeS {w : World} {g : Nat} {x y z : Int} (hg : g < w.heap.size) (h0 : w.cell? ⟨g, 0, none⟩ = some (.int .i64 x)) (h1 : w.cell? ⟨g, 1, none⟩ = some (.int .i64 y)) (h2 : w.cell? ⟨g, 2, none⟩ = some (.int .i64 z)) : Rd w (some ⟨g, 0, none⟩) 1 ([x, y, z].map encI) := by
  intro i r hr
  refine ⟨g, 0, rfl, hg, fun j v hv => ?_⟩
  match i, hr with
  | 0, hr =>
    simp [encI] at hr
    subst hr
    match j, hv with
    | 0, hv => simp at hv; subst hv; exact h0
    | j + 1, hv => simp at hv
  | 1, hr =>
    simp [encI] at hr
    subst hr
    match j, hv with
    | 0, hv => simp at hv; subst hv; exact h1
    | j + 1, hv => simp at hv
  | 2, hr =>
    simp [encI] at hr
    subst hr
    match j, hv with
    | 0, hv => simp at hv; subst hv; exact h2
    | j + 1, hv => simp at hv
  | i + 3, hr => simp at hr
theorem live_split (A : Option Addr) (c : Nat) (w : World) (hr : Rd w A 1 ([1, 1, 1].map encI)) :
    Calls Try.prog 33 #[.int .i64 10, .slice A 3 c] w fun e w' => ∃ A1 c1, e = .returned (.tuple #[.slice A1 3 c1, .int .i64 0]) ∧ Rd w' A1 1 ([4, 3, 3].map encI) ∧ Below w.heap.size w w' := by
  have h := shrSplit 10 [1, 1, 1] A c w (by simp) (by unfold In64; omega) (by intro x hx; simp at hx; subst hx; unfold In64; omega) hr
  have h1 : spC 10 [1, 1, 1] = 0 := by decide
  have h2 : spL 10 [1, 1, 1] = [4, 3, 3] := by decide
  rw [h1, h2] at h
  refine Calls.mono h ?_
  rintro e w' ⟨v, rfl, hown, hb⟩
  obtain ⟨A1, c1, hv, hrs, _⟩ := hown.rs
  subst hv
  exact ⟨A1, c1, rfl, hrs.rd, hb⟩
theorem live_same (A B : Option Addr) (c d : Nat) (w : World) (ha : Rd w A 1 ([4, 3, 3].map encI)) (hb : Rd w B 1 ([4, 3, 3].map encI)) :
    Calls Try.prog 35 #[.slice A 3 c, .slice B 3 d] w fun e w' => e = .returned (.bool true) ∧ Below w.heap.size w w' := sameNums [4, 3, 3] A B c d w (by simp) ha hb
set_option maxRecDepth 100000 in
set_option maxHeartbeats 8000000 in
theorem law03lives (w : World) : Calls Try.prog 36 #[] w fun e w' => e = .returned (.bool true) ∧ Below w.heap.size w w' := by
  go_enter Try.func36, Try.ntmps36
  go_wp2_with (first | (go_at_call 33; (with_reducible refine (live_split _ _ _ (rd_threeS (by simp) ?_ ?_ ?_)).mono ?_); (focus (simp [go_sem]; done)); (focus (simp [go_sem]; done)); (focus (simp [go_sem]; done)); rintro e w1 ⟨A1, c1, rfl, hr1, hb1⟩; have HR1 := Lib.hid hr1; clear hr1; obtain ⟨fc1, fg1, hc1, hf1, hz1⟩ := bget hb1; (try simp at hz1)) | (go_at_call 35; (with_reducible refine (live_same _ _ _ _ _ (HR1.out.keep (by (repeat' (first | (with_reducible exact Below.refl _ _) | (with_reducible assumption) | (with_reducible refine Below.alloc ?_ ?_ _) | (with_reducible refine Below.setCell ?_ ?_ _) | (with_reducible refine Below.drew ?_) | (with_reducible refine below_drewN ?_ _) | (with_reducible refine below_via ?_ (by with_reducible assumption) ?_) | omega | (simp; done) | (simp; omega))))) (rd_threeS (by simp) ?_ ?_ ?_)).mono ?_); (focus (simp [go_sem]; done)); (focus (simp [go_sem]; done)); (focus (simp [go_sem]; done)); rintro e w2 ⟨rfl, hb2⟩; obtain ⟨fc2, fg2, hc2, hf2, hz2⟩ := bget hb2; (try simp at hz2)) | fail)
  go_ret
  exact ⟨rfl, by (repeat' (first | (with_reducible exact Below.refl _ _) | (with_reducible assumption) | (with_reducible refine Below.alloc ?_ ?_ _) | (with_reducible refine Below.setCell ?_ ?_ _) | (with_reducible refine Below.drew ?_) | (with_reducible refine below_drewN ?_ _) | (with_reducible refine below_via ?_ (by with_reducible assumption) ?_) | omega | (simp; done) | (simp; omega)))⟩
theorem sp_zero {T : Int} {l : List Int} (h : spC T l = 0) : 0 ≤ T ∧ (∀ x ∈ l, 0 ≤ x) ∧ In64 l.sum ∧ (T = 0 ∨ 0 < l.sum) := by
  unfold spC at h
  cases h1 : rightS T l
  · rw [h1] at h; simp at h
  obtain ⟨t0, t1⟩ := right_iff.1 h1
  rw [h1, if_pos rfl] at h
  cases h2 : in64 l.sum
  · rw [h2] at h; simp at h
  rw [h2, if_pos rfl] at h
  have := sum_nonneg' t1
  refine ⟨t0, t1, in64_iff.1 h2, ?_⟩
  by_cases h3 : T = 0
  · exact .inl h3
  · rw [if_neg h3] at h
    by_cases h4 : l.sum = 0
    · rw [if_pos h4] at h; omega
    · exact .inr (by omega)
theorem sp_len {T : Int} {l : List Int} (h : spC T l = 0) : (spL T l).length = l.length := by
  obtain ⟨t0, t1, _, h4⟩ := sp_zero h
  unfold spL
  rw [if_pos h]
  by_cases h3 : T = 0
  · rw [if_pos h3]; simp
  · rw [if_neg h3]
    exact (sp_props t0 (by omega) rfl).1
/-- Who has the greater weight never gets less; of those alike the first one never less. -/
theorem sp_fair {T : Int} {l : List Int} (h : spC T l = 0) {i k : Nat} (hi : i < l.length) (hk : k < l.length) (ho : l[k] < l[i] ∨ (l[i] = l[k] ∧ i < k)) : (spL T l).getD k 0 ≤ (spL T l).getD i 0 := by
  obtain ⟨t0, t1, _, h4⟩ := sp_zero h
  unfold spL
  rw [if_pos h]
  by_cases h3 : T = 0
  · rw [if_pos h3]
    rw [List.getD_eq_getElem?_getD, List.getD_eq_getElem?_getD, List.getElem?_replicate, List.getElem?_replicate, if_pos hi, if_pos hk]
    exact Int.le_refl _
  · rw [if_neg h3]
    have hS : 0 < l.sum := by omega
    obtain ⟨_, _, p3, p4⟩ := sp_props t0 hS (rfl : l.sum = l.sum)
    have a1 := p3 i hi
    have a2 := p3 k hk
    rcases ho with ho | ⟨ho, hik⟩
    · have hm : T * l[k] < T * l[i] := Int.mul_lt_mul_of_pos_left ho (by omega)
      have hq : T * l[k] / l.sum ≤ T * l[i] / l.sum := Int.ediv_le_ediv hS (by omega)
      have e1 := Int.mul_ediv_add_emod (T * l[i]) l.sum
      have e2 := Int.mul_ediv_add_emod (T * l[k]) l.sum
      rcases Int.lt_or_eq_of_le hq with hq | hq
      · omega
      · rw [hq] at e2 a2
        have hr : T * l[k] % l.sum < T * l[i] % l.sum := by omega
        have := p4 i k hi hk (.inl hr)
        rw [hq] at this
        omega
    · rw [ho] at a1
      have := p4 i k hi hk (.inr ⟨by rw [ho], hik⟩)
      rw [ho] at this
      omega
end Go.Proofs.Ytenehpcliajdnaa
