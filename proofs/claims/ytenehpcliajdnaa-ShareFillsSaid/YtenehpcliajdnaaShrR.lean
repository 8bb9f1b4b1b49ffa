/- Shares, plain: what the parts are: as many as weights, quotas or one more, in all the whole; who has the greater remainder is first. -/
import Derived.Test.YtenehpcliajdnaaShrQ
namespace Go.Proofs.Ytenehpcliajdnaa
open Go.RowKit
theorem ahead_trans {x y z : Quo} (h : aheadQ x y = true) (k : aheadQ y z = true) : aheadQ x z = true := by
  rw [aheadQ_iff] at *; omega
theorem ahead_total {x y : Quo} (h : x.pos ≠ y.pos) : aheadQ x y = true ∨ aheadQ y x = true := by
  rw [aheadQ_iff, aheadQ_iff]; omega
theorem ins_ex (x : Quo) : ∀ (L : List Quo) (_ : L.Pairwise (fun x y => aheadQ x y = true)) (_ : ∀ y ∈ L, x.pos ≠ y.pos), ∃ M : List Quo, M.Perm (x :: L) ∧ M.Pairwise (fun x y => aheadQ x y = true)
  | [], _, _ => ⟨[x], List.Perm.refl _, by simp⟩
  | y :: t, h, hp => by
    have h' := h
    rw [List.pairwise_cons] at h
    rcases ahead_total (hp y (by simp)) with k | k
    · refine ⟨x :: y :: t, List.Perm.refl _, List.pairwise_cons.2 ⟨fun z hz => ?_, h'⟩⟩
      rcases List.mem_cons.1 hz with rfl | hz
      · exact k
      · exact ahead_trans k (h.1 z hz)
    · obtain ⟨M, m1, m2⟩ := ins_ex x t h.2 fun z hz => hp z (by simp [hz])
      refine ⟨y :: M, (m1.cons y).trans (List.Perm.swap x y t), List.pairwise_cons.2 ⟨fun z hz => ?_, m2⟩⟩
      rcases List.mem_cons.1 (m1.mem_iff.1 hz) with rfl | hz
      · exact k
      · exact h.1 z hz
theorem sort_ex : ∀ (q : List Quo) (_ : q.Pairwise (fun x y => x.pos ≠ y.pos)), ∃ L : List Quo, L.Perm q ∧ L.Pairwise (fun x y => aheadQ x y = true)
  | [], _ => ⟨[], List.Perm.refl _, List.Pairwise.nil⟩
  | x :: t, h => by
    rw [List.pairwise_cons] at h
    obtain ⟨L, l1, l2⟩ := sort_ex t h.2
    obtain ⟨M, m1, m2⟩ := ins_ex x L l2 fun y hy => h.1 y (l1.mem_iff.1 hy)
    exact ⟨M, m1.trans (l1.cons x), m2⟩
theorem addAt_len (P : List Int) (i : Nat) : (addAt P i).length = P.length := by unfold addAt; simp
theorem set_sum : ∀ (P : List Int) (i : Nat) (_ : i < P.length), (P.set i (P.getD i 0 + 1)).sum = P.sum + 1
  | x :: t, 0, _ => by simp; omega
  | x :: t, i + 1, h => by
    have := set_sum t i (by simpa using h)
    simp only [List.set_cons_succ, List.sum_cons, List.getD_cons_succ]
    omega
theorem give_len : ∀ (t : List Quo) (P : List Int), (give P t).length = P.length
  | [], P => rfl
  | x :: t, P => by unfold give; rw [give_len t, addAt_len]
theorem give_sum : ∀ (t : List Quo) (P : List Int) (_ : ∀ x ∈ t, x.pos.toNat < P.length), (give P t).sum = P.sum + t.length
  | [], P, _ => by simp [give]
  | x :: t, P, h => by
    unfold give
    rw [give_sum t (addAt P x.pos.toNat) (fun y hy => by rw [addAt_len]; exact h y (by simp [hy]))]
    unfold addAt
    rw [set_sum P _ (h x (by simp))]
    simp; omega
theorem give_none : ∀ (t : List Quo) (P : List Int) (i : Nat) (_ : ∀ x ∈ t, x.pos.toNat ≠ i), (give P t).getD i 0 = P.getD i 0
  | [], P, i, _ => rfl
  | x :: t, P, i, h => by
    unfold give
    rw [give_none t _ i (fun y hy => h y (by simp [hy]))]
    unfold addAt
    rw [List.getD_eq_getElem?_getD, List.getElem?_set_ne (h x (by simp)), ← List.getD_eq_getElem?_getD]
theorem give_some : ∀ (t : List Quo) (P : List Int) (i : Nat) (_ : t.Pairwise (fun x y => x.pos.toNat ≠ y.pos.toNat)) (_ : i < P.length) (_ : ∃ x ∈ t, x.pos.toNat = i), (give P t).getD i 0 = P.getD i 0 + 1
  | [], P, i, _, _, h => by obtain ⟨x, hx, _⟩ := h; simp at hx
  | x :: t, P, i, hp, hi, h => by
    rw [List.pairwise_cons] at hp
    unfold give
    by_cases hx : x.pos.toNat = i
    · subst hx
      rw [give_none t _ _ (fun y hy e => hp.1 y hy e.symm)]
      unfold addAt
      rw [List.getD_eq_getElem?_getD, List.getElem?_set_self hi]; rfl
    · obtain ⟨y, hy, he⟩ := h
      rcases List.mem_cons.1 hy with rfl | hy
      · exact absurd he hx
      · rw [give_some t _ i hp.2 (by rw [addAt_len]; exact hi) ⟨y, hy, he⟩]
        unfold addAt
        rw [List.getD_eq_getElem?_getD, List.getElem?_set_ne hx, ← List.getD_eq_getElem?_getD]
/-- What the parts are. -/
theorem sp_props {T S : Int} {l : List Int} (hT : 0 ≤ T) (hS : 0 < S) (hsl : l.sum = S) :
    (spR T S l).length = l.length ∧ (spR T S l).sum = T ∧
    (∀ i (h : i < l.length), (spR T S l).getD i 0 = T * l[i] / S ∨ ((spR T S l).getD i 0 = T * l[i] / S + 1 ∧ 0 < T * l[i] % S)) ∧
    (∀ i k (hi : i < l.length) (hk : k < l.length), (T * l[k] % S < T * l[i] % S ∨ (T * l[i] % S = T * l[k] % S ∧ i < k)) → (spR T S l).getD k 0 = T * l[k] / S + 1 → (spR T S l).getD i 0 = T * l[i] / S + 1) := by
  obtain ⟨L, hp, hs⟩ := sort_ex (quoF T S 0 l) (quoF_pos T S l 0)
  obtain ⟨r1, r2, r3⟩ := rest_is hT hS hsl
  obtain ⟨f1, f2, f3, f4⟩ := perm_facts hS hp r3 hs
  have he := split_is hT hS hsl hp hs
  have hpl : (partL T S l).length = l.length := by unfold partL; simp
  have hpg : ∀ i (h : i < l.length), (partL T S l).getD i 0 = T * l[i] / S := fun i h => by
    unfold partL
    rw [List.getD_eq_getElem?_getD, List.getElem?_map, List.getElem?_eq_getElem h]; rfl
  have hposn : ∀ x ∈ L, 0 ≤ x.pos ∧ x.pos.toNat < l.length := fun x hx => by
    obtain ⟨i, h, rfl⟩ := f2 x hx
    exact ⟨by show (0 : Int) ≤ (i : Int); omega, by simpa using h⟩
  have hpw : L.Pairwise (fun x y => x.pos.toNat ≠ y.pos.toNat) := by
    refine List.Pairwise.imp_of_mem (fun {a b} ha hb h => ?_) f1
    have := (hposn a ha).1
    have := (hposn b hb).1
    omega
  have hpt : (L.take (restN T S l)).Pairwise (fun x y => x.pos.toNat ≠ y.pos.toNat) := hpw.sublist (List.take_sublist _ _)
  have hat : ∀ i (h : i < l.length), ∃ x ∈ L, x.pos.toNat = i ∧ x.left = T * l[i] % S ∧ x.pos = i := fun i h => by
    have := quoF_get T S l 0 i h
    exact ⟨_, hp.mem_iff.2 (List.mem_of_getElem? this), by simp, rfl, by simp⟩
  have huniq : ∀ x ∈ L, ∀ y ∈ L, x.pos.toNat = y.pos.toNat → x = y := fun x hx y hy e => by
    obtain ⟨i, h, rfl⟩ := f2 x hx
    obtain ⟨j, g, rfl⟩ := f2 y hy
    simp at e
    subst e
    rfl
  rw [← he]
  refine ⟨by rw [give_len, hpl], ?_, fun i h => ?_, fun i k hi hk hord hkp => ?_⟩
  · rw [give_sum _ _ (fun x hx => by rw [hpl]; exact (hposn x (List.mem_of_mem_take hx)).2), List.length_take, Nat.min_eq_left f4, r2]
    omega
  · by_cases hx : ∃ x ∈ L.take (restN T S l), x.pos.toNat = i
    · right
      rw [give_some _ _ i hpt (by rw [hpl]; exact h) hx, hpg i h]
      refine ⟨rfl, ?_⟩
      obtain ⟨x, hx, e⟩ := hx
      obtain ⟨j, g, e2⟩ := f2 x (List.mem_of_mem_take hx)
      have := f3 x hx
      rw [e2] at this e
      simp at e
      subst e
      exact this
    · left
      rw [give_none _ _ i (fun x hx' e => hx ⟨x, hx', e⟩), hpg i h]
  · have hkx : ∃ x ∈ L.take (restN T S l), x.pos.toNat = k := by
      refine Classical.byContradiction fun hn => ?_
      rw [give_none _ _ k (fun x hx' e => hn ⟨x, hx', e⟩), hpg k hk] at hkp
      omega
    obtain ⟨x, hx, e⟩ := hkx
    obtain ⟨y, hy, ey, el, ep⟩ := hat i hi
    obtain ⟨z, hz, ez, el2, ep2⟩ := hat k hk
    have hxz := huniq x (List.mem_of_mem_take hx) z hz (by rw [e, ez])
    have hyx : aheadQ y x = true := by
      rw [aheadQ_iff, hxz, el, el2, ep, ep2]; omega
    have hyt : y ∈ L.take (restN T S l) := by
      obtain ⟨a, ha, ea⟩ := List.getElem_of_mem hy
      obtain ⟨b, hb, eb⟩ := List.getElem_of_mem hx
      rw [List.length_take] at hb
      rw [List.getElem_take] at eb
      rcases Nat.lt_or_ge a (restN T S l) with h | h
      · rw [← ea, List.mem_take_iff_getElem]
        exact ⟨a, by omega, rfl⟩
      · exfalso
        have := List.pairwise_iff_getElem.1 hs b a (by omega) ha (by omega)
        rw [ea, eb] at this
        rw [aheadQ_iff] at this hyx
        omega
    rw [give_some _ _ i hpt (by rw [hpl]; exact hi) ⟨y, hyt, ey⟩, hpg i hi]
end Go.Proofs.Ytenehpcliajdnaa
