/- Layer 15's laws: plain facts for AcctApart. -/
import Derived.Test.YtemhhojenocddaaAcctL2
namespace Go.Proofs.Ytemhhojenocddaa
open Go.RowKit
theorem tab_ok (okf : AcctV → Bool) (l : List AcctV) : ∀ k, ∀ x ∈ tabAcctVN okf l k, okf x = true
  | 0, x, h => by simp [tabAcctVN] at h
  | k + 1, x, h => by
    rcases Nat.lt_or_ge k l.length with hk | hk
    · rw [tabAcctVN_succ hk] at h
      unfold stepAcctV at h
      split at h
      · rename_i hc
        rcases put_mem h with h | h
        · exact tab_ok okf l k x h
        · subst h
          cases ho : okf l[k]
          · unfold putAcctVC at hc; rw [ho] at hc; simp at hc
          · rfl
      · exact tab_ok okf l k x h
    · have e : tabAcctVN okf l (k + 1) = tabAcctVN okf l k := by unfold tabAcctVN; rw [List.take_of_length_le (by omega), List.take_of_length_le hk]
      rw [e] at h
      exact tab_ok okf l k x h
def flatU (l : List AcctV) : List Un := l.flatMap (fun x => unitsA (lgA x))
theorem flatU_snoc {l : List AcctV} {k : Nat} (h : k < l.length) : flatU (l.take (k + 1)) = flatU (l.take k) ++ unitsA (lgA l[k]) := by
  unfold flatU; rw [List.take_succ_eq_append_getElem h, List.flatMap_append]; simp
theorem flatU_len {l : List AcctV} (h : ∀ x ∈ l, x.clients.val.length ≤ 20) : ∀ k, (flatU (l.take k)).length ≤ 21 * k
  | 0 => by simp [flatU]
  | k + 1 => by
    rcases Nat.lt_or_ge k l.length with hk | hk
    · rw [flatU_snoc hk, List.length_append]
      have h1 := flatU_len h k
      have h2 := units_len (lgA l[k])
      have h3 : (lgA l[k]).clients.length ≤ 20 := h _ (List.getElem_mem hk)
      omega
    · have := flatU_len h k
      rw [List.take_of_length_le (by omega)]
      rw [List.take_of_length_le hk] at this
      omega
theorem lessU_iff {a b : Un} : lessU a b = true ↔ a.acc < b.acc ∨ (a.acc = b.acc ∧ a.cli < b.cli) := by simp [lessU]
theorem lessU_asymm {a b : Un} (h : lessU a b = true) : lessU b a = false := by
  cases hb : lessU b a
  · rfl
  · rw [lessU_iff] at h hb; omega
theorem units_acc {x : Acct} {u : Un} (h : u ∈ unitsA x) : u.acc = x.id := by
  unfold unitsA at h
  split at h
  · simp at h; rw [h]
  · obtain ⟨c, _, rfl⟩ := List.mem_map.1 h; rfl
theorem units_sort {x : Acct} (h : okA x) : (unitsA x).Pairwise (fun a b => lessU a b = true) := by
  unfold unitsA
  split
  · simp
  · rw [List.pairwise_map]
    refine (risC_pair h.2.2.2.2).1.imp ?_
    intro a b hab
    exact lessU_iff.2 (.inr ⟨rfl, hab⟩)
theorem flatU_sort {l : List AcctV} (hs : SortedAcctV l) (ho : ∀ x ∈ l, okA (lgA x)) : (flatU l).Pairwise (fun a b => lessU a b = true) := by
  unfold flatU
  rw [List.pairwise_flatMap]
  refine ⟨fun x hx => units_sort (ho x hx), ?_⟩
  exact hs.imp (fun {a b} h u hu v hv => by
    rw [lessU_iff, units_acc hu, units_acc hv]
    exact .inl h)
theorem mem_insC {l : List Int} {c : Int} : c ∈ insC l c := by unfold insC; simp
theorem insC_mem {l : List Int} {c y : Int} (h : y ∈ insC l c) : y = c ∨ y ∈ l := by
  unfold insC at h
  rcases List.mem_append.1 h with h | h
  · exact .inr ((List.takeWhile_sublist _).subset h)
  · rcases List.mem_cons.1 h with h | h
    · exact .inl h
    · exact .inr ((List.dropWhile_sublist _).subset h)
theorem insC_pair {l : List Int} {c : Int} (hs : l.Pairwise (· < ·)) (hn : c ∉ l) : (insC l c).Pairwise (· < ·) := by
  obtain ⟨h1, h2⟩ := nomem_cut hs hn
  have hs' := hs
  rw [← List.takeWhile_append_dropWhile (p := fun x : Int => decide (x < c)) (l := l), List.pairwise_append] at hs'
  obtain ⟨p1, p2, p3⟩ := hs'
  unfold insC
  rw [List.pairwise_append, List.pairwise_cons]
  have hd : ∀ y ∈ l.dropWhile (fun x => decide (x < c)), c < y := by
    intro y hy
    rw [dw_drop] at hy
    obtain ⟨j, hj, rfl⟩ := List.mem_iff_getElem.1 hy
    rw [List.length_drop] at hj
    rw [List.getElem_drop]
    exact h2 _ (by omega) (by omega)
  refine ⟨p1, ⟨hd, p2⟩, fun a ha b hb => ?_⟩
  have ha' : a < c := by have := List.all_eq_true.1 (List.all_takeWhile (p := fun x : Int => decide (x < c)) (l := l)) a ha; simpa using this
  rcases List.mem_cons.1 hb with rfl | hb
  · exact ha'
  · have := hd b hb; omega
/-- What a client more makes of an account. -/
structure Bound (x : Acct) (t : Int) : Prop where
  has : hasA (bindA x t) ⟨x.id, t⟩ = true
  hadnt : hasA x ⟨x.id, t⟩ = false
  ok : codeA (bindA x t) = 0
  len : (unitsA (bindA x t)).length = (unitsA x).length + 1
theorem bound_of {x : Acct} {t : Int} (h : bindC x t = 0) : Bound x t := by
  have hb : bindA x t = ⟨x.id, x.member, x.kind, insC x.clients t⟩ := if_pos h
  unfold bindC at h
  split at h
  rotate_left
  · omega
  rename_i hok
  split at h
  · omega
  rename_i hk
  split at h
  · omega
  rename_i hc
  split at h
  · omega
  rename_i hm
  split at h
  · omega
  rename_i hl
  have hu : unitsA x = x.clients.map (fun c => ⟨x.id, c⟩) := if_neg hk
  have hu2 : unitsA (bindA x t) = (insC x.clients t).map (fun c => ⟨x.id, c⟩) := by rw [hb]; exact if_neg hk
  refine ⟨?_, ?_, ?_, ?_⟩
  · unfold hasA
    rw [hu2]
    exact decide_eq_true (List.mem_map.2 ⟨t, mem_insC, rfl⟩)
  · unfold hasA
    rw [hu]
    refine decide_eq_false (fun hx => ?_)
    obtain ⟨c, hc, e⟩ := List.mem_map.1 hx
    simp only [Un.mk.injEq, true_and] at e
    exact hm (by rw [← e]; exact hc)
  · rw [hb]
    refine codeA_yes ⟨hok.1, hok.2.1, hok.2.2.1, ?_, ?_⟩
    · show ((insC x.clients t).length : Int) ≤ mostA x.kind
      rw [insC_len]; omega
    · show risC 0 (insC x.clients t) = true
      have hp := risC_pair hok.2.2.2.2
      refine risC_of_pair (insC_pair hp.1 hm) (fun c hc => ?_)
      rcases insC_mem hc with rfl | hc
      · omega
      · exact hp.2 c hc
  · rw [hu, hu2, List.length_map, List.length_map, insC_len]
end Go.Proofs.Ytemhhojenocddaa
