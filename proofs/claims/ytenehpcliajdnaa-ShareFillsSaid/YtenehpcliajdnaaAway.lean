/- What append, Insert leave as it was: all blocks of other types. No program in sight. -/
import Derived.Test.YtenehpcliajdnaaWhile
namespace Go.Proofs.Ytenehpcliajdnaa
open Go.RowKit
/-- All that is no row of elements E is as it was. -/
structure Away (E : TypeId) (w w' : World) : Prop where
  size : w.heap.size ≤ w'.heap.size
  block : ∀ b, b < w.heap.size → (∀ cs r, w.heap[b]? ≠ some (.cells cs E r)) → w'.heap[b]? = w.heap[b]?
section
variable {E E' : TypeId} {w w1 w2 w' : World}
theorem Away.refl (E : TypeId) (w : World) : Away E w w := ⟨Nat.le_refl _, fun _ _ _ => rfl⟩
theorem Away.trans (h : Away E w w1) (k : Away E w1 w2) : Away E w w2 :=
  ⟨Nat.le_trans h.size k.size, fun b hb hne => by
    have h1 := h.block b hb hne
    exact (k.block b (Nat.lt_of_lt_of_le hb h.size) (fun cs r => by rw [h1]; exact hne cs r)).trans h1⟩
theorem Away.below (h : Below w.heap.size w w') : Away E w w' := ⟨h.size, fun b hb _ => h.block b hb⟩
theorem Away.grown {row : Option Nat} (h : w.grownBy w' row) (hE : ∀ g, row = some g → ∃ cs r, w.heap[g]? = some (.cells cs E r)) : Away E w w' :=
  ⟨h.size, fun b hb hne => h.block b hb (fun e => by
    obtain ⟨cs, r, hc⟩ := hE b e.symm
    exact hne cs r hc)⟩
theorem Own.typed {base k : Nat} {v : Value} {rows : List (List Value)} (h : Own w base E k v rows) : ∀ g, v.ownBlock = some g → ∃ cs r, w.heap[g]? = some (.cells cs E r) := by
  intro g hg
  rcases h.2.2 with ⟨rfl, _⟩ | ⟨g', cap, cur, rfl, _, hh, _⟩
  · simp [Value.ownBlock] at hg
  · simp [Value.ownBlock] at hg
    subst hg
    exact ⟨cur, (0, 0), hh⟩
theorem Own.away {base k : Nat} {v : Value} {rows : List (List Value)} (h : Own w base E' k v rows) (ha : Away E w w') (hne : E' ≠ E) : Own w' base E' k v rows := by
  refine ⟨h.1, h.2.1, ?_⟩
  rcases h.2.2 with h2 | ⟨g, cap, cur, hv, hg, hh, r⟩
  · exact .inl h2
  · refine .inr ⟨g, cap, cur, hv, hg, ?_, r⟩
    rw [ha.block g (Array.getElem?_eq_some_iff.1 hh).1 (fun cs r e => by
      rw [hh] at e
      injection e with e
      injection e with _ e _
      exact hne e)]
    exact hh
theorem Own.good {base k : Nat} {A : Option Addr} {n c : Nat} {rows : List (List Value)} (h : Own w base E k (.slice A n c) rows) : Rs w k rows A c := by
  obtain ⟨A', c', hv, hrs, _⟩ := h.rs
  injection hv with e1 e2 e3
  subst e1 e3
  exact hrs
theorem Away.set (w : World) {p : Addr} (u : Value) (h : ∃ cs r, w.heap[p.block]? = some (.cells cs E r)) : Away E w (w.setCell p u) :=
  ⟨by simp [World.setCell], fun b _ hne => Below.heap_setCell w p u b (fun e => by
    obtain ⟨cs, r, hc⟩ := h
    exact hne cs r (by rw [e]; exact hc))⟩
theorem Away.setTy (h : Away E w w1) {p : Addr} (ht : ∃ cs r, w.heap[p.block]? = some (.cells cs E r)) (u : Value) : Away E w (w1.setCell p u) :=
  ⟨by simpa [World.setCell] using h.size, fun b hb hne => (Below.heap_setCell w1 p u b (fun e => by
    obtain ⟨cs, r, hc⟩ := ht
    exact hne cs r (by rw [e]; exact hc))).trans (h.block b hb hne)⟩
theorem Away.only {g : Nat} (h : Only g w w') (ht : ∃ cs r, w.heap[g]? = some (.cells cs E r)) : Away E w w' :=
  ⟨h.size, fun b hb hne => h.block b hb (fun e => by
    obtain ⟨cs, r, hc⟩ := ht
    exact hne cs r (by rw [e]; exact hc))⟩
theorem Own.at {base k : Nat} {A : Option Addr} {n c : Nat} {rows : List (List Value)} (h : Own w base E k (.slice A n c) rows) (h0 : 0 < rows.length) : ∃ g, A = some ⟨g, 0, none⟩ ∧ base ≤ g ∧ g < w.heap.size := by
  obtain ⟨A', c', hv, _, hf⟩ := h.rs
  injection hv with e1 e2 e3
  subst e1 e3
  rcases hf with ⟨_, h2, _⟩ | hg
  · rw [h2] at h0; simp at h0
  · exact hg
theorem grown_of_below {row : Option Nat} (h : Below w.heap.size w w') : w.grownBy w' row := ⟨h.os, h.tape, h.output, h.size, fun k hk _ => h.block k hk⟩
theorem grown_of_only {g : Nat} (h : Only g w w1) (k : Only g w1 w2) : w.grownBy w2 (some g) :=
  ⟨(h.trans k).os, (h.trans k).tape, (h.trans k).output, (h.trans k).size, fun b hb hne => (h.trans k).block b hb (fun e => hne (by rw [e]))⟩
end
theorem wp_appG {P : Program} {o : Oper} {a : Act} {K : Act → World → Prop} {Q : Exit → Act → World → Prop} {w : World} (s x : Operand) (T : TypeId)
    (ho : o.op = .call { callee := .builtin .append, args := #[s, x], argTypes := #[T, T] }) {E k bytes : Nat} (el : Elem P T E k bytes)
    (base : Nat) (v : Value) (rows : List (List Value)) (hs : a.eval s = v) (hown : Own w base E k v rows)
    (ad : Addr) (m c : Nat) (hx : a.eval x = .slice (some ad) m c) (news : List (List Value)) (hm : news.length = m) (hr : Rd w (some ad) k news) (hk : ∀ r ∈ news, r.length = k ∧ ∀ u ∈ r, u.oneCell' = true)
    (h63 : rows.length + m ≤ maxLen) (hbytes : (rows.length + m) * bytes ≤ 140737488355328) (hbase : base ≤ w.heap.size)
    (h : ∀ v' w', Own w' base E k v' (rows ++ news) → Below base w w' → w.grownBy w' v.ownBlock → K (a.put o.dst v') w') : o.wp P a w K Q := by
  obtain ⟨i, z, hi, hz, hsize, hby, hzs⟩ := el.info
  have hkl : ∀ r ∈ news, r.length = k := fun r hr => (hk r hr).1
  have hall : ∀ r ∈ rows ++ news, r.length = k := fun r hr => by
    rcases List.mem_append.1 hr with h1 | h1
    · exact hown.1 r h1
    · exact hkl r h1
  refine wp_append_own w s x T ho base E i z k bytes el.ty hi hz hsize hby hzs el.pos v rows.length rows.flatten hs hown.2 ad m c news.flatten hx (by rw [flatten_length hkl, hm]) (rd_cells hkl hr) (fun u hu => by
      obtain ⟨r, hr1, hr2⟩ := List.mem_flatten.1 hu
      exact (hk r hr1).2 u hr2) h63 hbytes hbase fun v' w' h1 h2 _ => ?_
  exact h v' w' ⟨hall, by rw [List.length_append, hm, List.flatten_append]; exact h1⟩ ((Below.refl base w).grown h2 hbase (fun g hg => (hown.block g hg).1)) h2
theorem wpList_appG {P : Program} {ops : Array Oper} {rest : List Oper} {o : Oper} {a : Act} {Q : Exit → Act → World → Prop} {w : World} (hgd : o.guard = none) (s x : Operand) (T : TypeId)
    (ho : o.op = .call { callee := .builtin .append, args := #[s, x], argTypes := #[T, T] }) {E k bytes : Nat} (el : Elem P T E k bytes)
    (base : Nat) (v : Value) (rows : List (List Value)) (hs : a.eval s = v) (hown : Own w base E k v rows)
    (ad : Addr) (m c : Nat) (hx : a.eval x = .slice (some ad) m c) (news : List (List Value)) (hm : news.length = m) (hr : Rd w (some ad) k news) (hk : ∀ r ∈ news, r.length = k ∧ ∀ u ∈ r, u.oneCell' = true)
    (h63 : rows.length + m ≤ maxLen) (hbytes : (rows.length + m) * bytes ≤ 140737488355328) (hbase : base ≤ w.heap.size)
    (h : ∀ v' w', Own w' base E k v' (rows ++ news) → Below base w w' → w.grownBy w' v.ownBlock → wpList P ops Q rest (a.put o.dst v') w') : wpList P ops Q (o :: rest) a w :=
  wpList_plain hgd fun _ hK => wp_appG s x T ho el base v rows hs hown ad m c hx news hm hr hk h63 hbytes hbase fun v' w' h1 h2 h3 => hK _ _ (h v' w' h1 h2 h3)
end Go.Proofs.Ytenehpcliajdnaa
