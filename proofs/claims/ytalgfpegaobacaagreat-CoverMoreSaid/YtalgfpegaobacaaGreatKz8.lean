/- Joined: Away, ShG, Bigs, Leg, List, Vec1, Vec2, Ref11a, Ref11b, Vec3, Vec4, Ref11c, VecAdds, VecPlain, Ref11d, Ref11e, VecBack, VecTurns, BkP, InstT. -/
import Derived.Test.YtalgfpegaobacaaGreatKz6
import Derived.Test.YtalgfpegaobacaaGreatKz7
import Derived.Test.YtalgfpegaobacaaGreatKz5
import Derived.Test.YtalgfpegaobacaaGreatKz2
import Derived.Test.YtalgfpegaobacaaGreatKz1
import Derived.Outline
import Derived.Deep.RegionWith
/- What append, Insert leave as it was: all blocks of other types. No program in sight. -/
namespace Go.Proofs.YtalgfpegaobacaaGreat
open Go.RowKit
/-- All that is no row of elements E is as it was. -/
structure Away (E : TypeId) (w w' : World) : Prop where
  size : w.heap.size ≤ w'.heap.size
  block : ∀ b, b < w.heap.size → (∀ cs r, w.heap[b]? ≠ some (.cells cs E r)) → w'.heap[b]? = w.heap[b]?
section
variable {E E' : TypeId} {w w1 w2 w' : World}
theorem Away.refl (E : TypeId) (w : World) : Away E w w := ⟨Nat.le_refl _, fun _ _ _ => rfl⟩
theorem Away.trans (h : Away E w w1) (k : Away E w1 w2) : Away E w w2 :=
  ⟨Nat.le_trans h.size k.size, fun b hb hne => by
    have h1 := h.block b hb hne
    exact (k.block b (Nat.lt_of_lt_of_le hb h.size) (fun cs r => by rw [h1]; exact hne cs r)).trans h1⟩
theorem Away.below (h : Below w.heap.size w w') : Away E w w' := ⟨h.size, fun b hb _ => h.block b hb⟩
theorem Away.grown {row : Option Nat} (h : w.grownBy w' row) (hE : ∀ g, row = some g → ∃ cs r, w.heap[g]? = some (.cells cs E r)) : Away E w w' :=
  ⟨h.size, fun b hb hne => h.block b hb (fun e => by
    obtain ⟨cs, r, hc⟩ := hE b e.symm
    exact hne cs r hc)⟩
theorem Own.typed {base k : Nat} {v : Value} {rows : List (List Value)} (h : Own w base E k v rows) : ∀ g, v.ownBlock = some g → ∃ cs r, w.heap[g]? = some (.cells cs E r) := by
  intro g hg
  rcases h.2.2 with ⟨rfl, _⟩ | ⟨g', cap, cur, rfl, _, hh, _⟩
  · simp [Value.ownBlock] at hg
  · simp [Value.ownBlock] at hg
    subst hg
    exact ⟨cur, (0, 0), hh⟩
theorem Own.away {base k : Nat} {v : Value} {rows : List (List Value)} (h : Own w base E' k v rows) (ha : Away E w w') (hne : E' ≠ E) : Own w' base E' k v rows := by
  refine ⟨h.1, h.2.1, ?_⟩
  rcases h.2.2 with h2 | ⟨g, cap, cur, hv, hg, hh, r⟩
  · exact .inl h2
  · refine .inr ⟨g, cap, cur, hv, hg, ?_, r⟩
    rw [ha.block g (Array.getElem?_eq_some_iff.1 hh).1 (fun cs r e => by
      rw [hh] at e
      injection e with e
      injection e with _ e _
      exact hne e)]
    exact hh
theorem Own.good {base k : Nat} {A : Option Addr} {n c : Nat} {rows : List (List Value)} (h : Own w base E k (.slice A n c) rows) : Rs w k rows A c := by
  obtain ⟨A', c', hv, hrs, _⟩ := h.rs
  injection hv with e1 e2 e3
  subst e1 e3
  exact hrs
theorem Away.set (w : World) {p : Addr} (u : Value) (h : ∃ cs r, w.heap[p.block]? = some (.cells cs E r)) : Away E w (w.setCell p u) :=
  ⟨by simp [World.setCell], fun b _ hne => Below.heap_setCell w p u b (fun e => by
    obtain ⟨cs, r, hc⟩ := h
    exact hne cs r (by rw [e]; exact hc))⟩
theorem Away.only {g : Nat} (h : Only g w w') (ht : ∃ cs r, w.heap[g]? = some (.cells cs E r)) : Away E w w' :=
  ⟨h.size, fun b hb hne => h.block b hb (fun e => by
    obtain ⟨cs, r, hc⟩ := ht
    exact hne cs r (by rw [e]; exact hc))⟩
theorem Own.at {base k : Nat} {A : Option Addr} {n c : Nat} {rows : List (List Value)} (h : Own w base E k (.slice A n c) rows) (h0 : 0 < rows.length) : ∃ g, A = some ⟨g, 0, none⟩ ∧ base ≤ g ∧ g < w.heap.size := by
  obtain ⟨A', c', hv, _, hf⟩ := h.rs
  injection hv with e1 e2 e3
  subst e1 e3
  rcases hf with ⟨_, h2, _⟩ | hg
  · rw [h2] at h0; simp at h0
  · exact hg
end
theorem wp_appG {P : Program} {o : Oper} {a : Act} {K : Act → World → Prop} {Q : Exit → Act → World → Prop} {w : World} (s x : Operand) (T : TypeId)
    (ho : o.op = .call { callee := .builtin .append, args := #[s, x], argTypes := #[T, T] }) {E k bytes : Nat} (el : Elem P T E k bytes)
    (base : Nat) (v : Value) (rows : List (List Value)) (hs : a.eval s = v) (hown : Own w base E k v rows)
    (ad : Addr) (m c : Nat) (hx : a.eval x = .slice (some ad) m c) (news : List (List Value)) (hm : news.length = m) (hr : Rd w (some ad) k news) (hk : ∀ r ∈ news, r.length = k ∧ ∀ u ∈ r, u.oneCell' = true)
    (h63 : rows.length + m ≤ maxLen) (hbytes : (rows.length + m) * bytes ≤ 140737488355328) (hbase : base ≤ w.heap.size)
    (h : ∀ v' w', Own w' base E k v' (rows ++ news) → Below base w w' → w.grownBy w' v.ownBlock → K (a.put o.dst v') w') : o.wp P a w K Q := by
  obtain ⟨i, z, hi, hz, hsize, hby, hzs⟩ := el.info
  have hkl : ∀ r ∈ news, r.length = k := fun r hr => (hk r hr).1
  have hall : ∀ r ∈ rows ++ news, r.length = k := fun r hr => by
    rcases List.mem_append.1 hr with h1 | h1
    · exact hown.1 r h1
    · exact hkl r h1
  refine wp_append_own w s x T ho base E i z k bytes el.ty hi hz hsize hby hzs el.pos v rows.length rows.flatten hs hown.2 ad m c news.flatten hx (by rw [flatten_length hkl, hm]) (rd_cells hkl hr) (fun u hu => by
      obtain ⟨r, hr1, hr2⟩ := List.mem_flatten.1 hu
      exact (hk r hr1).2 u hr2) h63 hbytes hbase fun v' w' h1 h2 _ => ?_
  exact h v' w' ⟨hall, by rw [List.length_append, hm, List.flatten_append]; exact h1⟩ ((Below.refl base w).grown h2 hbase (fun g hg => (hown.block g hg).1)) h2
theorem wpList_appG {P : Program} {ops : Array Oper} {rest : List Oper} {o : Oper} {a : Act} {Q : Exit → Act → World → Prop} {w : World} (hgd : o.guard = none) (s x : Operand) (T : TypeId)
    (ho : o.op = .call { callee := .builtin .append, args := #[s, x], argTypes := #[T, T] }) {E k bytes : Nat} (el : Elem P T E k bytes)
    (base : Nat) (v : Value) (rows : List (List Value)) (hs : a.eval s = v) (hown : Own w base E k v rows)
    (ad : Addr) (m c : Nat) (hx : a.eval x = .slice (some ad) m c) (news : List (List Value)) (hm : news.length = m) (hr : Rd w (some ad) k news) (hk : ∀ r ∈ news, r.length = k ∧ ∀ u ∈ r, u.oneCell' = true)
    (h63 : rows.length + m ≤ maxLen) (hbytes : (rows.length + m) * bytes ≤ 140737488355328) (hbase : base ≤ w.heap.size)
    (h : ∀ v' w', Own w' base E k v' (rows ++ news) → Below base w w' → w.grownBy w' v.ownBlock → wpList P ops Q rest (a.put o.dst v') w') : wpList P ops Q (o :: rest) a w :=
  wpList_plain hgd fun _ hK => wp_appG s x T ho el base v rows hs hown ad m c hx news hm hr hk h63 hbytes hbase fun v' w' h1 h2 h3 => hK _ _ (h v' w' h1 h2 h3)
end Go.Proofs.YtalgfpegaobacaaGreat

/- Rows by unit: where a unit stands; what a loop makes of rows that rise; an append that says what it leaves. -/
namespace Go.Proofs.YtalgfpegaobacaaGreat
open Go.RowKit
section
variable {α : Type} {ok : List α → Bool}
def plK (l : List (Row α)) (u : Un) : Nat := (l.takeWhile (fun x => lessU x.unit u)).length
def thK (l : List (Row α)) (u : Un) : Bool := atB (fun x => decide (x.unit = u)) l (plK l u)
theorem plK_lt {x : Row α} {t : List (Row α)} {u : Un} (h : lessU x.unit u = true) : plK (x :: t) u = plK t u + 1 ∧ thK (x :: t) u = thK t u := by
  have e : plK (x :: t) u = plK t u + 1 := by unfold plK; rw [List.takeWhile_cons_of_pos (p := fun y : Row α => lessU y.unit u) h]; rfl
  refine ⟨e, ?_⟩
  unfold thK
  rw [e]
  unfold atB
  rw [List.getElem?_cons_succ]
theorem plK_ge {x : Row α} {t : List (Row α)} {u : Un} (h : lessU x.unit u = false) : plK (x :: t) u = 0 ∧ thK (x :: t) u = decide (x.unit = u) := by
  have e : plK (x :: t) u = 0 := by unfold plK; rw [List.takeWhile_cons_of_neg (by rw [h]; simp)]; rfl
  refine ⟨e, ?_⟩
  unfold thK
  rw [e]
  simp [atB]
theorem filter_take {l : List (Row α)} (hs : SortK l) (u : Un) : l.filter (fun x => lessU x.unit u) = l.take (plK l u) := by
  rw [filter_lt hs]
  unfold plK
  exact (List.prefix_iff_eq_take.1 (List.takeWhile_prefix _))
theorem filter_drop : ∀ {l : List (Row α)} (_ : SortK l) (u : Un), l.filter (fun x => lessU u x.unit) = l.drop (plK l u + if thK l u = true then 1 else 0)
  | [], _, _ => by simp
  | x :: t, hs, u => by
    unfold SortK at hs
    rw [List.pairwise_cons] at hs
    cases h : lessU x.unit u
    · obtain ⟨e1, e2⟩ := plK_ge (t := t) h
      rw [e1, e2]
      have ht : t.filter (fun y => lessU u y.unit) = t := by
        rw [List.filter_eq_self]
        intro y hy
        rcases lessU_tri x.unit u with h1 | h1 | h1
        · rw [h] at h1; cases h1
        · rw [← h1]; exact hs.1 y hy
        · exact lessU_trans h1 (hs.1 y hy)
      by_cases hx : x.unit = u
      · rw [if_pos (by simpa using hx), List.filter_cons_of_neg (by rw [hx, lessU_irr]; simp), ht]; rfl
      · have h2 : lessU u x.unit = true := by
          rcases lessU_tri x.unit u with h1 | h1 | h1
          · rw [h] at h1; cases h1
          · exact absurd h1 hx
          · exact h1
        rw [if_neg (by simpa using hx), List.filter_cons_of_pos (p := fun y : Row α => lessU u y.unit) h2, ht]; rfl
    · obtain ⟨e1, e2⟩ := plK_lt (t := t) h
      rw [e1, e2, List.filter_cons_of_neg (by rw [lessU_asymm h]; simp), filter_drop hs.2 u, show plK t u + 1 + (if thK t u = true then 1 else 0) = (plK t u + if thK t u = true then 1 else 0) + 1 by omega, List.drop_succ_cons]
theorem with_place {l : List (Row α)} (hs : SortK l) (u : Un) (now : List α) : withK l u now = l.take (plK l u) ++ (oneK u now ++ l.drop (plK l u + if thK l u = true then 1 else 0)) := by
  unfold withK
  rw [filter_take hs, filter_drop hs]
end
section
variable {α : Type} {u : Un} {now : List α} {x : Row α} {t : List (Row α)}
end
theorem step_appG {P : Program} {ops : Array Oper} {o : Oper} {a : Act} {K : Act → World → Prop} {Q : Exit → Act → World → Prop} {w : World} {R : Prop} (hgd : o.guard = none) (s x : Operand) (T : TypeId)
    (ho : o.op = .call { callee := .builtin .append, args := #[s, x], argTypes := #[T, T] }) {E k bytes : Nat} (el : Elem P T E k bytes)
    (base : Nat) (v : Value) (rows : List (List Value)) (hs : a.eval s = v) (hown : Own w base E k v rows)
    (ad : Addr) (m c : Nat) (hx : a.eval x = .slice (some ad) m c) (news : List (List Value)) (hm : news.length = m) (hr : Rd w (some ad) k news) (hk : ∀ r ∈ news, r.length = k ∧ ∀ u ∈ r, u.oneCell' = true)
    (h63 : rows.length + m ≤ maxLen) (hbytes : (rows.length + m) * bytes ≤ 140737488355328) (hbase : base ≤ w.heap.size)
    (h : ∀ v' w', Own w' base E k v' (rows ++ news) → Below base w w' → w.grownBy w' v.ownBlock → K (a.put o.dst v') w') : if Region.wanted o (yielded ops a.tmps) = true then Oper.wp P o a w K Q else R := by
  have hw : Region.wanted o (yielded ops a.tmps) = true := by simp [Region.wanted, hgd]
  rw [if_pos hw]
  exact wp_appG s x T ho el base v rows hs hown ad m c hx news hm hr hk h63 hbytes hbase h
theorem grown_at {w w' : World} {row : Option Nat} (h : w.grownBy w' row) {g : Nat} (hg : g < w.heap.size) (hne : row ≠ some g) (o : Nat) : w'.cell? ⟨g, o, none⟩ = w.cell? ⟨g, o, none⟩ := by
  have h1 := h.block g hg (fun e => hne e.symm)
  simp only [World.cell?, h1]
end Go.Proofs.YtalgfpegaobacaaGreat

/- Slices of the reference's whole numbers, read or owned. -/
namespace Go.Proofs.YtalgfpegaobacaaGreat
open Go.RowKit
/-- A value that is a whole number. -/
def BigV (w : World) (L : Nat) (v : Value) (n : Int) : Prop := ∃ s A l c, v = .agg #[.bool s, .slice A l.length c] ∧ IsBig w n s A l c ∧ l.length ≤ L
theorem BigV.keep {w w' : World} {L : Nat} {v : Value} {n : Int} (h : BigV w L v n) (hb : Below w.heap.size w w') : BigV w' L v n := by
  obtain ⟨s, A, l, c, h1, h2, h3⟩ := h
  exact ⟨s, A, l, c, h1, h2.keep hb, h3⟩
theorem BigV.mono {w : World} {L M : Nat} {v : Value} {n : Int} (h : BigV w L v n) (hL : L ≤ M) : BigV w M v n := by
  obtain ⟨s, A, l, c, h1, h2, h3⟩ := h
  exact ⟨s, A, l, c, h1, h2, by omega⟩
theorem isBig_zero (w : World) : IsBig w 0 false none [] 0 := ⟨fun i r hr => by simp at hr, bit_nil, top_nil, rfl, by simp, by simp, rfl⟩
theorem BigV.zero (w : World) (L : Nat) : BigV w L (.agg #[.bool false, .slice none 0 0]) 0 := ⟨false, none, [], 0, rfl, isBig_zero w, by simp⟩
/-- Two cells that hold a whole number. -/
def BigR (w : World) (L : Nat) (r : List Value) (n : Int) : Prop := ∃ s A l c, r = [.bool s, .slice A l.length c] ∧ IsBig w n s A l c ∧ l.length ≤ L
theorem BigR.keep {w w' : World} {L : Nat} {v : List Value} {n : Int} (h : BigR w L v n) (hb : Below w.heap.size w w') : BigR w' L v n := by
  obtain ⟨s, A, l, c, h1, h2, h3⟩ := h
  exact ⟨s, A, l, c, h1, h2.keep hb, h3⟩
theorem BigR.mono {w : World} {L M : Nat} {v : List Value} {n : Int} (h : BigR w L v n) (hL : L ≤ M) : BigR w M v n := by
  obtain ⟨s, A, l, c, h1, h2, h3⟩ := h
  exact ⟨s, A, l, c, h1, h2, by omega⟩
theorem BigR.far {w : World} {L : Nat} {r : List Value} {n : Int} (h : BigR w L r n) {p : Addr} {v0 : Value} (hp : w.cell? p = some v0) (hne : ∀ k x, v0 ≠ .int k x) (u : Value) : BigR (w.setCell p u) L r n := by
  obtain ⟨s, A, l, c, h1, h2, h3⟩ := h
  exact ⟨s, A, l, c, h1, h2.far hp hne u, h3⟩
/-- A slice of the call's own of whole numbers. -/
def OwnB (w : World) (base L : Nat) (v : Value) (ns : List Int) : Prop := ∃ rows, Each (BigR w L) rows ns ∧ Own w base 81 2 v rows
theorem OwnB.keep {w w' : World} {base L : Nat} {v : Value} {ns : List Int} (h : OwnB w base L v ns) (hb : Below w.heap.size w w') : OwnB w' base L v ns := by
  obtain ⟨rows, h1, h2⟩ := h
  exact ⟨rows, h1.imp fun _ _ h => h.keep hb, h2.keep hb⟩
theorem OwnB.mono {w : World} {base b L M : Nat} {v : Value} {ns : List Int} (h : OwnB w base L v ns) (hb : b ≤ base) (hL : L ≤ M) : OwnB w b M v ns := by
  obtain ⟨rows, h1, h2⟩ := h
  exact ⟨rows, h1.imp fun _ _ h => h.mono hL, h2.mono hb⟩
theorem OwnB.at {w : World} {base L : Nat} {g n c : Nat} {ns : List Int} (h : OwnB w base L (.slice (some ⟨g, 0, none⟩) n c) ns) {i : Nat} {x : Int} (hx : ns[i]? = some x) :
    ∃ s A l d, w.cell? ⟨g, i * 2, none⟩ = some (.bool s) ∧ w.cell? ⟨g, i * 2 + 1, none⟩ = some (.slice A l.length d) ∧ IsBig w x s A l d ∧ l.length ≤ L := by
  obtain ⟨rows, h1, h2⟩ := h
  obtain ⟨hi, rfl⟩ := List.getElem?_eq_some_iff.1 hx
  obtain ⟨r, hr, s, A, l, d, rfl, hB, hl⟩ := h1.get hi
  obtain ⟨b, o, hA, hb, hc⟩ := h2.rd.1 i _ hr
  injection hA with hA
  injection hA with e1 e2 _
  subst e1 e2
  have c0 := hc 0 _ rfl
  have c1 := hc 1 _ rfl
  simp only [Nat.zero_add, Nat.add_zero] at c0 c1
  exact ⟨s, A, l, d, c0, c1, hB, hl⟩
theorem OwnB.len {w : World} {base L : Nat} {A : Option Addr} {n c : Nat} {ns : List Int} (h : OwnB w base L (.slice A n c) ns) : n = ns.length ∧ n ≤ c ∧ c ≤ maxLen := by
  obtain ⟨rows, h1, h2⟩ := h
  have h3 := h2.rd
  exact ⟨h3.2.1.trans h1.len, by omega, h3.2.2.2⟩
theorem OwnB.frozen {w : World} {base L : Nat} {g n c : Nat} {ns : List Int} (h : OwnB w base L (.slice (some ⟨g, 0, none⟩) n c) ns) : (∀ i, w.frozen? ⟨g, i, none⟩ = false) ∧ base ≤ g ∧ g < w.heap.size := by
  obtain ⟨rows, h1, h2⟩ := h
  obtain ⟨cur, hk⟩ := h2.blk rfl
  have h3 := h2.block g rfl
  exact ⟨fun i => hk.frozen i, h3⟩
/-- A store of a whole number at place i. -/
theorem OwnB.store {w : World} {base L M : Nat} {g n c : Nat} {ns : List Int} (h : OwnB w base L (.slice (some ⟨g, 0, none⟩) n c) ns) {i : Nat} (hi : i < ns.length) {s : Bool} {A : Option Addr} {l : List Int} {d : Nat} {x : Int} (hB : IsBig w x s A l d) (hl : l.length ≤ M) (hL : L ≤ M) :
    OwnB ((w.setCell ⟨g, i * 2, none⟩ (.bool s)).setCell ⟨g, i * 2 + 1, none⟩ (.slice A l.length d)) base M (.slice (some ⟨g, 0, none⟩) n c) (ns.set i x) := by
  obtain ⟨s0, A0, l0, d0, c0, c1, _, _⟩ := h.at (List.getElem?_eq_getElem hi)
  obtain ⟨rows, h1, h2⟩ := h
  have hi' : i < rows.length := by rw [h1.len]; exact hi
  have hr := h2.1 _ (List.getElem_mem hi')
  obtain ⟨p, q, he⟩ : ∃ p q, rows[i] = [p, q] := by
    match h4 : rows[i], hr with
    | [p, q], _ => exact ⟨p, q, rfl⟩
  have k1 := h2.put rfl (List.getElem?_eq_getElem hi') (show 0 < 2 from by omega) (.bool s)
  have k2 := k1.put rfl (List.getElem?_set_self (by simpa using hi')) (show 1 < 2 from by omega) (.slice A l.length d)
  simp only [List.set_set, he, List.set_cons_zero, List.set_cons_succ, Nat.add_zero] at k2
  have c1' : (w.setCell ⟨g, i * 2, none⟩ (.bool s)).cell? ⟨g, i * 2 + 1, none⟩ = some (.slice A0 l0.length d0) := by
    rw [World.cell?_setCell_other _ _ _ _ (by intro e; injection e with _ e _; omega)]; exact c1
  refine ⟨_, ⟨by rw [List.length_set, List.length_set, h1.len], fun j a b ha hb => ?_⟩, k2⟩
  rw [List.getElem?_set] at ha hb
  split at ha
  · rename_i e
    subst e
    try rw [if_pos hi'] at ha
    rw [if_pos rfl, if_pos hi] at hb
    injection ha with ha
    injection hb with hb
    subst ha hb
    exact ⟨s, A, l, d, rfl, (hB.far c0 (by simp) _).far c1' (by simp) _, hl⟩
  · rename_i e
    rw [if_neg e] at hb
    exact (((h1.pt j a b ha hb).far c0 (by simp) _).far c1' (by simp) _).mono hL
end Go.Proofs.YtalgfpegaobacaaGreat

/- Legs: contracts of vec.Is, Get, the reference's Is, Get. -/
namespace Go.Proofs.YtalgfpegaobacaaGreat
open Go.RowKit
structure Leg where
  inst : Int
  qty : Int
  deriving DecidableEq
def encLeg (x : Leg) : List Value := [.int .i64 x.inst, .int .i64 x.qty]
def okLeg (x : Leg) : Prop := In64 x.inst ∧ In64 x.qty
theorem rowsLeg (l : List Leg) : ∀ r ∈ l.map encLeg, r.length = 2 ∧ ∀ u ∈ r, u.oneCell' = true := by
  intro r hr
  obtain ⟨m, _, rfl⟩ := List.mem_map.1 hr
  refine ⟨rfl, ?_⟩
  simp only [encLeg, List.mem_cons, List.not_mem_nil, or_false, forall_eq_or_imp, forall_eq]
  exact ⟨rfl, rfl⟩
theorem elLeg : Elem Tryz.prog 92 162 2 16 := elem_of Tryz.underlying92 (z := .agg #[.int .i64 0, .int .i64 0]) (by kernel_rfl) rfl (by omega)
def isF : Int → List Leg → Bool
  | _, [] => true
  | a, x :: l => decide (a < x.inst) && decide (x.inst ≤ 8) && decide (x.qty ≠ 0) && isF x.inst l
def getF (i : Int) : List Leg → Int
  | [] => 0
  | x :: l => if x.inst = i then x.qty else getF i l
def isV (l : List Leg) : Bool := isF 0 l
theorem isF_yes {a : Int} {x : Leg} {l : List Leg} (h1 : a < x.inst ∧ x.inst ≤ 8) (h3 : (x.qty == 0) = false) : isF a (x :: l) = isF x.inst l := by
  have : x.qty ≠ 0 := by simpa using h3
  simp [isF, h1.1, h1.2, this]
theorem isF_no {a : Int} {x : Leg} {l : List Leg} (h1 : ¬ (a < x.inst ∧ x.inst ≤ 8)) : isF a (x :: l) = false := by
  simp only [isF, Bool.and_eq_false_iff, decide_eq_false_iff_not]
  omega
theorem isF_no0 {a : Int} {x : Leg} {l : List Leg} (h3 : (x.qty == 0) = true) : isF a (x :: l) = false := by
  have : x.qty = 0 := by simpa using h3
  simp [isF, this]
set_option maxRecDepth 100000 in
set_option maxHeartbeats 1000000 in
theorem vecIs (l : List Leg) (A : Option Addr) (c : Nat) (w : World) (hl : l.length ≤ 1099511627776) (hr : Rd w A 2 (l.map encLeg)) :
    Calls Tryz.prog 79 #[.slice A l.length c] w fun e w' => e = .returned (.bool (isV l)) ∧ Below w.heap.size w w' := by
  have HR := Lib.hid hr
  clear hr
  go_enter Tryz.func79, Tryz.ntmps79
  go_wp2_with fail
  go_loopw [3, 8] (fun a i wr => ∃ (k : Nat) (x : Int), k ≤ l.length ∧ i = .int .i64 k ∧ a = .int .i64 x ∧ isV l = isF x (l.drop k) ∧ Below w.heap.size w wr) (fun _ i _ => l.length - (intOf i).toNat)
  case atStart => exact ⟨0, 0, Nat.zero_le _, rfl, rfl, rfl, Below.refl _ _⟩
  case round =>
    obtain ⟨k, x, hk, rfl, rfl, hv, hbl⟩ := hrel
    have Hbl := Lib.hid hbl
    have HV := Lib.hid hv
    have hz := hbl.size
    clear hbl hv
    by_cases hlt : k < l.length
    · obtain ⟨be, oe, rfl, hbe, hqe⟩ := HR.out k (encLeg l[k]) (by simp [hlt])
      replace hqe := fun j v hv => (Hbl.out.cell (p := ⟨be, oe + k * 2 + j, none⟩) hbe).trans (hqe j v hv)
      have e0 := hqe 0 _ rfl
      have e1 := hqe 1 _ rfl
      simp only [Nat.add_zero] at e0
      clear hqe
      have HD := Lib.hid (drop_cons' hlt)
      cases hq : (l[k].qty == 0)
      · by_cases hg : x < l[k].inst ∧ l[k].inst ≤ 8
        · have HN := Lib.hid (isF_yes (l := l.drop (k + 1)) hg hq)
          go_wp2_with fail
          go_roundw
          case rel => exact ⟨k + 1, _, by omega, by go_num, rfl, by rw [HV.out, HD.out, HN.out], by have hbl := Hbl.out; (repeat' (first | (with_reducible exact Below.refl _ _) | (with_reducible assumption) | (with_reducible refine Below.alloc ?_ ?_ _) | (with_reducible refine Below.setCell ?_ ?_ _) | (with_reducible refine Below.drew ?_) | (with_reducible refine below_drewN ?_ _) | (with_reducible refine below_via ?_ (by with_reducible assumption) ?_) | omega | (simp; done) | (simp; omega)))⟩
          case measure => simp [intOf]; omega
        · have HN := Lib.hid (isF_no (l := l.drop (k + 1)) hg)
          go_wp2_with fail
          all_goals
            go_ret
            exact ⟨by rw [HV.out, HD.out, HN.out]; first | done | rfl, by (have hbl := Hbl.out; (repeat' (first | (with_reducible exact Below.refl _ _) | (with_reducible assumption) | (with_reducible refine Below.alloc ?_ ?_ _) | (with_reducible refine Below.setCell ?_ ?_ _) | (with_reducible refine Below.drew ?_) | (with_reducible refine below_drewN ?_ _) | (with_reducible refine below_via ?_ (by with_reducible assumption) ?_) | omega | (simp; done) | (simp; omega))))⟩
      · have HN := Lib.hid (isF_no0 (a := x) (l := l.drop (k + 1)) hq)
        go_wp2_with fail
        all_goals
          go_ret
          exact ⟨by rw [HV.out, HD.out, HN.out]; first | done | rfl, by (have hbl := Hbl.out; (repeat' (first | (with_reducible exact Below.refl _ _) | (with_reducible assumption) | (with_reducible refine Below.alloc ?_ ?_ _) | (with_reducible refine Below.setCell ?_ ?_ _) | (with_reducible refine Below.drew ?_) | (with_reducible refine below_drewN ?_ _) | (with_reducible refine below_via ?_ (by with_reducible assumption) ?_) | omega | (simp; done) | (simp; omega))))⟩
    · have HD := Lib.hid (drop_all (l := l) (k := k) (by omega))
      go_wp2_with fail
      go_ret
      exact ⟨by rw [HV.out, HD.out]; rfl, Hbl.out⟩
set_option maxRecDepth 100000 in
set_option maxHeartbeats 1000000 in
theorem vecGet (l : List Leg) (id : Int) (A : Option Addr) (c : Nat) (w : World) (hl : l.length ≤ 1099511627776) (hr : Rd w A 2 (l.map encLeg)) :
    Calls Tryz.prog 100 #[.slice A l.length c, .int .i64 id] w fun e w' => e = .returned (.int .i64 (getF id l)) ∧ Below w.heap.size w w' := by
  have HR := Lib.hid hr
  clear hr
  go_enter Tryz.func100, Tryz.ntmps100
  go_wp2_with fail
  go_loopw [9] (fun i wr => ∃ k : Nat, k ≤ l.length ∧ i = .int .i64 k ∧ getF id l = getF id (l.drop k) ∧ Below w.heap.size w wr) (fun i _ => l.length - (intOf i).toNat)
  case atStart => exact ⟨0, Nat.zero_le _, rfl, rfl, Below.refl _ _⟩
  case round =>
    obtain ⟨k, hk, rfl, hv, hbl⟩ := hrel
    have Hbl := Lib.hid hbl
    have HV := Lib.hid hv
    have hz := hbl.size
    clear hbl hv
    by_cases hlt : k < l.length
    · obtain ⟨be, oe, rfl, hbe, hqe⟩ := HR.out k (encLeg l[k]) (by simp [hlt])
      replace hqe := fun j v hv => (Hbl.out.cell (p := ⟨be, oe + k * 2 + j, none⟩) hbe).trans (hqe j v hv)
      have e0 := hqe 0 _ rfl
      have e1 := hqe 1 _ rfl
      simp only [Nat.add_zero] at e0
      clear hqe
      have HD := Lib.hid (drop_cons' hlt)
      cases hq : (l[k].inst == id)
      · have HN := Lib.hid (show getF id (l[k] :: l.drop (k + 1)) = getF id (l.drop (k + 1)) from by rw [getF, if_neg (by simpa using hq)])
        go_wp2_with fail
        go_roundw
        case rel => exact ⟨k + 1, by omega, by go_num, by rw [HV.out, HD.out, HN.out], by (have hbl := Hbl.out; (repeat' (first | (with_reducible exact Below.refl _ _) | (with_reducible assumption) | (with_reducible refine Below.alloc ?_ ?_ _) | (with_reducible refine Below.setCell ?_ ?_ _) | (with_reducible refine Below.drew ?_) | (with_reducible refine below_drewN ?_ _) | (with_reducible refine below_via ?_ (by with_reducible assumption) ?_) | omega | (simp; done) | (simp; omega))))⟩
        case measure => simp [intOf]; omega
      · have HN := Lib.hid (show getF id (l[k] :: l.drop (k + 1)) = l[k].qty from by rw [getF, if_pos (by simpa using hq)])
        go_wp2_with fail
        go_ret
        exact ⟨by rw [HV.out, HD.out, HN.out]; first | done | rfl, by (have hbl := Hbl.out; (repeat' (first | (with_reducible exact Below.refl _ _) | (with_reducible assumption) | (with_reducible refine Below.alloc ?_ ?_ _) | (with_reducible refine Below.setCell ?_ ?_ _) | (with_reducible refine Below.drew ?_) | (with_reducible refine below_drewN ?_ _) | (with_reducible refine below_via ?_ (by with_reducible assumption) ?_) | omega | (simp; done) | (simp; omega))))⟩
    · have HD := Lib.hid (drop_all (l := l) (k := k) (by omega))
      go_wp2_with fail
      go_ret
      exact ⟨by rw [HV.out, HD.out]; rfl, Hbl.out⟩
end Go.Proofs.YtalgfpegaobacaaGreat

/- Plain lists: where the first is of which something holds. -/
namespace Go.Proofs.YtalgfpegaobacaaGreat
def idxOf {α : Type} (p : α → Bool) (l : List α) : Int := match l.findIdx? p with | some k => k | none => -1
theorem idx_hit {α : Type} {p : α → Bool} {l : List α} {k : Nat} (h : k < l.length) (hm : p l[k] = true) (hn : ∀ j (_ : j < l.length), j < k → p l[j] = false) : idxOf p l = k := by
  have : l.findIdx? p = some k := by
    rw [List.findIdx?_eq_some_iff_getElem]
    exact ⟨h, hm, fun j hj => by simp [hn j (by omega) hj]⟩
  simp [idxOf, this]
theorem idx_miss {α : Type} {p : α → Bool} {l : List α} (hn : ∀ j (_ : j < l.length), p l[j] = false) : idxOf p l = -1 := by
  have : l.findIdx? p = none := by
    rw [List.findIdx?_eq_none_iff]
    intro x hx
    obtain ⟨j, hj, rfl⟩ := List.mem_iff_getElem.1 hx
    exact hn j hj
  simp [idxOf, this]
end Go.Proofs.YtalgfpegaobacaaGreat

/- Contracts of vec.none, ContainsFunc of it, vec.Same. -/
namespace Go.Proofs.YtalgfpegaobacaaGreat
open Go.RowKit
set_option maxRecDepth 100000 in
set_option maxHeartbeats 1000000 in
theorem vecNone (l : List Leg) (A : Option Addr) (c : Nat) (w : World) (hl : l.length ≤ 1099511627776) (hr : Rd w A 2 (l.map encLeg)) :
    Calls Tryz.prog 99 #[.slice A l.length c] w fun e w' => e = .returned (.bool (!isV l)) ∧ Below w.heap.size w w' := by
  have HR := Lib.hid hr
  clear hr
  go_enter Tryz.func99, Tryz.ntmps99
  go_wp2_with (go_at_call 79; (with_reducible refine (vecIs l A c _ hl HR.out).mono ?_); rintro e w1 ⟨rfl, hb1⟩; obtain ⟨fc1, fg1, hc1, hf1, hz1⟩ := bget hb1; try simp at hz1)
  go_ret
  exact ⟨rfl, by (repeat' (first | (with_reducible exact Below.refl _ _) | (with_reducible assumption) | (with_reducible refine Below.alloc ?_ ?_ _) | (with_reducible refine Below.setCell ?_ ?_ _) | (with_reducible refine Below.drew ?_) | (with_reducible refine below_drewN ?_ _) | (with_reducible refine below_via ?_ (by with_reducible assumption) ?_) | omega | (simp; done) | (simp; omega)))⟩
def Short (ls : List (List Leg)) : Prop := ls.length ≤ 1099511627776 ∧ ∀ l ∈ ls, l.length ≤ 1099511627776
theorem Short.pt {ls : List (List Leg)} (h : Short ls) {i : Nat} (hi : i < ls.length) : ls[i].length ≤ 1099511627776 := h.2 _ (List.getElem_mem hi)
set_option maxRecDepth 100000 in
set_option maxHeartbeats 1000000 in
theorem vecIndex (ls : List (List Leg)) (A : Option Addr) (c : Nat) (w : World) (hl : Short ls) (hr : RsS 2 encLeg w ls A c) :
    Calls Tryz.prog 113 #[.slice A ls.length c, .func (Fn.func 99) #[] #[]] w fun e w' => e = .returned (.int .i64 (idxOf (fun l => !isV l) ls)) ∧ Below w.heap.size w w' := by
  have HR := Lib.hid hr
  have HL := Lib.hid hl
  have hl1 := hl.1
  clear hr hl
  go_enter Tryz.func113, Tryz.ntmps113
  go_wp2_with fail
  go_loopw [8] (fun i wr => ∃ k : Nat, k ≤ ls.length ∧ i = .int .i64 k ∧ Below w.heap.size w wr ∧ ∀ j (_ : j < ls.length), j < k → (!isV ls[j]) = false) (fun i _ => ls.length - (intOf i).toNat)
  case atStart => exact ⟨0, Nat.zero_le _, rfl, Below.refl _ _, fun j _ h => absurd h (by omega)⟩
  case round =>
    obtain ⟨k, hk, rfl, hbl, hno⟩ := hrel
    have Hbl := Lib.hid hbl
    have Hno := Lib.hid hno
    have hz := hbl.size
    clear hbl hno
    by_cases hlt : k < ls.length
    · obtain ⟨b, o, B, d, rfl, hb, hq, hrk⟩ := HR.out.row hlt
      have e0 := (Hbl.out.cell (p := ⟨b, o + k, none⟩) hb).trans hq
      have HK := Lib.hid (hrk.keep Hbl.out)
      have HKL := HL.out.pt hlt
      clear hq hrk
      cases hm : (!isV ls[k])
      · have Hm := Lib.hid hm
        clear hm
        go_wp2_with (go_at_call 99; (with_reducible refine (vecNone ls[k] B d _ HKL HK.out.rd).mono ?_); rw [Hm.out]; rintro e w1 ⟨rfl, hb1⟩; have hz1 := hb1.size; have Hb1 := Lib.hid hb1; clear hb1)
        go_roundw
        case rel => exact ⟨k + 1, by omega, by go_num, Hbl.out.trans (Hb1.out.mono hz), fun j hj h => by
          rcases Nat.lt_or_ge j k with h1 | h1
          · exact Hno.out j hj h1
          · obtain rfl : j = k := by omega
            exact Hm.out⟩
        case measure => simp [intOf]; omega
      · have hi := idx_hit (p := fun l => !isV l) hlt hm Hno.out
        have Hi := Lib.hid hi
        have Hm := Lib.hid hm
        clear hm hi
        go_wp2_with (go_at_call 99; (with_reducible refine (vecNone ls[k] B d _ HKL HK.out.rd).mono ?_); rw [Hm.out]; rintro e w1 ⟨rfl, hb1⟩; have hz1 := hb1.size; have Hb1 := Lib.hid hb1; clear hb1)
        go_ret
        exact ⟨by rw [Hi.out]; rfl, Hbl.out.trans (Hb1.out.mono hz)⟩
    · have hi := idx_miss (p := fun l => !isV l) (l := ls) (fun j hj => Hno.out j hj (by omega))
      have Hi := Lib.hid hi
      clear hi
      go_wp2_with fail
      go_ret
      exact ⟨by rw [Hi.out]; rfl, Hbl.out⟩
def allV (ls : List (List Leg)) : Bool := ls.all isV
theorem idx_none (ls : List (List Leg)) : decide (0 ≤ idxOf (fun l => !isV l) ls) = !allV ls := by
  unfold idxOf allV
  cases h : ls.findIdx? (fun l => !isV l) with
  | none =>
    rw [List.findIdx?_eq_none_iff] at h
    have : ls.all isV = true := by rw [List.all_eq_true]; intro x hx; simpa using h x hx
    simp [this]
  | some k =>
    rw [List.findIdx?_eq_some_iff_getElem] at h
    obtain ⟨hk, h1, _⟩ := h
    have : ls.all isV = false := by
      rw [List.all_eq_false]; exact ⟨_, List.getElem_mem hk, by simpa using h1⟩
    simp [this]
set_option maxRecDepth 100000 in
set_option maxHeartbeats 1000000 in
theorem vecContains (ls : List (List Leg)) (A : Option Addr) (c : Nat) (w : World) (hl : Short ls) (hr : RsS 2 encLeg w ls A c) :
    Calls Tryz.prog 98 #[.slice A ls.length c, .func (Fn.func 99) #[] #[]] w fun e w' => e = .returned (.bool (!allV ls)) ∧ Below w.heap.size w w' := by
  have HR := Lib.hid hr
  have HL := Lib.hid hl
  have HI := Lib.hid (idx_none ls)
  clear hr hl
  go_enter Tryz.func98, Tryz.ntmps98
  go_wp2_with (go_at_call 113; (with_reducible refine (vecIndex ls A c _ HL.out HR.out).mono ?_); rintro e w1 ⟨rfl, hb1⟩; obtain ⟨fc1, fg1, hc1, hf1, hz1⟩ := bget hb1; try simp at hz1)
  go_ret
  exact ⟨by rw [← HI.out]; rfl, by (repeat' (first | (with_reducible exact Below.refl _ _) | (with_reducible assumption) | (with_reducible refine Below.alloc ?_ ?_ _) | (with_reducible refine Below.setCell ?_ ?_ _) | (with_reducible refine Below.drew ?_) | (with_reducible refine below_drewN ?_ _) | (with_reducible refine below_via ?_ (by with_reducible assumption) ?_) | omega | (simp; done) | (simp; omega)))⟩
end Go.Proofs.YtalgfpegaobacaaGreat

/- Contract of vec.Add. -/
namespace Go.Proofs.YtalgfpegaobacaaGreat
open Go.RowKit
def sumG (ls : List (List Leg)) (i : Int) : Int := (ls.map (getF i)).sum
/-- The legs of the instruments 1 .. n by these numbers. -/
def sumsL (f : Int → Int) : Nat → List Leg
  | 0 => []
  | n + 1 => sumsL f n ++ (if f ((n : Int) + 1) = 0 then [] else [⟨(n : Int) + 1, f ((n : Int) + 1)⟩])
def fitN (f : Int → Int) : Nat → Bool
  | 0 => true
  | n + 1 => fitN f n && in64 (f ((n : Int) + 1))
def vecC (f : Int → Int) : Int := if fitN f 8 then 0 else 7
def vecL (f : Int → Int) : List Leg := if fitN f 8 then sumsL f 8 else []
def addC (ls : List (List Leg)) : Int := if allV ls then vecC (sumG ls) else 3
def addL (ls : List (List Leg)) : List Leg := if allV ls then vecL (sumG ls) else []
theorem fit_mono {f : Int → Int} {n m : Nat} (h : n ≤ m) (hm : fitN f m = true) : fitN f n = true := by
  induction m with
  | zero => obtain rfl : n = 0 := by omega
            rfl
  | succ m ih =>
    rcases Nat.lt_or_ge n (m + 1) with h1 | h1
    · simp only [fitN, Bool.and_eq_true] at hm; exact ih (by omega) hm.1
    · obtain rfl : n = m + 1 := by omega
      exact hm
theorem fit_no {f : Int → Int} {n : Nat} (hn : n < 8) (h : in64 (f ((n : Int) + 1)) = false) : fitN f 8 = false := by
  cases h8 : fitN f 8 with
  | false => rfl
  | true =>
    have := fit_mono (show n + 1 ≤ 8 from hn) h8
    simp [fitN, h] at this
theorem sumsL_len (f : Int → Int) : ∀ n, (sumsL f n).length ≤ n
  | 0 => by simp [sumsL]
  | n + 1 => by
    have := sumsL_len f n
    simp only [sumsL, List.length_append]
    split <;> simp <;> omega
def LegsPost (w : World) (c : Int) (l : List Leg) (e : Ending) (w' : World) : Prop :=
  ∃ v, e = .returned (.tuple #[v, .int .i64 c]) ∧ Own w' w.heap.size 162 2 v (l.map encLeg) ∧ Below w.heap.size w w'
/-- Legs whose numbers are of 64 bits. -/
def Legs64 (l : List Leg) : Prop := ∀ x ∈ l, In64 x.qty
theorem get64 {l : List Leg} {i : Int} (h : Legs64 l) : In64 (getF i l) := by
  induction l with
  | nil => simp [getF, In64]
  | cons x l ih =>
    simp only [getF]
    split
    · exact h x (by simp)
    · exact ih fun y hy => h y (by simp [hy])
theorem elI : Elem Tryz.prog 68 2 1 8 := elem_of Tryz.underlying68 (z := .int .i64 0) (by kernel_rfl) rfl (by omega)
theorem rowsI (l : List Int) : ∀ r ∈ l.map encI, r.length = 1 ∧ ∀ u ∈ r, u.oneCell' = true := by
  intro r hr
  obtain ⟨m, _, rfl⟩ := List.mem_map.1 hr
  exact ⟨rfl, by simp [encI]; rfl⟩
set_option maxRecDepth 100000 in
set_option maxHeartbeats 4000000 in
theorem vecAdd (ls : List (List Leg)) (A : Option Addr) (c : Nat) (w : World) (hl : Short ls) (h64 : ∀ l ∈ ls, Legs64 l) (hr : RsS 2 encLeg w ls A c) :
    Calls Tryz.prog 83 #[.slice A ls.length c] w (LegsPost w (addC ls) (addL ls)) := by
  have HR := Lib.hid hr
  have HL := Lib.hid hl
  have H64 := Lib.hid h64
  have hl1 := hl.1
  clear hr hl h64
  cases ha : allV ls
  · have HC := Lib.hid (show addC ls = 3 from by unfold addC; rw [ha]; rfl)
    have HA := Lib.hid (show addL ls = [] from by unfold addL; rw [ha]; rfl)
    have C1 := Lib.hid (fun W h => ha ▸ vecContains ls A c W HL.out h)
    clear ha
    go_enter Tryz.func83, Tryz.ntmps83
    go_wp2_with (go_at_call 98; (with_reducible refine (C1.out _ HR.out).mono ?_); rintro e w1 ⟨rfl, hb1⟩; obtain ⟨fc1, fg1, hc1, hf1, hz1⟩ := bget hb1; try simp at hz1)
    go_ret2
    exact ⟨_, by rw [HC.out]; rfl, by rw [HA.out]; exact Own.nil _ _ _ _, by (repeat' (first | (with_reducible exact Below.refl _ _) | (with_reducible assumption) | (with_reducible refine Below.alloc ?_ ?_ _) | (with_reducible refine Below.setCell ?_ ?_ _) | (with_reducible refine Below.drew ?_) | (with_reducible refine below_drewN ?_ _) | (with_reducible refine below_via ?_ (by with_reducible assumption) ?_) | omega | (simp; done) | (simp; omega)))⟩
  have HC := Lib.hid (show addC ls = vecC (sumG ls) from by unfold addC; rw [ha]; rfl)
  have HA := Lib.hid (show addL ls = vecL (sumG ls) from by unfold addL; rw [ha]; rfl)
  have C1 := Lib.hid (fun W h => ha ▸ vecContains ls A c W HL.out h)
  clear ha
  go_enter Tryz.func83, Tryz.ntmps83
  go_wp2_with (go_at_call 98; (with_reducible refine (C1.out _ HR.out).mono ?_); rintro e w1 ⟨rfl, hb1⟩; obtain ⟨fc1, fg1, hc1, hf1, hz1⟩ := bget hb1; try simp at hz1)
  have Hb1 := Lib.hid hb1
  clear hc1 hf1 hb1
  go_loopw [4, 5] (fun v i wr => ∃ j : Nat, j ≤ 8 ∧ i = .int .i64 ((j : Int) + 1) ∧ fitN (sumG ls) j = true ∧ Own wr w.heap.size 162 2 v ((sumsL (sumG ls) j).map encLeg) ∧ Below w.heap.size w wr) (fun _ i _ => 9 - (intOf i).toNat)
  case atStart => exact ⟨0, Nat.zero_le _, rfl, rfl, Own.nil _ _ _ _, Hb1.out⟩
  case round =>
    obtain ⟨j, hj, rfl, hfit, hown, hbl⟩ := hrel
    have Hfit := Lib.hid hfit
    have Hown := Lib.hid hown
    have Hbl := Lib.hid hbl
    have hz := hbl.size
    have hsl := sumsL_len (sumG ls) j
    clear hfit hown hbl
    by_cases h8 : j < 8
    · have d8 : decide ((j : Int) + 1 ≤ 8) = true := by simp; omega
      obtain ⟨wo, hwo⟩ : ∃ wo : World, wo = wr := ⟨_, rfl⟩
      subst hwo
      go_wp2_with fail
      go_loopw [6, 19] (fun v i wr => ∃ k : Nat, k ≤ ls.length ∧ i = .int .i64 k ∧ Own wr wo.heap.size 2 1 v (((ls.map (getF ((j : Int) + 1))).take k).map encI) ∧ Below wo.heap.size wo wr) (fun _ i _ => ls.length - (intOf i).toNat)
      case atStart => exact ⟨0, Nat.zero_le _, rfl, Own.nil _ _ _ _, Below.refl _ _⟩
      case round =>
        obtain ⟨k, hk, rfl, hown2, hbl2⟩ := hrel
        have Hown2 := Lib.hid hown2
        have Hbl2 := Lib.hid hbl2
        have hz2 := hbl2.size
        clear hown2 hbl2
        by_cases hlt : k < ls.length
        · obtain ⟨b, o, B, d, rfl, hb, hq, hrk⟩ := HR.out.row hlt
          have hball := Hbl.out.trans (Hbl2.out.mono hz)
          have e0 := (hball.cell (p := ⟨b, o + k, none⟩) hb).trans hq
          have HK := Lib.hid (hrk.keep hball)
          have HKL := HL.out.pt hlt
          have HS : Hid (((ls.map (getF ((j : Int) + 1))).take (k + 1)).map encI = ((ls.map (getF ((j : Int) + 1))).take k).map encI ++ [encI (getF ((j : Int) + 1) ls[k])]) := by
            unfold Hid; rw [map_snoc (by simpa using hlt)]; simp
          have hlen : (((ls.map (getF ((j : Int) + 1))).take k).map encI).length ≤ k := by simp; omega
          clear hq hrk hball
          obtain ⟨g, hg⟩ : ∃ g, g = getF ((j : Int) + 1) ls[k] := ⟨_, rfl⟩
          have c3 := fun W (h : Rd W B 2 (ls[k].map encLeg)) => vecGet ls[k] ((j : Int) + 1) B d W HKL h
          rw [← hg] at HS c3
          have C3 := Lib.hid c3
          clear hg c3
          go_wp2_with (first | (go_at_call 100; (with_reducible refine (C3.out _ HK.out.rd).mono ?_); rintro e w3 ⟨rfl, hb3⟩; have hz3 := hb3.size; have Hb3 := Lib.hid hb3; clear hb3) | (at_builtin; refine wpList_app rfl _ _ _ rfl elI wo.heap.size _ _ rfl ((Hown2.out.keep Hb3.out).alloc _) (some ⟨w3.heap.size, 0, none⟩) 1 1 rfl [encI g] rfl (fun h => by cases h) rd_one (rowsI [g]) (by unfold maxLen; omega) (by omega) (by simp; omega) ?_; intro v' w4 hown4 hb4))
          go_roundw
          case rel => exact ⟨k + 1, by omega, by go_num, by rw [HS.out]; exact hown4, ((Hbl2.out.trans (Hb3.out.mono hz2)).alloc (by omega) _).trans hb4⟩
          case measure => simp [intOf]; omega
        · obtain rfl : k = ls.length := by omega
          have ho := Hown2.out
          rw [List.take_of_length_le (by simp)] at ho
          obtain ⟨A', c', rfl, _, _, hr', _⟩ := ho.shape
          obtain ⟨is, his⟩ : ∃ is, is = ls.map (getF ((j : Int) + 1)) := ⟨_, rfl⟩
          have hisl : is.length = ls.length := by rw [his, List.length_map]
          have hsum : is.sum = sumG ls ((j : Int) + 1) := by rw [his]; rfl
          have hi64 : ∀ n ∈ is, In64 n := by
            rw [his]; intro n hn; obtain ⟨l, h1, rfl⟩ := List.mem_map.1 hn; exact get64 (H64.out l h1)
          rw [← his] at hr'
          have Hr' := Lib.hid hr'
          have I64 := Lib.hid hi64
          have lis : is.length ≤ 1099511627776 := by omega
          rw [← his]
          have HSM := Lib.hid hsum
          clear hr' ho his hi64 hisl hsum
          simp only [List.length_map]
          cases h64 : in64 is.sum
          · have N64 := Lib.hid (in64_no h64)
            have HF := Lib.hid (fit_no (f := sumG ls) h8 (by rw [← HSM.out]; exact h64))
            clear h64
            go_wp2_with (go_at_call 26; (with_reducible refine (fixSumNo is A' c' _ lis I64.out Hr'.out N64.out).mono ?_); rintro e w5 ⟨rfl, hb5⟩; have Hb5 := Lib.hid hb5; clear hb5)
            go_ret2
            exact ⟨_, by rw [HC.out, vecC, HF.out]; rfl, by rw [HA.out, vecL, HF.out]; exact Own.nil _ _ _ _, Hbl.out.trans ((Hbl2.out.mono hz).trans (Hb5.out.mono (by omega)))⟩
          · have N64 := Lib.hid (in64_iff.1 h64)
            have HF := Lib.hid (show fitN (sumG ls) (j + 1) = true from by rw [fitN, Hfit.out, ← HSM.out, h64]; rfl)
            clear h64
            obtain ⟨n, hn⟩ : ∃ n, n = is.sum := ⟨_, rfl⟩
            have c5 := fun W h => fixSumYes is A' c' W lis I64.out h N64.out
            rw [← hn] at HSM c5
            have C5 := Lib.hid c5
            clear c5 hn
            cases hq : (n == 0)
            · have hne : sumsL (sumG ls) (j + 1) = sumsL (sumG ls) j ++ [⟨(j : Int) + 1, n⟩] := by
                rw [sumsL, ← HSM.out, if_neg (by simpa using hq)]
              have HNE := Lib.hid hne
              clear hne
              go_wp2_with (first | (go_at_call 26; (with_reducible refine (C5.out _ Hr'.out).mono ?_); rintro e w5 ⟨rfl, hb5⟩; have hz5 := hb5.size; have Hb5 := Lib.hid hb5; clear hb5) | (at_builtin; refine wpList_app rfl _ _ _ rfl elLeg w.heap.size _ _ rfl (((Hown.out.keep Hbl2.out).keep Hb5.out).alloc _) (some ⟨w5.heap.size, 0, none⟩) 1 1 rfl [encLeg ⟨(j : Int) + 1, n⟩] rfl (fun h => by cases h) rd_one (rowsLeg [⟨(j : Int) + 1, n⟩]) (by unfold maxLen; simp; omega) (by simp; omega) (by simp; omega) ?_; intro v' w6 hown6 hb6))
              go_roundw
              case rel => exact ⟨j + 1, by omega, by go_num, HF.out, by rw [HNE.out, List.map_append]; exact hown6, ((Hbl.out.trans ((Hbl2.out.mono hz).trans (Hb5.out.mono (by omega)))).alloc (by omega) _).trans hb6⟩
              case measure => simp [intOf]; omega
            · have hne : sumsL (sumG ls) (j + 1) = sumsL (sumG ls) j := by
                rw [sumsL, ← HSM.out, if_pos (by simpa using hq), List.append_nil]
              have HNE := Lib.hid hne
              clear hne
              go_wp2_with (go_at_call 26; (with_reducible refine (C5.out _ Hr'.out).mono ?_); rintro e w5 ⟨rfl, hb5⟩; have hz5 := hb5.size; have Hb5 := Lib.hid hb5; clear hb5)
              go_roundw
              case rel => exact ⟨j + 1, by omega, by go_num, HF.out, by rw [HNE.out]; exact (Hown.out.keep Hbl2.out).keep Hb5.out, Hbl.out.trans ((Hbl2.out.mono hz).trans (Hb5.out.mono (by omega)))⟩
              case measure => simp [intOf]; omega
    · obtain rfl : j = 8 := by omega
      go_wp2_with fail
      go_ret2
      exact ⟨_, by rw [HC.out, vecC, Hfit.out]; rfl, by rw [HA.out, vecL, Hfit.out]; exact Hown.out, Hbl.out⟩
end Go.Proofs.YtalgfpegaobacaaGreat

/- Contracts of the reference's Of (11). -/
namespace Go.Proofs.YtalgfpegaobacaaGreat
open Go.RowKit
end Go.Proofs.YtalgfpegaobacaaGreat

/- Contract of the reference's Add (11). -/
namespace Go.Proofs.YtalgfpegaobacaaGreat
open Go.RowKit
end Go.Proofs.YtalgfpegaobacaaGreat

/- Contracts of vec.Neg, Gross, With, Same. -/
namespace Go.Proofs.YtalgfpegaobacaaGreat
open Go.RowKit
end Go.Proofs.YtalgfpegaobacaaGreat

/- Contracts of vec.Gross, With, Same. -/
namespace Go.Proofs.YtalgfpegaobacaaGreat
open Go.RowKit
end Go.Proofs.YtalgfpegaobacaaGreat

/- Contracts of the reference's Same (11), the law's Few, several, lives. -/
namespace Go.Proofs.YtalgfpegaobacaaGreat
open Go.RowKit
theorem Rs.addr {w : World} {k : Nat} {rows : List (List Value)} {A : Option Addr} {c : Nat} (h : Rs w k rows A c) (h0 : 0 < rows.length) : ∃ b o, A = some ⟨b, o, none⟩ ∧ b < w.heap.size := by
  obtain ⟨b, o, hA, hb, _⟩ := h.rd 0 rows[0] (List.getElem?_eq_getElem h0)
  exact ⟨b, o, hA, hb⟩
set_option maxRecDepth 100000 in
set_option maxHeartbeats 1000000 in
theorem law11Few (l : List Leg) (A : Option Addr) (c : Nat) (w : World) (hl : l.length ≤ maxLen) (hr : Rs w 2 (l.map encLeg) A c) :
    Calls Tryz.prog 41 #[.slice A l.length c] w fun e w' => e = .returned (.slice A (l.take 12).length c) ∧ w = w' := by
  have hml : (l.length : Int) ≤ 9223372036854775807 := by unfold maxLen at hl; omega
  have hcap := hr.cap
  have hroom := hr.room
  rw [List.length_map] at hcap
  unfold maxLen at hroom
  by_cases h : 12 < l.length
  · have HT := Lib.hid (show (l.take 12).length = 12 from by rw [List.length_take]; omega)
    obtain ⟨b, o, rfl, hb⟩ := hr.addr (by rw [List.length_map]; omega)
    clear hr
    go_enter Tryz.func41, Tryz.ntmps41
    go_wp2_with fail
    go_ret
    exact ⟨by rw [HT.out]; rfl, rfl⟩
  · have HT := Lib.hid (show (l.take 12).length = l.length from by rw [List.length_take]; omega)
    clear hr
    go_enter Tryz.func41, Tryz.ntmps41
    go_wp2_with fail
    go_ret
    exact ⟨by rw [HT.out]; rfl, rfl⟩
theorem law11FewN (l : List Leg) (m : Nat) (hm : Hid ((l.take 12).length = m)) (A : Option Addr) (c : Nat) (w : World) (hl : l.length ≤ maxLen) (hr : Rs w 2 (l.map encLeg) A c) :
    Calls Tryz.prog 41 #[.slice A l.length c] w fun e w' => e = .returned (.slice A m c) ∧ w = w' := by
  rw [← hm.out]; exact law11Few l A c w hl hr
theorem elLs : Elem Tryz.prog 139 92 1 24 := elem_of Tryz.underlying139 (z := .slice none 0 0) (by kernel_rfl) rfl (by omega)
theorem rows1 (v : Value) (h : v.oneCell' = true) : ∀ r ∈ [enc1 v], r.length = 1 ∧ ∀ u ∈ r, u.oneCell' = true := by
  intro r hr
  simp [enc1] at hr
  subst hr
  exact ⟨rfl, by simp [h]⟩
end Go.Proofs.YtalgfpegaobacaaGreat

/- The law VecAdds: its walk. -/
namespace Go.Proofs.YtalgfpegaobacaaGreat
open Go.RowKit
theorem addL_len (ls : List (List Leg)) : (addL ls).length ≤ 8 := by
  unfold addL vecL
  split
  · split
    · exact sumsL_len _ 8
    · simp
  · simp
end Go.Proofs.YtalgfpegaobacaaGreat

/- Vectors: plain laws. -/
namespace Go.Proofs.YtalgfpegaobacaaGreat
open Go.RowKit
theorem fit_iff {f : Int → Int} : ∀ {n : Nat}, fitN f n = true ↔ ∀ i : Int, 1 ≤ i → i ≤ n → In64 (f i)
  | 0 => by simp [fitN]; intro i h1 h2; omega
  | n + 1 => by
    simp only [fitN, Bool.and_eq_true]
    rw [fit_iff (n := n), in64_iff]
    constructor
    · rintro ⟨h1, h2⟩ i hi1 hi2
      by_cases h : i < (n : Int) + 1
      · exact h1 i hi1 (by omega)
      · have : i = (n : Int) + 1 := by omega
        subst this; exact h2
    · intro h
      exact ⟨fun i h1 h2 => h i h1 (by omega), h _ (by omega) (by omega)⟩
end Go.Proofs.YtalgfpegaobacaaGreat

/- Contracts of the reference's Neg, Gross (11). -/
namespace Go.Proofs.YtalgfpegaobacaaGreat
open Go.RowKit
end Go.Proofs.YtalgfpegaobacaaGreat

/- Contract of the reference's Gross (11). -/
namespace Go.Proofs.YtalgfpegaobacaaGreat
open Go.RowKit
end Go.Proofs.YtalgfpegaobacaaGreat

/- The law VecBack: its walk. -/
namespace Go.Proofs.YtalgfpegaobacaaGreat
open Go.RowKit
end Go.Proofs.YtalgfpegaobacaaGreat

/- The law VecTurns: its walk. -/
namespace Go.Proofs.YtalgfpegaobacaaGreat
open Go.RowKit
end Go.Proofs.YtalgfpegaobacaaGreat

/- Books, plain: where a unit stands; what a book is when a unit has more, and behind a transfer; what stays. No program in sight. -/
namespace Go.Proofs.YtalgfpegaobacaaGreat
open Go.RowKit
theorem addL64B (ls : List (List Leg)) : Legs64 (addL ls) := by
  intro x hx
  unfold addL vecL at hx
  split at hx
  · split at hx
    · rename_i h8
      have : ∀ n : Nat, n ≤ 8 → ∀ x ∈ sumsL (sumG ls) n, In64 x.qty := by
        intro n
        induction n with
        | zero => intro _ x hx; simp [sumsL] at hx
        | succ n ih =>
          intro hn x hx
          simp only [sumsL, List.mem_append] at hx
          rcases hx with hx | hx
          · exact ih (by omega) x hx
          · split at hx
            · simp at hx
            · simp at hx; subst hx
              exact (fit_iff.1 h8) _ (by omega) (by omega)
      exact this 8 (Nat.le_refl _) x hx
    · cases hx
  · cases hx
end Go.Proofs.YtalgfpegaobacaaGreat

/- Instruments: the type. -/
namespace Go.Proofs.YtalgfpegaobacaaGreat
open Go.RowKit
structure Inst where
  id : Int
  mult : Int
  price : Int
  next : Int
  moves : List Int
  deriving DecidableEq
def pricedI (p : Int) : Bool := decide (0 ≤ p) && decide (p ≤ 2147483647)
theorem pricedI_iff {p : Int} : pricedI p = true ↔ 0 ≤ p ∧ p ≤ 2147483647 := by simp [pricedI]
theorem pricedI_no {p : Int} (h : pricedI p = false) : ¬ (0 ≤ p ∧ p ≤ 2147483647) := fun k => by rw [pricedI_iff.2 k] at h; cases h
def farI (m : Int) : Bool := decide (m < -2147483647) || decide (2147483647 < m)
def anyFar (l : List Int) : Bool := l.any farI
/-- Whether an instrument may be. -/
def okI (x : Inst) : Prop := 1 ≤ x.id ∧ x.id ≤ 8 ∧ 1 ≤ x.mult ∧ x.mult ≤ 65536 ∧ (0 ≤ x.price ∧ x.price ≤ 2147483647) ∧ (0 ≤ x.next ∧ x.next ≤ 2147483647) ∧ x.moves.length ≤ 8 ∧ anyFar x.moves = false
instance (x : Inst) : Decidable (okI x) := by unfold okI; infer_instance
def codeI (x : Inst) : Int := if okI x then 0 else 2
theorem codeI_yes {x : Inst} (h : okI x) : codeI x = 0 := if_pos h
theorem codeI_no {x : Inst} (h : ¬ okI x) : codeI x = 2 := if_neg h
theorem okI_move {x : Inst} (h : okI x) {k : Nat} (hk : k < x.moves.length) : -2147483647 ≤ x.moves[k] ∧ x.moves[k] ≤ 2147483647 := by
  have h1 := h.2.2.2.2.2.2.2
  unfold anyFar at h1
  rw [List.any_eq_false] at h1
  have h2 := h1 _ (List.getElem_mem hk)
  simp [farI] at h2
  omega
/-- Whether all that a gain asks is there. -/
def okG (x : Inst) (f t : Int) : Prop := okI x ∧ (0 ≤ f ∧ f ≤ 2147483647) ∧ (0 ≤ t ∧ t ≤ 2147483647)
instance (x : Inst) (f t : Int) : Decidable (okG x f t) := by unfold okG; infer_instance
def okS (x : Inst) (s : Int) : Prop := okI x ∧ 0 ≤ s ∧ s < x.moves.length
instance (x : Inst) (s : Int) : Decidable (okS x s) := by unfold okS; infer_instance
def shockI (x : Inst) (q s : Int) : Int := if okS x s then q * x.mult * x.moves.getD s.toNat 0 else 0
end Go.Proofs.YtalgfpegaobacaaGreat
