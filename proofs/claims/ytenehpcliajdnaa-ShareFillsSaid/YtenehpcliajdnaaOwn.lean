/- Slices of the call's own, row by row; append. No program in sight. -/
import Derived.Test.YtenehpcliajdnaaMem
import Derived.Maps.AppendAt
namespace Go.Proofs.Ytenehpcliajdnaa
open Go.RowKit

theorem flatten_at {k : Nat} : ∀ {rows : List (List Value)} (_ : ∀ r ∈ rows, r.length = k) {i : Nat} {r : List Value} (_ : rows[i]? = some r) {j : Nat} (_ : j < k), rows.flatten[i * k + j]? = r[j]?
  | [], _, i, r, hi, j, _ => by simp at hi
  | a :: rows, hl, 0, r, hi, j, hj => by
    simp at hi; subst hi
    have : j < a.length := by rw [hl a (by simp)]; exact hj
    simp [List.getElem?_append_left this]
  | a :: rows, hl, i + 1, r, hi, j, hj => by
    have ha := hl a (by simp)
    have := flatten_at (rows := rows) (fun r hr => hl r (by simp [hr])) (i := i) (r := r) (by simpa using hi) hj
    rw [List.flatten_cons, List.getElem?_append_right (by rw [ha, Nat.add_mul]; omega), ha, ← this]
    congr 1
    rw [Nat.add_mul]; omega
theorem flatten_length {k : Nat} : ∀ {rows : List (List Value)} (_ : ∀ r ∈ rows, r.length = k), rows.flatten.length = rows.length * k
  | [], _ => by simp
  | a :: rows, hl => by
    rw [List.flatten_cons, List.length_append, hl a (by simp), flatten_length (fun r hr => hl r (by simp [hr])), List.length_cons, Nat.add_mul]; omega

/-- The slice value v owns these rows of k cells each, in a block from 'base' on. -/
def Own (w : World) (base : Nat) (E : TypeId) (k : Nat) (v : Value) (rows : List (List Value)) : Prop :=
  (∀ r ∈ rows, r.length = k) ∧ w.ownsRow base E k v rows.length rows.flatten
/-- The slice value v reads as these rows. -/
def Sl (w : World) (k : Nat) (v : Value) (rows : List (List Value)) : Prop := ∃ A c, v = .slice A rows.length c ∧ rows.length ≤ c ∧ c ≤ maxLen ∧ Rd w A k rows
section
variable {w w' : World} {base E k : Nat} {v : Value} {rows : List (List Value)}
theorem Own.nil (w : World) (base E k : Nat) : Own w base E k (.slice none 0 0) [] := ⟨by simp, World.ownsRow_nil w base E k⟩
theorem Own.made (w : World) {base E k : Nat} (hb : base ≤ w.heap.size) : Own (w.alloc (.cells #[] E)) base E k (.slice (some ⟨w.heap.size, 0, none⟩) 0 0) [] := ⟨by simp, World.ownsRow_made w #[] 0 hb (by unfold maxLen; omega) (by simp)⟩
theorem Own.drew (h : Own w base E k v rows) : Own w.drew base E k v rows := h
theorem Own.alloc (h : Own w base E k v rows) (o : Obj) : Own (w.alloc o) base E k v rows := ⟨h.1, h.2.alloc o⟩
theorem Own.mono (h : Own w base E k v rows) {b : Nat} (hb : b ≤ base) : Own w b E k v rows := by
  refine ⟨h.1, h.2.1, ?_⟩
  rcases h.2.2 with h2 | ⟨g, cap, cur, hv, hg, r⟩
  · exact .inl h2
  · exact .inr ⟨g, cap, cur, hv, Nat.le_trans hb hg, r⟩
/-- A nil slice has no block: its base is whatever one likes. -/
theorem Own.block (h : Own w base E k v rows) : ∀ g, v.ownBlock = some g → base ≤ g ∧ g < w.heap.size := h.2.lt
theorem Own.keep (h : Own w base E k v rows) (hb : Below w.heap.size w w') : Own w' base E k v rows := by
  refine ⟨h.1, h.2.1, ?_⟩
  rcases h.2.2 with h2 | ⟨g, cap, cur, hv, hg, hh, r⟩
  · exact .inl h2
  · exact .inr ⟨g, cap, cur, hv, hg, by rw [hb.block g (Array.getElem?_eq_some_iff.1 hh).1]; exact hh, r⟩
theorem Own.far (h : Own w base E k v rows) {p : Addr} (hp : v.ownBlock ≠ some p.block) (u : Value) : Own (w.setCell p u) base E k v rows := by
  refine ⟨h.1, h.2.1, ?_⟩
  rcases h.2.2 with h2 | ⟨g, cap, cur, hv, hg, hh, r⟩
  · exact .inl h2
  · refine .inr ⟨g, cap, cur, hv, hg, ?_, r⟩
    rw [Below.heap_setCell _ _ _ _ (fun e => hp (by rw [hv, e]; rfl))]
    exact hh
theorem Own.farLow (h : Own w base E k v rows) {p : Addr} (hp : p.block < base) (u : Value) : Own (w.setCell p u) base E k v rows :=
  h.far (fun e => by have := h.block _ e; omega) u
theorem Own.only {g : Nat} (h : Own w base E k v rows) (ho : Only g w w') (hg : v.ownBlock ≠ some g) : Own w' base E k v rows := by
  refine ⟨h.1, h.2.1, ?_⟩
  rcases h.2.2 with h2 | ⟨g', cap, cur, hv, hg', hh, r⟩
  · exact .inl h2
  · exact .inr ⟨g', cap, cur, hv, hg', by rw [ho.block g' (Array.getElem?_eq_some_iff.1 hh).1 (fun e => hg (by rw [hv, e]; rfl))]; exact hh, r⟩
theorem Own.shape (h : Own w base E k v rows) : ∃ A c, v = .slice A rows.length c ∧ rows.length ≤ c ∧ c ≤ maxLen ∧ Rd w A k rows ∧ (rows ≠ [] → ∃ g, A = some ⟨g, 0, none⟩ ∧ base ≤ g ∧ g < w.heap.size) := by
  rcases h.2.2 with ⟨hv, h0⟩ | ⟨g, cap, cur, hv, hg, hh, hc, hm, hs, ht⟩
  · have : rows = [] := List.eq_nil_of_length_eq_zero h0
    subst this
    exact ⟨none, 0, hv, Nat.le_refl _, by unfold maxLen; omega, fun i r hr => by simp at hr, fun hne => absurd rfl hne⟩
  · have hlt := (Array.getElem?_eq_some_iff.1 hh).1
    refine ⟨_, cap, hv, hc, hm, fun i r hr => ⟨g, 0, rfl, hlt, fun j u hu => ?_⟩, fun _ => ⟨g, rfl, hg, hlt⟩⟩
    have hrl := h.1 r (List.mem_of_getElem? hr)
    have hjr : j < k := by
      rw [← hrl]
      rcases Nat.lt_or_ge j r.length with h1 | h1
      · exact h1
      · rw [List.getElem?_eq_none h1] at hu; cases hu
    have hf := flatten_at h.1 hr hjr
    rw [hu, ← ht, List.getElem?_take] at hf
    split at hf
    · rw [Nat.zero_add, cell_of_row w g (i * k + j) cur E (0, 0) hh]
      simpa using hf
    · cases hf
theorem Own.sl (h : Own w base E k v rows) : Sl w k v rows := by
  obtain ⟨A, c, h1, h2, h3, h4, _⟩ := h.shape
  exact ⟨A, c, h1, h2, h3, h4⟩
theorem Own.rd {A : Option Addr} {n c : Nat} (h : Own w base E k (.slice A n c) rows) : Rd w A k rows ∧ n = rows.length ∧ rows.length ≤ c ∧ c ≤ maxLen := by
  obtain ⟨A', c', h1, h2, h3, h4, _⟩ := h.shape
  injection h1 with e1 e2 e3
  subst e1; subst e3
  exact ⟨h4, e2, h2, h3⟩
theorem Sl.keep (h : Sl w k v rows) (hb : Below w.heap.size w w') : Sl w' k v rows := by
  obtain ⟨A, c, h1, h2, h3, h4⟩ := h
  exact ⟨A, c, h1, h2, h3, h4.keep hb⟩
end

/-- A slice type and its element's row of the table. -/
structure Elem (P : Program) (T E k bytes : Nat) : Prop where
  ty : P.underlying T = some (.slice E)
  info : ∃ i z, P.info? E = some i ∧ i.zero = some z ∧ i.size = k ∧ i.bytes = bytes ∧ z.cells.size = k
  pos : 0 < k
theorem elem_of {P : Program} {T E k bytes : Nat} {z : Value} (ht : P.underlying T = some (.slice E)) (h : (P.info? E).map (fun i => (i.zero, i.size, i.bytes)) = some (some z, k, bytes)) (hz : z.cells.size = k) (hk : 0 < k) : Elem P T E k bytes := by
  refine ⟨ht, ?_, hk⟩
  cases hi : P.info? E with
  | none => rw [hi] at h; cases h
  | some i =>
    rw [hi] at h
    simp at h
    exact ⟨i, z, rfl, h.1, h.2.1, h.2.2, hz⟩

theorem rd_cells {w : World} {ad : Addr} {k : Nat} {rows : List (List Value)} (hl : ∀ r ∈ rows, r.length = k) (hr : Rd w (some ad) k rows) (j : Nat) (u : Value) (hu : rows.flatten[j]? = some u) : w.cell? (ad.add j) = some u := by
  have hk : 0 < k := by
    rcases Nat.eq_zero_or_pos k with h0 | h0
    · subst h0
      have : rows.flatten = [] := List.eq_nil_of_length_eq_zero (by rw [flatten_length hl]; omega)
      rw [this] at hu; simp at hu
    · exact h0
  have hj : j < rows.length * k := by
    rw [← flatten_length hl]
    rcases Nat.lt_or_ge j rows.flatten.length with h1 | h1
    · exact h1
    · rw [List.getElem?_eq_none h1] at hu; cases hu
  have hi : j / k < rows.length := Nat.div_lt_of_lt_mul (by rw [Nat.mul_comm]; exact hj)
  obtain ⟨b, o, hA, _, hc⟩ := hr (j / k) rows[j / k] (List.getElem?_eq_getElem hi)
  have hf := flatten_at hl (List.getElem?_eq_getElem hi) (j := j % k) (Nat.mod_lt _ hk)
  have hjk : j / k * k + j % k = j := by rw [Nat.mul_comm]; exact Nat.div_add_mod j k
  rw [hjk, hu] at hf
  have := hc (j % k) u hf.symm
  injection hA with hA
  subst hA
  rw [show o + j / k * k + j % k = o + j from by omega] at this
  rw [show (⟨b, o, none⟩ : Addr).add j = ⟨b, o + j, none⟩ from by unfold Addr.add; split <;> simp_all]
  exact this

/-- append(v, news..): onto a slice of the call's own, whatever is appended. -/
theorem wp_app {P : Program} {o : Oper} {a : Act} {K : Act → World → Prop} {Q : Exit → Act → World → Prop} {w : World} (s x : Operand) (T : TypeId)
    (ho : o.op = .call { callee := .builtin .append, args := #[s, x], argTypes := #[T, T] }) {E k bytes : Nat} (el : Elem P T E k bytes)
    (base : Nat) (v : Value) (rows : List (List Value)) (hs : a.eval s = v) (hown : Own w base E k v rows)
    (A : Option Addr) (m c : Nat) (hx : a.eval x = .slice A m c) (news : List (List Value)) (hm : news.length = m) (hc : A = none → c = 0) (hr : Rd w A k news) (hk : ∀ r ∈ news, r.length = k ∧ ∀ u ∈ r, u.oneCell' = true)
    (h63 : rows.length + m ≤ maxLen) (hbytes : (rows.length + m) * bytes ≤ 140737488355328) (hbase : base ≤ w.heap.size)
    (h : ∀ v' w', Own w' base E k v' (rows ++ news) → Below base w w' → K (a.put o.dst v') w') : o.wp P a w K Q := by
  obtain ⟨i, z, hi, hz, hsize, hby, hzs⟩ := el.info
  have hkl : ∀ r ∈ news, r.length = k := fun r hr => (hk r hr).1
  have hall : ∀ r ∈ rows ++ news, r.length = k := fun r hr => by
    rcases List.mem_append.1 hr with h1 | h1
    · exact hown.1 r h1
    · exact hkl r h1
  rcases A with _ | ad
  · have hc0 := hc rfl
    subst hc0
    have hn : news = [] := by
      rcases news with _ | ⟨r, news⟩
      · rfl
      · obtain ⟨b, o, hA, _⟩ := hr 0 r rfl
        cases hA
    subst hn
    simp at hm
    subst hm
    have hrun := run_append_owned_none (P := P) (w := w) base T o.type E i k el.ty hi v rows.length rows.flatten hown.2
    unfold Oper.wp
    simp [execOp, ho, resolve, invoke, builtin, hs, hx, hrun, Result.andThen]
    exact h v w (by simpa using hown) (Below.refl _ _)
  · refine wp_append_own w s x T ho base E i z k bytes el.ty hi hz hsize hby hzs el.pos v rows.length rows.flatten hs hown.2 ad m c news.flatten hx (by rw [flatten_length hkl, hm]) (rd_cells hkl hr) (fun u hu => by
        obtain ⟨r, hr1, hr2⟩ := List.mem_flatten.1 hu
        exact (hk r hr1).2 u hr2) h63 hbytes hbase fun v' w' h1 h2 _ => ?_
    refine h v' w' ⟨hall, by rw [List.length_append, hm, List.flatten_append]; exact h1⟩ ?_
    exact (Below.refl base w).grown h2 hbase (fun g hg => (hown.block g hg).1)
theorem wpList_app {P : Program} {ops : Array Oper} {rest : List Oper} {o : Oper} {a : Act} {Q : Exit → Act → World → Prop} {w : World} (hgd : o.guard = none) (s x : Operand) (T : TypeId)
    (ho : o.op = .call { callee := .builtin .append, args := #[s, x], argTypes := #[T, T] }) {E k bytes : Nat} (el : Elem P T E k bytes)
    (base : Nat) (v : Value) (rows : List (List Value)) (hs : a.eval s = v) (hown : Own w base E k v rows)
    (A : Option Addr) (m c : Nat) (hx : a.eval x = .slice A m c) (news : List (List Value)) (hm : news.length = m) (hc : A = none → c = 0) (hr : Rd w A k news) (hk : ∀ r ∈ news, r.length = k ∧ ∀ u ∈ r, u.oneCell' = true)
    (h63 : rows.length + m ≤ maxLen) (hbytes : (rows.length + m) * bytes ≤ 140737488355328) (hbase : base ≤ w.heap.size)
    (h : ∀ v' w', Own w' base E k v' (rows ++ news) → Below base w w' → wpList P ops Q rest (a.put o.dst v') w') : wpList P ops Q (o :: rest) a w :=
  wpList_plain hgd fun _ hK => wp_app s x T ho el base v rows hs hown A m c hx news hm hc hr hk h63 hbytes hbase fun v' w' h1 h2 => hK _ _ (h v' w' h1 h2)
/-- The same in a region that draws its order. -/
theorem step_app {P : Program} {ops : Array Oper} {o : Oper} {a : Act} {K : Act → World → Prop} {Q : Exit → Act → World → Prop} {w : World} {R : Prop} (hgd : o.guard = none) (s x : Operand) (T : TypeId)
    (ho : o.op = .call { callee := .builtin .append, args := #[s, x], argTypes := #[T, T] }) {E k bytes : Nat} (el : Elem P T E k bytes)
    (base : Nat) (v : Value) (rows : List (List Value)) (hs : a.eval s = v) (hown : Own w base E k v rows)
    (A : Option Addr) (m c : Nat) (hx : a.eval x = .slice A m c) (news : List (List Value)) (hm : news.length = m) (hc : A = none → c = 0) (hr : Rd w A k news) (hk : ∀ r ∈ news, r.length = k ∧ ∀ u ∈ r, u.oneCell' = true)
    (h63 : rows.length + m ≤ maxLen) (hbytes : (rows.length + m) * bytes ≤ 140737488355328) (hbase : base ≤ w.heap.size)
    (h : ∀ v' w', Own w' base E k v' (rows ++ news) → Below base w w' → K (a.put o.dst v') w') : if Region.wanted o (yielded ops a.tmps) = true then Oper.wp P o a w K Q else R := by
  have hw : Region.wanted o (yielded ops a.tmps) = true := by simp [Region.wanted, hgd]
  rw [if_pos hw]
  exact wp_app s x T ho el base v rows hs hown A m c hx news hm hc hr hk h63 hbytes hbase h
/-- One element, laid in a block of its own ahead of the append. -/
theorem rd_one {w : World} {cs : Array Value} {E k : Nat} : Rd (w.alloc (.cells cs E)) (some ⟨w.heap.size, 0, none⟩) k [cs.toList] := by
  intro i r hr
  match i, hr with
  | 0, hr =>
    simp at hr
    subst hr
    refine ⟨w.heap.size, 0, rfl, by simp, fun j v hv => ?_⟩
    rw [World.cell?_alloc_new]
    simpa using hv
/-- make([]T, 0, n). -/
theorem wpList_mk {P : Program} {ops : Array Oper} {rest : List Oper} {o : Oper} {a : Act} {Q : Exit → Act → World → Prop} {w : World} (hgd : o.guard = none) (l c : Operand) (T : TypeId) (hop : o.op = Op.makeSlice T l c)
    {E k bytes : Nat} (el : Elem P T E k bytes) (base : Nat) (kl kc : IntKind) (C : Int) (n : Nat) (hl : a.eval l = .int kl 0) (hc : a.eval c = .int kc C) (hC : C = (n : Int)) (b2 : bytes * n ≤ 281474976710656) (b3 : n ≤ maxLen) (hbase : base ≤ w.heap.size)
    (h : ∀ w', Own w' base E k (.slice (some ⟨w.heap.size, 0, none⟩) 0 n) [] → Below w.heap.size w w' → wpList P ops Q rest (a.put o.dst (.slice (some ⟨w.heap.size, 0, none⟩) 0 n)) w') : wpList P ops Q (o :: rest) a w := by
  obtain ⟨i, z, hi, hz, hsize, hby, hzs⟩ := el.info
  refine wpList_make_own w hgd l c T hop base E i z k el.ty hi hz hsize kl kc C n hl hc hC (by rw [hby]; exact b2) b3 hbase fun w' h1 h2 => ?_
  exact h w' ⟨by simp, h1⟩ ((Below.refl _ _).grown h2 (Nat.le_refl _) (fun g hg => by cases hg))
/-- A number's one cell. -/
def encI (n : Int) : List Value := [.int .i64 n]
end Go.Proofs.Ytenehpcliajdnaa
