/- Joined: RowL, While. -/
import Derived.Test.YtalgfpegaobacaaJz5
import Derived.Test.YtalgfpegaobacaaJz7
import Derived.Laws.CopyRow
import Derived.Lib.AppendZeros
import Derived.Lib.Overlaps
/- Laws on own rows: the row with its spare, its head; copy, clear, append of noughts. No program in sight. -/
namespace Go.Proofs.Ytalgfpegaobacaa
open Go.RowKit
theorem chunk {α : Type} (k : Nat) : ∀ (m : Nat) (l : List α), l.length = m * k → ∃ rows : List (List α), rows.length = m ∧ (∀ r ∈ rows, r.length = k) ∧ rows.flatten = l
  | 0, l, h => ⟨[], rfl, by simp, by simp at h; subst h; rfl⟩
  | m + 1, l, h => by
    rw [Nat.add_mul] at h
    obtain ⟨rows, h1, h2, h3⟩ := chunk k m (l.drop k) (by rw [List.length_drop]; omega)
    refine ⟨l.take k :: rows, by simp [h1], fun r hr => ?_, by rw [List.flatten_cons, h3, List.take_append_drop]⟩
    rcases List.mem_cons.1 hr with rfl | hr
    · rw [List.length_take]; omega
    · exact h2 r hr
theorem flatten_take {k : Nat} {rows : List (List Value)} (hl : ∀ r ∈ rows, r.length = k) (m : Nat) : (rows.take m).flatten = rows.flatten.take (m * k) := by
  rcases Nat.le_total m rows.length with h | h
  · have h1 : ((rows.take m).flatten).length = m * k := by
      rw [flatten_length (fun r hr => hl r (List.mem_of_mem_take hr)), List.length_take, Nat.min_eq_left h]
    conv => rhs; rw [← List.take_append_drop m rows, List.flatten_append, ← h1, List.take_left]
  · rw [List.take_of_length_le h, List.take_of_length_le (by rw [flatten_length hl]; exact Nat.mul_le_mul_right _ h)]
theorem flatten_drop {k : Nat} {rows : List (List Value)} (hl : ∀ r ∈ rows, r.length = k) (m : Nat) : (rows.drop m).flatten = rows.flatten.drop (m * k) := by
  rcases Nat.le_total m rows.length with h | h
  · have h1 : ((rows.take m).flatten).length = m * k := by
      rw [flatten_length (fun r hr => hl r (List.mem_of_mem_take hr)), List.length_take, Nat.min_eq_left h]
    conv => rhs; rw [← List.take_append_drop m rows, List.flatten_append, ← h1, List.drop_left]
  · rw [List.drop_eq_nil_of_le h, List.drop_eq_nil_of_le (by rw [flatten_length hl]; exact Nat.mul_le_mul_right _ h)]; rfl
section
variable {w : World} {base E k : Nat} {g n c : Nat} {rows : List (List Value)}
theorem Own.raw (h : Own w base E k (.slice (some ⟨g, 0, none⟩) n c) rows) : ∃ cur, w.heap[g]? = some (.cells cur E (0, 0)) ∧ base ≤ g ∧ n = rows.length ∧ n ≤ c ∧ c ≤ maxLen ∧ cur.size = c * k ∧ cur.toList.take (n * k) = rows.flatten := by
  have hn := (h.rd).2.1
  rcases h.2.2 with ⟨h1, _⟩ | ⟨g', cap, cur, h1, hg, hh, hc, hm, hs, ht⟩
  · cases h1
  · injection h1 with e1 e2 e3
    injection e1 with e1
    injection e1 with e1 _ _
    subst e1 e3
    exact ⟨cur, hh, hg, hn, by omega, hm, hs, by rw [hn]; exact ht⟩
theorem own_of (hall : ∀ r ∈ rows, r.length = k) {cur : Array Value} (hh : w.heap[g]? = some (.cells cur E (0, 0))) (hg : base ≤ g) (hn : n = rows.length) (hc : n ≤ c) (hm : c ≤ maxLen) (hs : cur.size = c * k) (ht : cur.toList.take (n * k) = rows.flatten) : Own w base E k (.slice (some ⟨g, 0, none⟩) n c) rows := by
  subst hn
  exact ⟨hall, flatten_length hall, .inr ⟨g, c, cur, rfl, hg, hh, hc, hm, hs, ht⟩⟩
theorem Own.head (h : Own w base E k (.slice (some ⟨g, 0, none⟩) n c) rows) {m : Nat} (hm : m ≤ n) : Own w base E k (.slice (some ⟨g, 0, none⟩) m c) (rows.take m) := by
  obtain ⟨cur, hh, hg, hn, hc, hmx, hs, ht⟩ := h.raw
  refine own_of (fun r hr => h.1 r (List.mem_of_mem_take hr)) hh hg (by rw [List.length_take]; omega) (by omega) hmx hs ?_
  rw [flatten_take h.1, ← ht, List.take_take, Nat.min_eq_left (Nat.mul_le_mul_right _ hm)]
/-- With its spare, whatever that holds. -/
theorem Own.full (h : Own w base E k (.slice (some ⟨g, 0, none⟩) n c) rows) : ∃ junk, junk.length = c - n ∧ Own w base E k (.slice (some ⟨g, 0, none⟩) c c) (rows ++ junk) := by
  obtain ⟨cur, hh, hg, hn, hc, hmx, hs, ht⟩ := h.raw
  have hle : n * k ≤ c * k := Nat.mul_le_mul_right _ hc
  obtain ⟨junk, h1, h2, h3⟩ := chunk k (c - n) (cur.toList.drop (n * k)) (by rw [List.length_drop, Array.length_toList, hs, Nat.sub_mul])
  refine ⟨junk, h1, own_of (fun r hr => ?_) hh hg (by rw [List.length_append]; omega) (Nat.le_refl _) hmx hs ?_⟩
  · rcases List.mem_append.1 hr with hr | hr
    · exact h.1 r hr
    · exact h2 r hr
  · rw [List.flatten_append, h3, ← ht, List.take_append_drop, List.take_of_length_le (by rw [Array.length_toList, hs]; exact Nat.le_refl _)]
theorem Only.setRow (_hh : g < w.heap.size) (cs : Array Value) : Only g w (w.setRow g cs) := ⟨rfl, rfl, rfl, by simp [World.setRow], fun i _ hne => setRow_other w g i cs (by exact fun e => hne e)⟩
/-- Rows laid over others from the place d on. -/
def lay (rows src : List (List Value)) (d : Nat) : List (List Value) := rows.take d ++ src ++ rows.drop (d + src.length)
theorem lay_len {src : List (List Value)} {d : Nat} (h : d + src.length ≤ rows.length) : (lay rows src d).length = rows.length := by unfold lay; simp; omega
theorem lay_mem {src : List (List Value)} {d : Nat} {r : List Value} (h : r ∈ lay rows src d) : r ∈ rows ∨ r ∈ src := by
  unfold lay at h
  rcases List.mem_append.1 h with h | h
  · rcases List.mem_append.1 h with h | h
    · exact .inl (List.mem_of_mem_take h)
    · exact .inr h
  · exact .inl (List.mem_of_mem_drop h)
theorem Own.laid (h : Own w base E k (.slice (some ⟨g, 0, none⟩) n c) rows) {src : List (List Value)} (hsrc : ∀ r ∈ src, r.length = k) {d : Nat} (hd : d + src.length ≤ n) {cur : Array Value} (hcur : w.heap[g]? = some (.cells cur E (0, 0))) :
    Own (w.setRow g (cur.toList.take (d * k) ++ src.flatten ++ cur.toList.drop (d * k + src.flatten.length)).toArray) base E k (.slice (some ⟨g, 0, none⟩) n c) (lay rows src d) := by
  obtain ⟨cur', hh, hg, hn, hc, hmx, hs, ht⟩ := h.raw
  rw [hcur] at hh
  injection hh with hh
  injection hh with hh _ _
  subst hh
  have hfl := flatten_length hsrc
  have hle : n * k ≤ c * k := Nat.mul_le_mul_right _ hc
  have hdl : d * k + src.length * k ≤ n * k := by rw [← Nat.add_mul]; exact Nat.mul_le_mul_right _ hd
  have hall : ∀ r ∈ lay rows src d, r.length = k := fun r hr => by
    rcases lay_mem hr with h1 | h1
    · exact h.1 r h1
    · exact hsrc r h1
  refine own_of hall (setRow_heap w g cur _ E (0, 0) hcur) hg (by rw [lay_len (by omega)]; exact hn) hc hmx ?_ ?_
  · simp only [List.size_toArray, List.length_append, List.length_take, List.length_drop, Array.length_toList, hfl, hs]
    omega
  · unfold lay
    rw [List.flatten_append, List.flatten_append, flatten_take h.1, flatten_drop h.1, ← ht]
    simp only []
    have hcl : cur.toList.length = c * k := by rw [Array.length_toList, hs]
    rw [List.take_take, Nat.min_eq_left (by omega), List.drop_take, Nat.add_mul]
    rw [List.take_append, List.take_append]
    simp only [List.length_append, List.length_take, hcl, hfl]
    rw [List.take_of_length_le (show (cur.toList.take (d * k)).length ≤ n * k by rw [List.length_take]; omega)]
    rw [List.take_of_length_le (show src.flatten.length ≤ n * k - min (d * k) (c * k) by rw [hfl]; omega)]
    congr 2
    omega
theorem run_copy_k {P : Program} (w : World) (dT sT ty elem : TypeId) (g o dLen dCap : Nat) (a : Addr) (sLen sCap : Nat) (cur : Array Value) (t : TypeId) (cs : List Value) {k : Nat}
    (hu : P.underlying dT = some (.slice elem)) {i : TypeInfo} (hi : P.info? elem = some i) (hk : i.size = k)
    (hg : w.heap[g]? = some (.cells cur t (0, 0))) (hn : cs.length = Nat.min sLen dLen * k)
    (hsrc : ∀ j v, cs[j]? = some v → w.cell? (a.add j) = some v) (hfit : o + cs.length ≤ cur.size) (h1 : ∀ v ∈ cs, v.oneCell' = true) :
    (Builtin.copy_ #[dT, sT] ty #[.slice (some ⟨g, o, none⟩) dLen dCap, .slice (some a) sLen sCap]).run P w =
      .ok (goInt (Nat.min sLen dLen)) (w.setRow g (cur.toList.take o ++ cs ++ cur.toList.drop (o + cs.length)).toArray) := by
  have hl := run_loadCells_list (P := P) w a cs hsrc
  have hst := run_storeCells_at P g o t cs 0 cur w hg (by simpa using hfit) h1
  rw [hn] at hl
  simp [Builtin.copy_, run_underlying hu, Builtin.lenOf, Builtin.firstCells, sizeOf, typeInfo, hi, hk, hl, hst]
end
/-- copy(dst, src): onto rows of the call's own, from the place d on; what is copied is known as rows. -/
theorem wp_copyR {P : Program} {o : Oper} {a : Act} {K : Act → World → Prop} {Q : Exit → Act → World → Prop} {w : World} (x y : Operand) (T T' : TypeId)
    (ho : o.op = .call { callee := .builtin .copy, args := #[x, y], argTypes := #[T, T'] }) {E k bytes : Nat} (el : Elem P T E k bytes)
    {base g n c d dLen dCap sLen sCap : Nat} {ad : Addr} {rows src : List (List Value)} (hx : a.eval x = .slice (some ⟨g, d * k, none⟩) dLen dCap) (hy : a.eval y = .slice (some ad) sLen sCap)
    (hown : Own w base E k (.slice (some ⟨g, 0, none⟩) n c) rows) (hs : src.length = Nat.min sLen dLen) (hd : d + src.length ≤ n) (hr : Rd w (some ad) k src) (hk : ∀ r ∈ src, r.length = k ∧ ∀ u ∈ r, u.oneCell' = true)
    (h : ∀ w', Own w' base E k (.slice (some ⟨g, 0, none⟩) n c) (lay rows src d) → Only g w w' → K (a.put o.dst (goInt (Nat.min sLen dLen))) w') : o.wp P a w K Q := by
  obtain ⟨i, z, hi, hz, hsize, hby, hzs⟩ := el.info
  obtain ⟨cur, hh, hg, hn, hc, hmx, hcs, ht⟩ := hown.raw
  have hkl : ∀ r ∈ src, r.length = k := fun r hr => (hk r hr).1
  have hfl := flatten_length hkl
  have hle : n * k ≤ c * k := Nat.mul_le_mul_right _ hc
  have hdl : d * k + src.length * k ≤ n * k := by rw [← Nat.add_mul]; exact Nat.mul_le_mul_right _ hd
  have hrun := run_copy_k (P := P) w T T' o.type E g (d * k) dLen dCap ad sLen sCap cur E src.flatten el.ty hi hsize hh (by rw [hfl, hs]) (rd_cells hkl hr) (by rw [hfl, hcs]; omega) (fun u hu => by
    obtain ⟨r, hr1, hr2⟩ := List.mem_flatten.1 hu
    exact (hk r hr1).2 u hr2)
  unfold Oper.wp
  simp [execOp, ho, resolve, invoke, builtin, hx, hy, hrun, Result.andThen]
  have hlaid := hown.laid hkl hd hh
  simp only [List.append_assoc, List.length_flatten] at hlaid
  exact h _ hlaid (Only.setRow (Array.getElem?_eq_some_iff.1 hh).1 _)
theorem wpList_copyR {P : Program} {ops : Array Oper} {rest : List Oper} {o : Oper} {a : Act} {Q : Exit → Act → World → Prop} {w : World} (hgd : o.guard = none) (x y : Operand) (T T' : TypeId)
    (ho : o.op = .call { callee := .builtin .copy, args := #[x, y], argTypes := #[T, T'] }) {E k bytes : Nat} (el : Elem P T E k bytes)
    {base g n c d dLen dCap sLen sCap : Nat} {ad : Addr} {rows src : List (List Value)} (hx : a.eval x = .slice (some ⟨g, d * k, none⟩) dLen dCap) (hy : a.eval y = .slice (some ad) sLen sCap)
    (hown : Own w base E k (.slice (some ⟨g, 0, none⟩) n c) rows) (hs : src.length = Nat.min sLen dLen) (hd : d + src.length ≤ n) (hr : Rd w (some ad) k src) (hk : ∀ r ∈ src, r.length = k ∧ ∀ u ∈ r, u.oneCell' = true)
    (h : ∀ w', Own w' base E k (.slice (some ⟨g, 0, none⟩) n c) (lay rows src d) → Only g w w' → wpList P ops Q rest (a.put o.dst (goInt (Nat.min sLen dLen))) w') : wpList P ops Q (o :: rest) a w :=
  wpList_plain hgd fun _ hK => wp_copyR x y T T' ho el hx hy hown hs hd hr hk fun w' h1 h2 => hK _ _ (h w' h1 h2)
theorem step_copyR {P : Program} {ops : Array Oper} {o : Oper} {a : Act} {K : Act → World → Prop} {Q : Exit → Act → World → Prop} {w : World} {R : Prop} (hgd : o.guard = none) (x y : Operand) (T T' : TypeId)
    (ho : o.op = .call { callee := .builtin .copy, args := #[x, y], argTypes := #[T, T'] }) {E k bytes : Nat} (el : Elem P T E k bytes)
    {base g n c d dLen dCap sLen sCap : Nat} {ad : Addr} {rows src : List (List Value)} (hx : a.eval x = .slice (some ⟨g, d * k, none⟩) dLen dCap) (hy : a.eval y = .slice (some ad) sLen sCap)
    (hown : Own w base E k (.slice (some ⟨g, 0, none⟩) n c) rows) (hs : src.length = Nat.min sLen dLen) (hd : d + src.length ≤ n) (hr : Rd w (some ad) k src) (hk : ∀ r ∈ src, r.length = k ∧ ∀ u ∈ r, u.oneCell' = true)
    (h : ∀ w', Own w' base E k (.slice (some ⟨g, 0, none⟩) n c) (lay rows src d) → Only g w w' → K (a.put o.dst (goInt (Nat.min sLen dLen))) w') : if Region.wanted o (yielded ops a.tmps) = true then Oper.wp P o a w K Q else R := by
  have hw : Region.wanted o (yielded ops a.tmps) = true := by simp [Region.wanted, hgd]
  rw [if_pos hw]
  exact wp_copyR x y T T' ho el hx hy hown hs hd hr hk h
theorem zero_rows {z : Array Value} {k : Nat} (hz : z.size = k) (n : Nat) : ∃ junk : List (List Value), junk.length = n ∧ (∀ r ∈ junk, r.length = k) ∧ junk.flatten = (Builtin.zeroCells z n).toList :=
  chunk k n _ (by rw [Array.length_toList, size_zeroCells, hz])
/-- append(s, make(S, m)...): more than fits. -/
theorem wp_appZ {P : Program} {o : Oper} {a : Act} {K : Act → World → Prop} {Q : Exit → Act → World → Prop} {w : World} (x y : Operand) (T T' : TypeId) {kn : IntKind} (hT' : P.underlying T' = some (.int kn))
    (ho : o.op = .call { callee := .builtin .append, args := #[x, y], argTypes := #[T, T'] }) {E k bytes : Nat} (el : Elem P T E k bytes)
    {sLen sCap m : Nat} {ad : Addr} {kk : IntKind} {M : Int} {rows : List (List Value)} (hx : a.eval x = .slice (some ad) sLen sCap) (hy : a.eval y = .int kk M) (hM : M = (m : Int)) (hl : rows.length = sLen) (hr : Rd w (some ad) k rows) (hk : ∀ r ∈ rows, r.length = k)
    {N : Nat} (hN : sLen + m = N) (hgrow : sCap < sLen + m) (h0 : 0 < m) (h63 : sLen + m ≤ maxLen) (hbytes : (sLen + m) * bytes ≤ 140737488355328)
    (h : ∀ w' c junk, junk.length = m → Own w' w.heap.size E k (.slice (some ⟨w.heap.size, 0, none⟩) N c) (rows ++ junk) → Below w.heap.size w w' → K (a.put o.dst (.slice (some ⟨w.heap.size, 0, none⟩) N c)) w') : o.wp P a w K Q := by
  subst hM hN
  obtain ⟨i, z, hi, hz, hsize, hby, hzs⟩ := el.info
  have hpos := el.pos
  have hmx : sLen + m ≤ 9223372036854775807 := by unfold maxLen at h63; omega
  have hn : ¬ (sLen + m ≤ sCap) := by omega
  have hw : IntKind.i64.wrap (m : Int) = m := by rw [IntKind.wrap_i64]; omega
  have h63' : ¬ (9223372036854775807 < ((sLen : Int) + (m : Int))) := by omega
  have h48 := growslice_fits (show sCap < sLen + m by omega) hbytes
  have h48' : ¬ (281474976710656 < Builtin.nextslicecap (sLen + m) sCap * bytes) := by omega
  have h48i : ¬ (281474976710656 < (m : Int) * (bytes : Int)) := by
    rw [← Int.natCast_mul]
    have : m * bytes ≤ (sLen + m) * bytes := Nat.mul_le_mul_right _ (by omega)
    omega
  have hneg : ¬ ((m : Int) < 0) := by omega
  have hns : ¬ (m * k = 0) := Nat.mul_ne_zero (by omega) (by omega)
  have hfo := run_firstCells_some (P := P) w.drew k sLen ad sLen sCap rows.flatten (by rw [flatten_length hk, hl]) (by intro j v hv; exact rd_cells hk hr j v hv)
  have hcm : grownCap w (sLen + m) sCap E ≤ maxLen := grownCap_le_maxLen w (sLen + m) sCap E h63
  have hcg := grownCap_ge w (sLen + m) sCap E
  have hrun : (Builtin.append_ #[T, T'] o.type #[.slice (some ad) sLen sCap, .int kk m]).run P w =
      .ok (.slice (some ⟨w.heap.size, 0, none⟩) (sLen + m) (grownCap w (sLen + m) sCap E))
        (w.drew.alloc (.cells (rows.flatten.toArray ++ Builtin.zeroCells z.cells m ++ Builtin.zeroCells z.cells (grownCap w (sLen + m) sCap E - (sLen + m))) E)) := by
    simp [Builtin.append_, run_underlying el.ty, run_underlying hT', sizeOf, typeInfo, zeroValue, hi, hz, hsize, hby, asInt, asIntOf, hw, hn, hneg, hns, h63', h48', h48i, Question.forced, hfo, newRow, grownCap]
  obtain ⟨junk, j1, j2, j3⟩ := zero_rows hzs m
  unfold Oper.wp
  simp [execOp, ho, resolve, invoke, builtin, hx, hy, hrun, Result.andThen]
  refine h _ _ junk j1 (own_of (fun r hr => ?_) (heap_alloc_new w.drew _) (Nat.le_refl _) (by rw [List.length_append]; omega) hcg hcm ?_ ?_) ((Below.refl _ _).drew.alloc (Nat.le_refl _) _)
  · rcases List.mem_append.1 hr with hr | hr
    · exact hk r hr
    · exact j2 r hr
  · simp only [Array.size_append, List.size_toArray, size_zeroCells, hzs, flatten_length hk, hl, ← Nat.add_mul]
    congr 1
    omega
  · rw [List.flatten_append, j3]
    simp only [Array.toList_append]
    rw [← List.append_assoc]
    refine List.take_left' ?_
    rw [List.length_append, flatten_length hk, hl, Array.length_toList, size_zeroCells, hzs, ← Nat.add_mul]
theorem wpList_appZ {P : Program} {ops : Array Oper} {rest : List Oper} {o : Oper} {a : Act} {Q : Exit → Act → World → Prop} {w : World} (hgd : o.guard = none) (x y : Operand) (T T' : TypeId) {kn : IntKind} (hT' : P.underlying T' = some (.int kn))
    (ho : o.op = .call { callee := .builtin .append, args := #[x, y], argTypes := #[T, T'] }) {E k bytes : Nat} (el : Elem P T E k bytes)
    {sLen sCap m : Nat} {ad : Addr} {kk : IntKind} {M : Int} {rows : List (List Value)} (hx : a.eval x = .slice (some ad) sLen sCap) (hy : a.eval y = .int kk M) (hM : M = (m : Int)) (hl : rows.length = sLen) (hr : Rd w (some ad) k rows) (hk : ∀ r ∈ rows, r.length = k)
    {N : Nat} (hN : sLen + m = N) (hgrow : sCap < sLen + m) (h0 : 0 < m) (h63 : sLen + m ≤ maxLen) (hbytes : (sLen + m) * bytes ≤ 140737488355328)
    (h : ∀ w' c junk, junk.length = m → Own w' w.heap.size E k (.slice (some ⟨w.heap.size, 0, none⟩) N c) (rows ++ junk) → Below w.heap.size w w' → wpList P ops Q rest (a.put o.dst (.slice (some ⟨w.heap.size, 0, none⟩) N c)) w') : wpList P ops Q (o :: rest) a w :=
  wpList_plain hgd fun _ hK => wp_appZ x y T T' hT' ho el hx hy hM hl hr hk hN hgrow h0 h63 hbytes fun w' c junk h1 h2 h3 => hK _ _ (h w' c junk h1 h2 h3)
/-- clear(s[i:n]) of a row of the call's own: its head stands. -/
theorem wpList_clearR {P : Program} {ops : Array Oper} {rest : List Oper} {o : Oper} {a : Act} {Q : Exit → Act → World → Prop} {w : World} (hgd : o.guard = none) (x : Operand) (T : TypeId)
    (ho : o.op = .call { callee := .builtin .clear, args := #[x], argTypes := #[T] }) {E k bytes : Nat} (el : Elem P T E k bytes) (hone : ∀ z, (P.info? E).bind (·.zero) = some z → ∀ u ∈ z.cells, u.oneCell' = true)
    {base g n c i m cc : Nat} {rows : List (List Value)} {A : Option Addr} (hx : a.eval x = .slice A m cc) (hA : 0 < m → A = some ⟨g, i * k, none⟩) (hm : m = n - i) (hi : i ≤ n)
    (hown : Own w base E k (.slice (some ⟨g, 0, none⟩) n c) rows)
    (h : ∀ w', Own w' base E k (.slice (some ⟨g, 0, none⟩) i c) (rows.take i) → Only g w w' → wpList P ops Q rest (a.put o.dst (.tuple #[])) w') : wpList P ops Q (o :: rest) a w := by
  obtain ⟨ii, z, hii, hz, hsize, hby, hzs⟩ := el.info
  obtain ⟨cur, hh, hg, hn, hc, hmx, hcs, ht⟩ := hown.raw
  refine wpList_plain hgd fun K hK => ?_
  rcases Nat.eq_zero_or_pos m with h0 | h0
  · have hin : i = n := by omega
    have hrun : (Builtin.clear_ #[T] o.type #[.slice A m cc]).run P w = .ok (.tuple #[]) w := by
      subst h0
      cases A <;> simp [Builtin.clear_, run_underlying el.ty]
    unfold Oper.wp
    simp [execOp, ho, resolve, invoke, builtin, hx, hrun, Result.andThen]
    refine hK _ _ (h w ?_ (Only.refl g w))
    exact hown.head hi
  · have hAe := hA h0
    subst hAe
    obtain ⟨junk, j1, j2, j3⟩ := zero_rows hzs m
    have hle : n * k ≤ c * k := Nat.mul_le_mul_right _ hc
    have hdl : i * k + m * k ≤ n * k := by rw [← Nat.add_mul]; exact Nat.mul_le_mul_right _ (by omega)
    have hfl := flatten_length j2
    have hst := run_storeCells_at P g (i * k) E junk.flatten 0 cur w hh (by rw [hfl, hcs, j1]; omega) (fun u hu => by
      rw [j3] at hu
      have hz1 := hone z (by rw [hii]; exact hz)
      simp only [Builtin.zeroCells, Array.toList_map, List.mem_map] at hu
      obtain ⟨j, _, rfl⟩ := hu
      have hkp := el.pos
      have hj : j % z.cells.size < z.cells.size := Nat.mod_lt _ (by rw [hzs]; exact hkp)
      rw [getElem!_pos z.cells _ hj]
      exact hz1 _ (Array.getElem_mem hj))
    rw [j3] at hst
    simp only [Nat.add_zero] at hst
    rw [← j3] at hst
    have hrun : (Builtin.clear_ #[T] o.type #[.slice (some ⟨g, i * k, none⟩) m cc]).run P w = .ok (.tuple #[]) (w.setRow g (cur.toList.take (i * k) ++ junk.flatten ++ cur.toList.drop (i * k + junk.flatten.length)).toArray) := by
      obtain ⟨mm, rfl⟩ : ∃ mm, m = mm + 1 := ⟨m - 1, by omega⟩
      simp [Builtin.clear_, run_underlying el.ty, zeroValue, typeInfo, hii, hz, ← j3, hst]
    unfold Oper.wp
    simp [execOp, ho, resolve, invoke, builtin, hx, hrun, Result.andThen]
    have ho2 := (hown.laid j2 (d := i) (by omega) hh).head hi
    refine hK _ _ (h _ ?_ (Only.setRow (Array.getElem?_eq_some_iff.1 hh).1 _))
    have e : (lay rows junk i).take i = rows.take i := by
      unfold lay
      rw [List.append_assoc, List.take_append_of_le_length (by rw [List.length_take]; omega), List.take_take, Nat.min_self]
    rw [e] at ho2
    simp only [List.append_assoc, List.length_flatten] at ho2
    exact ho2
theorem Blk.shape {w : World} {g : Nat} {t : TypeId} {cs : Array Value} (h : Blk w g t cs) : w.shape? g = some (t, cs.size) := by
  unfold Blk at h
  simp [World.shape?, h]
theorem Own.only' {w w' : World} {base E k : Nat} {g n c : Nat} {rows : List (List Value)} {g' : Nat} (h : Own w base E k (.slice (some ⟨g, 0, none⟩) n c) rows) (ho : Only g' w w') (hne : g ≠ g') : Own w' base E k (.slice (some ⟨g, 0, none⟩) n c) rows :=
  h.only ho (by simp [Value.ownBlock]; exact hne)
theorem Rd.only {w w' : World} {A : Option Addr} {k : Nat} {rows : List (List Value)} {g b o : Nat} (h : Rd w A k rows) (hA : A = some ⟨b, o, none⟩) (ho : Only g w w') (hne : b ≠ g) : Rd w' A k rows := by
  intro i r hr
  obtain ⟨b', o', hA', hlt, hc⟩ := h i r hr
  rw [hA] at hA'
  injection hA' with e
  injection e with e1 e2 _
  subst e1 e2
  exact ⟨b, o, hA, Nat.lt_of_lt_of_le hlt ho.size, fun j v hv => (World.cell?_of_block (w := w) (ho.block b hlt hne)).trans (hc j v hv)⟩
theorem Blk.only {w w' : World} {g g' : Nat} {t : TypeId} {cs : Array Value} (h : Blk w g t cs) (ho : Only g' w w') (hne : g ≠ g') : Blk w' g t cs := (ho.block g h.lt hne).trans h
theorem Blk.rd {w : World} {g k : Nat} {t : TypeId} {cs : Array Value} (h : Blk w g t cs) : Rd w (some ⟨g, 0, none⟩) k [cs.toList] := by
  intro i r hr
  match i, hr with
  | 0, hr =>
    simp at hr
    subst hr
    refine ⟨g, 0, rfl, h.lt, fun j v hv => ?_⟩
    rw [h.cell]
    simpa using hv
theorem Only.undrew {w w' : World} {g : Nat} (h : Only g w.drew w') : Only g w w' := ⟨h.os, h.tape, h.output, h.size, h.block⟩
theorem rd_dropR {w : World} {b o : Nat} {k : Nat} {rows : List (List Value)} (h : Rd w (some ⟨b, o, none⟩) k rows) (n : Nat) : Rd w (some ⟨b, o + n * k, none⟩) k (rows.drop n) := by
  intro i r hr
  rw [List.getElem?_drop] at hr
  obtain ⟨b', o', e, hb, hc⟩ := h _ r hr
  injection e with e
  injection e with e1 e2 _
  subst e1 e2
  exact ⟨b, o + n * k, rfl, hb, fun j v hv => by rw [show o + n * k + i * k + j = o + (n + i) * k + j from by rw [Nat.add_mul]; omega]; exact hc j v hv⟩
theorem ins_grow {rows : List (List Value)} {junk : List (List Value)} {r : List Value} {i : Nat} (hi : i < rows.length) (hj : junk.length = rows.length + 1 - i) : lay (lay (rows.take i ++ junk) [r] i) (rows.drop i) (i + 1) = rows.take i ++ r :: rows.drop i := by
  have h1 : (rows.take i).length = i := by rw [List.length_take]; omega
  have h2 : (rows.take i ++ junk).drop (i + 1) = junk.drop 1 := by
    rw [List.drop_append, h1, List.drop_eq_nil_of_le (by omega), Nat.add_sub_cancel_left]; rfl
  have e1 : lay (rows.take i ++ junk) [r] i = (rows.take i ++ [r]) ++ junk.drop 1 := by
    show (rows.take i ++ junk).take i ++ [r] ++ (rows.take i ++ junk).drop (i + 1) = _
    rw [List.take_left' h1, h2]
  have h3 : (rows.take i ++ [r]).length = i + 1 := by rw [List.length_append, h1]; rfl
  have h4 : ((rows.take i ++ [r]) ++ junk.drop 1).drop (i + 1 + (rows.drop i).length) = [] := by
    apply List.drop_eq_nil_of_le
    rw [List.length_append, h3, List.length_drop, List.length_drop]; omega
  rw [e1]
  unfold lay
  rw [List.take_left' h3, h4]
  simp
theorem ins_room {rows : List (List Value)} {junk : List (List Value)} {r : List Value} {i : Nat} (hi : i < rows.length) (hj : 0 < junk.length) : lay (lay ((rows ++ junk).take (rows.length + 1)) (rows.drop i) (i + 1)) [r] i = rows.take i ++ r :: rows.drop i := by
  have hlen : ((rows ++ junk).take (rows.length + 1)).length = rows.length + 1 := by rw [List.length_take, List.length_append]; omega
  have h5 : ((rows ++ junk).take (rows.length + 1)).drop (i + 1 + (rows.drop i).length) = [] := by
    apply List.drop_eq_nil_of_le
    rw [hlen, List.length_drop]; omega
  have h6 : ((rows ++ junk).take (rows.length + 1)).take (i + 1) = rows.take (i + 1) := by
    rw [List.take_take, Nat.min_eq_left (by omega), List.take_append_of_le_length (by omega)]
  have e1 : lay ((rows ++ junk).take (rows.length + 1)) (rows.drop i) (i + 1) = rows.take (i + 1) ++ rows.drop i := by
    unfold lay
    rw [h5, h6, List.append_nil]
  have h2 : (rows.take (i + 1)).length = i + 1 := by rw [List.length_take]; omega
  have h7 : (rows.take (i + 1) ++ rows.drop i).take i = rows.take i := by
    rw [List.take_append_of_le_length (by omega), List.take_take, Nat.min_eq_left (by omega)]
  rw [e1]
  show (rows.take (i + 1) ++ rows.drop i).take i ++ [r] ++ (rows.take (i + 1) ++ rows.drop i).drop (i + 1) = _
  rw [h7, List.drop_left' h2]
  simp
end Go.Proofs.Ytalgfpegaobacaa

/- Plain lists: where a test ends. -/
namespace Go.Proofs.Ytalgfpegaobacaa
open Go.RowKit
theorem while_cut {α : Type} {p : α → Bool} : ∀ {l : List α} {k : Nat} (_ : ∀ j (_ : j < l.length), j < k → p l[j] = true) (_ : k ≤ l.length) (_ : ∀ h : k < l.length, p l[k] = false), l.takeWhile p = l.take k ∧ l.dropWhile p = l.drop k
  | [], k, _, hk, _ => by simp at hk; subst hk; simp
  | a :: l, 0, _, _, h => by have := h (by simp); simp at this; simp [this]
  | a :: l, k + 1, h, hk, hn => by
    have h0 := h 0 (by simp) (by omega)
    simp at h0
    have := while_cut (p := p) (l := l) (k := k) (fun j hj hjk => by have := h (j + 1) (by simp; omega) (by omega); simpa using this) (by simpa using hk) (fun hk' => by have := hn (by simp; omega); simpa using this)
    simp [h0, this.1, this.2]
theorem rd_oneN {w : World} {cs : Array Value} {t : TypeId} {n k : Nat} (h : n = w.heap.size) : Rd (w.alloc (.cells cs t)) (some ⟨n, 0, none⟩) k [cs.toList] := by subst h; exact rd_one
/-- Whether what stands at a place meets a test. -/
def atB {α : Type} (p : α → Bool) (l : List α) (n : Nat) : Bool := match l[n]? with | some x => p x | none => false
theorem atB_some {α : Type} {p : α → Bool} {l : List α} {n : Nat} (h : n < l.length) : atB p l n = p l[n] := by
  unfold atB; rw [List.getElem?_eq_getElem h]
theorem atB_none {α : Type} {p : α → Bool} {l : List α} {n : Nat} (h : l.length ≤ n) : atB p l n = false := by
  unfold atB; rw [List.getElem?_eq_none h]
theorem tw_take {α : Type} (p : α → Bool) (l : List α) : l.takeWhile p = l.take (l.takeWhile p).length := by
  have h := List.takeWhile_append_dropWhile (p := p) (l := l)
  have h2 := congrArg (List.take (l.takeWhile p).length) h
  rw [List.take_left] at h2
  exact h2
theorem dw_drop {α : Type} (p : α → Bool) (l : List α) : l.dropWhile p = l.drop (l.takeWhile p).length := by
  have h := List.takeWhile_append_dropWhile (p := p) (l := l)
  have h2 := congrArg (List.drop (l.takeWhile p).length) h
  rw [List.drop_left] at h2
  exact h2
theorem tw_len {α : Type} (p : α → Bool) (l : List α) : (l.takeWhile p).length ≤ l.length := by
  have h := congrArg List.length (tw_take p l)
  rw [List.length_take] at h; omega
/-- A slice that a struct holds: its address, its room, and what it reads as. -/
structure SlOf (α : Type) where
  A : Option Addr
  c : Nat
  val : List α
  deriving DecidableEq
theorem rowsJ (l : List Int) : ∀ r ∈ l.map encI, r.length = 1 ∧ ∀ u ∈ r, u.oneCell' = true := by
  intro r hr
  obtain ⟨m, _, rfl⟩ := List.mem_map.1 hr
  exact ⟨rfl, by simp [encI]; rfl⟩
end Go.Proofs.Ytalgfpegaobacaa
