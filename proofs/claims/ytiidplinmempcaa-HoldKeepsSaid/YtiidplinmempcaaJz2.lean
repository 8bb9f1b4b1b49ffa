/- Joined: RowL, While, UnT, KeyP, List, Cap, UnL, Bits. -/
import Derived.Test.YtiidplinmempcaaJz1
import Derived.Laws.CopyRow
import Derived.Lib.AppendZeros
import Derived.Lib.Overlaps
import Derived.Outline
import Derived.Test.YtiidplinmempcaaRows
import Derived.WalkKit
import Derived.WalkSpells
import Derived.WalkLawsBesides
import Derived.BigQuiet
import Derived.Deep.RegionHeld3
import Derived.Deep.RegionLaw
import Derived.Handy
import Derived.Shelf.Strconv.Itoa0
import Derived.Shelf.Bits.Mul64
import Derived.Test.YtiidplinmempcaaProg
/- Laws on own rows: the row with its spare, its head; copy, clear, append of noughts. No program in sight. -/
namespace Go.Proofs.Ytiidplinmempcaa
open Go.RowKit
theorem chunk {α : Type} (k : Nat) : ∀ (m : Nat) (l : List α), l.length = m * k → ∃ rows : List (List α), rows.length = m ∧ (∀ r ∈ rows, r.length = k) ∧ rows.flatten = l
  | 0, l, h => ⟨[], rfl, by simp, by simp at h; subst h; rfl⟩
  | m + 1, l, h => by
    rw [Nat.add_mul] at h
    obtain ⟨rows, h1, h2, h3⟩ := chunk k m (l.drop k) (by rw [List.length_drop]; omega)
    refine ⟨l.take k :: rows, by simp [h1], fun r hr => ?_, by rw [List.flatten_cons, h3, List.take_append_drop]⟩
    rcases List.mem_cons.1 hr with rfl | hr
    · rw [List.length_take]; omega
    · exact h2 r hr
theorem flatten_take {k : Nat} {rows : List (List Value)} (hl : ∀ r ∈ rows, r.length = k) (m : Nat) : (rows.take m).flatten = rows.flatten.take (m * k) := by
  rcases Nat.le_total m rows.length with h | h
  · have h1 : ((rows.take m).flatten).length = m * k := by
      rw [flatten_length (fun r hr => hl r (List.mem_of_mem_take hr)), List.length_take, Nat.min_eq_left h]
    conv => rhs; rw [← List.take_append_drop m rows, List.flatten_append, ← h1, List.take_left]
  · rw [List.take_of_length_le h, List.take_of_length_le (by rw [flatten_length hl]; exact Nat.mul_le_mul_right _ h)]
theorem flatten_drop {k : Nat} {rows : List (List Value)} (hl : ∀ r ∈ rows, r.length = k) (m : Nat) : (rows.drop m).flatten = rows.flatten.drop (m * k) := by
  rcases Nat.le_total m rows.length with h | h
  · have h1 : ((rows.take m).flatten).length = m * k := by
      rw [flatten_length (fun r hr => hl r (List.mem_of_mem_take hr)), List.length_take, Nat.min_eq_left h]
    conv => rhs; rw [← List.take_append_drop m rows, List.flatten_append, ← h1, List.drop_left]
  · rw [List.drop_eq_nil_of_le h, List.drop_eq_nil_of_le (by rw [flatten_length hl]; exact Nat.mul_le_mul_right _ h)]; rfl
section
variable {w : World} {base E k : Nat} {g n c : Nat} {rows : List (List Value)}
theorem Own.raw (h : Own w base E k (.slice (some ⟨g, 0, none⟩) n c) rows) : ∃ cur, w.heap[g]? = some (.cells cur E (0, 0)) ∧ base ≤ g ∧ n = rows.length ∧ n ≤ c ∧ c ≤ maxLen ∧ cur.size = c * k ∧ cur.toList.take (n * k) = rows.flatten := by
  have hn := (h.rd).2.1
  rcases h.2.2 with ⟨h1, _⟩ | ⟨g', cap, cur, h1, hg, hh, hc, hm, hs, ht⟩
  · cases h1
  · injection h1 with e1 e2 e3
    injection e1 with e1
    injection e1 with e1 _ _
    subst e1 e3
    exact ⟨cur, hh, hg, hn, by omega, hm, hs, by rw [hn]; exact ht⟩
theorem own_of (hall : ∀ r ∈ rows, r.length = k) {cur : Array Value} (hh : w.heap[g]? = some (.cells cur E (0, 0))) (hg : base ≤ g) (hn : n = rows.length) (hc : n ≤ c) (hm : c ≤ maxLen) (hs : cur.size = c * k) (ht : cur.toList.take (n * k) = rows.flatten) : Own w base E k (.slice (some ⟨g, 0, none⟩) n c) rows := by
  subst hn
  exact ⟨hall, flatten_length hall, .inr ⟨g, c, cur, rfl, hg, hh, hc, hm, hs, ht⟩⟩
theorem Own.head (h : Own w base E k (.slice (some ⟨g, 0, none⟩) n c) rows) {m : Nat} (hm : m ≤ n) : Own w base E k (.slice (some ⟨g, 0, none⟩) m c) (rows.take m) := by
  obtain ⟨cur, hh, hg, hn, hc, hmx, hs, ht⟩ := h.raw
  refine own_of (fun r hr => h.1 r (List.mem_of_mem_take hr)) hh hg (by rw [List.length_take]; omega) (by omega) hmx hs ?_
  rw [flatten_take h.1, ← ht, List.take_take, Nat.min_eq_left (Nat.mul_le_mul_right _ hm)]
/-- With its spare, whatever that holds. -/
theorem Own.full (h : Own w base E k (.slice (some ⟨g, 0, none⟩) n c) rows) : ∃ junk, junk.length = c - n ∧ Own w base E k (.slice (some ⟨g, 0, none⟩) c c) (rows ++ junk) := by
  obtain ⟨cur, hh, hg, hn, hc, hmx, hs, ht⟩ := h.raw
  have hle : n * k ≤ c * k := Nat.mul_le_mul_right _ hc
  obtain ⟨junk, h1, h2, h3⟩ := chunk k (c - n) (cur.toList.drop (n * k)) (by rw [List.length_drop, Array.length_toList, hs, Nat.sub_mul])
  refine ⟨junk, h1, own_of (fun r hr => ?_) hh hg (by rw [List.length_append]; omega) (Nat.le_refl _) hmx hs ?_⟩
  · rcases List.mem_append.1 hr with hr | hr
    · exact h.1 r hr
    · exact h2 r hr
  · rw [List.flatten_append, h3, ← ht, List.take_append_drop, List.take_of_length_le (by rw [Array.length_toList, hs]; exact Nat.le_refl _)]
theorem Only.setRow (_hh : g < w.heap.size) (cs : Array Value) : Only g w (w.setRow g cs) := ⟨rfl, rfl, rfl, by simp [World.setRow], fun i _ hne => setRow_other w g i cs (by exact fun e => hne e)⟩
/-- Rows laid over others from the place d on. -/
def lay (rows src : List (List Value)) (d : Nat) : List (List Value) := rows.take d ++ src ++ rows.drop (d + src.length)
theorem lay_len {src : List (List Value)} {d : Nat} (h : d + src.length ≤ rows.length) : (lay rows src d).length = rows.length := by unfold lay; simp; omega
theorem lay_mem {src : List (List Value)} {d : Nat} {r : List Value} (h : r ∈ lay rows src d) : r ∈ rows ∨ r ∈ src := by
  unfold lay at h
  rcases List.mem_append.1 h with h | h
  · rcases List.mem_append.1 h with h | h
    · exact .inl (List.mem_of_mem_take h)
    · exact .inr h
  · exact .inl (List.mem_of_mem_drop h)
theorem Own.laid (h : Own w base E k (.slice (some ⟨g, 0, none⟩) n c) rows) {src : List (List Value)} (hsrc : ∀ r ∈ src, r.length = k) {d : Nat} (hd : d + src.length ≤ n) {cur : Array Value} (hcur : w.heap[g]? = some (.cells cur E (0, 0))) :
    Own (w.setRow g (cur.toList.take (d * k) ++ src.flatten ++ cur.toList.drop (d * k + src.flatten.length)).toArray) base E k (.slice (some ⟨g, 0, none⟩) n c) (lay rows src d) := by
  obtain ⟨cur', hh, hg, hn, hc, hmx, hs, ht⟩ := h.raw
  rw [hcur] at hh
  injection hh with hh
  injection hh with hh _ _
  subst hh
  have hfl := flatten_length hsrc
  have hle : n * k ≤ c * k := Nat.mul_le_mul_right _ hc
  have hdl : d * k + src.length * k ≤ n * k := by rw [← Nat.add_mul]; exact Nat.mul_le_mul_right _ hd
  have hall : ∀ r ∈ lay rows src d, r.length = k := fun r hr => by
    rcases lay_mem hr with h1 | h1
    · exact h.1 r h1
    · exact hsrc r h1
  refine own_of hall (setRow_heap w g cur _ E (0, 0) hcur) hg (by rw [lay_len (by omega)]; exact hn) hc hmx ?_ ?_
  · simp only [List.size_toArray, List.length_append, List.length_take, List.length_drop, Array.length_toList, hfl, hs]
    omega
  · unfold lay
    rw [List.flatten_append, List.flatten_append, flatten_take h.1, flatten_drop h.1, ← ht]
    simp only []
    have hcl : cur.toList.length = c * k := by rw [Array.length_toList, hs]
    rw [List.take_take, Nat.min_eq_left (by omega), List.drop_take, Nat.add_mul]
    rw [List.take_append, List.take_append]
    simp only [List.length_append, List.length_take, hcl, hfl]
    rw [List.take_of_length_le (show (cur.toList.take (d * k)).length ≤ n * k by rw [List.length_take]; omega)]
    rw [List.take_of_length_le (show src.flatten.length ≤ n * k - min (d * k) (c * k) by rw [hfl]; omega)]
    congr 2
    omega
theorem run_copy_k {P : Program} (w : World) (dT sT ty elem : TypeId) (g o dLen dCap : Nat) (a : Addr) (sLen sCap : Nat) (cur : Array Value) (t : TypeId) (cs : List Value) {k : Nat}
    (hu : P.underlying dT = some (.slice elem)) {i : TypeInfo} (hi : P.info? elem = some i) (hk : i.size = k)
    (hg : w.heap[g]? = some (.cells cur t (0, 0))) (hn : cs.length = Nat.min sLen dLen * k)
    (hsrc : ∀ j v, cs[j]? = some v → w.cell? (a.add j) = some v) (hfit : o + cs.length ≤ cur.size) (h1 : ∀ v ∈ cs, v.oneCell' = true) :
    (Builtin.copy_ #[dT, sT] ty #[.slice (some ⟨g, o, none⟩) dLen dCap, .slice (some a) sLen sCap]).run P w =
      .ok (goInt (Nat.min sLen dLen)) (w.setRow g (cur.toList.take o ++ cs ++ cur.toList.drop (o + cs.length)).toArray) := by
  have hl := run_loadCells_list (P := P) w a cs hsrc
  have hst := run_storeCells_at P g o t cs 0 cur w hg (by simpa using hfit) h1
  rw [hn] at hl
  simp [Builtin.copy_, run_underlying hu, Builtin.lenOf, Builtin.firstCells, sizeOf, typeInfo, hi, hk, hl, hst]
end
/-- copy(dst, src): onto rows of the call's own, from the place d on; what is copied is known as rows. -/
theorem wp_copyR {P : Program} {o : Oper} {a : Act} {K : Act → World → Prop} {Q : Exit → Act → World → Prop} {w : World} (x y : Operand) (T T' : TypeId)
    (ho : o.op = .call { callee := .builtin .copy, args := #[x, y], argTypes := #[T, T'] }) {E k bytes : Nat} (el : Elem P T E k bytes)
    {base g n c d dLen dCap sLen sCap : Nat} {ad : Addr} {rows src : List (List Value)} (hx : a.eval x = .slice (some ⟨g, d * k, none⟩) dLen dCap) (hy : a.eval y = .slice (some ad) sLen sCap)
    (hown : Own w base E k (.slice (some ⟨g, 0, none⟩) n c) rows) (hs : src.length = Nat.min sLen dLen) (hd : d + src.length ≤ n) (hr : Rd w (some ad) k src) (hk : ∀ r ∈ src, r.length = k ∧ ∀ u ∈ r, u.oneCell' = true)
    (h : ∀ w', Own w' base E k (.slice (some ⟨g, 0, none⟩) n c) (lay rows src d) → Only g w w' → K (a.put o.dst (goInt (Nat.min sLen dLen))) w') : o.wp P a w K Q := by
  obtain ⟨i, z, hi, hz, hsize, hby, hzs⟩ := el.info
  obtain ⟨cur, hh, hg, hn, hc, hmx, hcs, ht⟩ := hown.raw
  have hkl : ∀ r ∈ src, r.length = k := fun r hr => (hk r hr).1
  have hfl := flatten_length hkl
  have hle : n * k ≤ c * k := Nat.mul_le_mul_right _ hc
  have hdl : d * k + src.length * k ≤ n * k := by rw [← Nat.add_mul]; exact Nat.mul_le_mul_right _ hd
  have hrun := run_copy_k (P := P) w T T' o.type E g (d * k) dLen dCap ad sLen sCap cur E src.flatten el.ty hi hsize hh (by rw [hfl, hs]) (rd_cells hkl hr) (by rw [hfl, hcs]; omega) (fun u hu => by
    obtain ⟨r, hr1, hr2⟩ := List.mem_flatten.1 hu
    exact (hk r hr1).2 u hr2)
  unfold Oper.wp
  simp [execOp, ho, resolve, invoke, builtin, hx, hy, hrun, Result.andThen]
  have hlaid := hown.laid hkl hd hh
  simp only [List.append_assoc, List.length_flatten] at hlaid
  exact h _ hlaid (Only.setRow (Array.getElem?_eq_some_iff.1 hh).1 _)
theorem wpList_copyR {P : Program} {ops : Array Oper} {rest : List Oper} {o : Oper} {a : Act} {Q : Exit → Act → World → Prop} {w : World} (hgd : o.guard = none) (x y : Operand) (T T' : TypeId)
    (ho : o.op = .call { callee := .builtin .copy, args := #[x, y], argTypes := #[T, T'] }) {E k bytes : Nat} (el : Elem P T E k bytes)
    {base g n c d dLen dCap sLen sCap : Nat} {ad : Addr} {rows src : List (List Value)} (hx : a.eval x = .slice (some ⟨g, d * k, none⟩) dLen dCap) (hy : a.eval y = .slice (some ad) sLen sCap)
    (hown : Own w base E k (.slice (some ⟨g, 0, none⟩) n c) rows) (hs : src.length = Nat.min sLen dLen) (hd : d + src.length ≤ n) (hr : Rd w (some ad) k src) (hk : ∀ r ∈ src, r.length = k ∧ ∀ u ∈ r, u.oneCell' = true)
    (h : ∀ w', Own w' base E k (.slice (some ⟨g, 0, none⟩) n c) (lay rows src d) → Only g w w' → wpList P ops Q rest (a.put o.dst (goInt (Nat.min sLen dLen))) w') : wpList P ops Q (o :: rest) a w :=
  wpList_plain hgd fun _ hK => wp_copyR x y T T' ho el hx hy hown hs hd hr hk fun w' h1 h2 => hK _ _ (h w' h1 h2)
theorem step_copyR {P : Program} {ops : Array Oper} {o : Oper} {a : Act} {K : Act → World → Prop} {Q : Exit → Act → World → Prop} {w : World} {R : Prop} (hgd : o.guard = none) (x y : Operand) (T T' : TypeId)
    (ho : o.op = .call { callee := .builtin .copy, args := #[x, y], argTypes := #[T, T'] }) {E k bytes : Nat} (el : Elem P T E k bytes)
    {base g n c d dLen dCap sLen sCap : Nat} {ad : Addr} {rows src : List (List Value)} (hx : a.eval x = .slice (some ⟨g, d * k, none⟩) dLen dCap) (hy : a.eval y = .slice (some ad) sLen sCap)
    (hown : Own w base E k (.slice (some ⟨g, 0, none⟩) n c) rows) (hs : src.length = Nat.min sLen dLen) (hd : d + src.length ≤ n) (hr : Rd w (some ad) k src) (hk : ∀ r ∈ src, r.length = k ∧ ∀ u ∈ r, u.oneCell' = true)
    (h : ∀ w', Own w' base E k (.slice (some ⟨g, 0, none⟩) n c) (lay rows src d) → Only g w w' → K (a.put o.dst (goInt (Nat.min sLen dLen))) w') : if Region.wanted o (yielded ops a.tmps) = true then Oper.wp P o a w K Q else R := by
  have hw : Region.wanted o (yielded ops a.tmps) = true := by simp [Region.wanted, hgd]
  rw [if_pos hw]
  exact wp_copyR x y T T' ho el hx hy hown hs hd hr hk h
theorem zero_rows {z : Array Value} {k : Nat} (hz : z.size = k) (n : Nat) : ∃ junk : List (List Value), junk.length = n ∧ (∀ r ∈ junk, r.length = k) ∧ junk.flatten = (Builtin.zeroCells z n).toList :=
  chunk k n _ (by rw [Array.length_toList, size_zeroCells, hz])
/-- append(s, make(S, m)...): more than fits. -/
theorem wp_appZ {P : Program} {o : Oper} {a : Act} {K : Act → World → Prop} {Q : Exit → Act → World → Prop} {w : World} (x y : Operand) (T T' : TypeId) {kn : IntKind} (hT' : P.underlying T' = some (.int kn))
    (ho : o.op = .call { callee := .builtin .append, args := #[x, y], argTypes := #[T, T'] }) {E k bytes : Nat} (el : Elem P T E k bytes)
    {sLen sCap m : Nat} {ad : Addr} {kk : IntKind} {M : Int} {rows : List (List Value)} (hx : a.eval x = .slice (some ad) sLen sCap) (hy : a.eval y = .int kk M) (hM : M = (m : Int)) (hl : rows.length = sLen) (hr : Rd w (some ad) k rows) (hk : ∀ r ∈ rows, r.length = k)
    {N : Nat} (hN : sLen + m = N) (hgrow : sCap < sLen + m) (h0 : 0 < m) (h63 : sLen + m ≤ maxLen) (hbytes : (sLen + m) * bytes ≤ 140737488355328)
    (h : ∀ w' c junk, junk.length = m → Own w' w.heap.size E k (.slice (some ⟨w.heap.size, 0, none⟩) N c) (rows ++ junk) → Below w.heap.size w w' → K (a.put o.dst (.slice (some ⟨w.heap.size, 0, none⟩) N c)) w') : o.wp P a w K Q := by
  subst hM hN
  obtain ⟨i, z, hi, hz, hsize, hby, hzs⟩ := el.info
  have hpos := el.pos
  have hmx : sLen + m ≤ 9223372036854775807 := by unfold maxLen at h63; omega
  have hn : ¬ (sLen + m ≤ sCap) := by omega
  have hw : IntKind.i64.wrap (m : Int) = m := by rw [IntKind.wrap_i64]; omega
  have h63' : ¬ (9223372036854775807 < ((sLen : Int) + (m : Int))) := by omega
  have h48 := growslice_fits (show sCap < sLen + m by omega) hbytes
  have h48' : ¬ (281474976710656 < Builtin.nextslicecap (sLen + m) sCap * bytes) := by omega
  have h48i : ¬ (281474976710656 < (m : Int) * (bytes : Int)) := by
    rw [← Int.natCast_mul]
    have : m * bytes ≤ (sLen + m) * bytes := Nat.mul_le_mul_right _ (by omega)
    omega
  have hneg : ¬ ((m : Int) < 0) := by omega
  have hns : ¬ (m * k = 0) := Nat.mul_ne_zero (by omega) (by omega)
  have hfo := run_firstCells_some (P := P) w.drew k sLen ad sLen sCap rows.flatten (by rw [flatten_length hk, hl]) (by intro j v hv; exact rd_cells hk hr j v hv)
  have hcm : grownCap w (sLen + m) sCap E ≤ maxLen := grownCap_le_maxLen w (sLen + m) sCap E h63
  have hcg := grownCap_ge w (sLen + m) sCap E
  have hrun : (Builtin.append_ #[T, T'] o.type #[.slice (some ad) sLen sCap, .int kk m]).run P w =
      .ok (.slice (some ⟨w.heap.size, 0, none⟩) (sLen + m) (grownCap w (sLen + m) sCap E))
        (w.drew.alloc (.cells (rows.flatten.toArray ++ Builtin.zeroCells z.cells m ++ Builtin.zeroCells z.cells (grownCap w (sLen + m) sCap E - (sLen + m))) E)) := by
    simp [Builtin.append_, run_underlying el.ty, run_underlying hT', sizeOf, typeInfo, zeroValue, hi, hz, hsize, hby, asInt, asIntOf, hw, hn, hneg, hns, h63', h48', h48i, Question.forced, hfo, newRow, grownCap]
  obtain ⟨junk, j1, j2, j3⟩ := zero_rows hzs m
  unfold Oper.wp
  simp [execOp, ho, resolve, invoke, builtin, hx, hy, hrun, Result.andThen]
  refine h _ _ junk j1 (own_of (fun r hr => ?_) (heap_alloc_new w.drew _) (Nat.le_refl _) (by rw [List.length_append]; omega) hcg hcm ?_ ?_) ((Below.refl _ _).drew.alloc (Nat.le_refl _) _)
  · rcases List.mem_append.1 hr with hr | hr
    · exact hk r hr
    · exact j2 r hr
  · simp only [Array.size_append, List.size_toArray, size_zeroCells, hzs, flatten_length hk, hl, ← Nat.add_mul]
    congr 1
    omega
  · rw [List.flatten_append, j3]
    simp only [Array.toList_append]
    rw [← List.append_assoc]
    refine List.take_left' ?_
    rw [List.length_append, flatten_length hk, hl, Array.length_toList, size_zeroCells, hzs, ← Nat.add_mul]
theorem wpList_appZ {P : Program} {ops : Array Oper} {rest : List Oper} {o : Oper} {a : Act} {Q : Exit → Act → World → Prop} {w : World} (hgd : o.guard = none) (x y : Operand) (T T' : TypeId) {kn : IntKind} (hT' : P.underlying T' = some (.int kn))
    (ho : o.op = .call { callee := .builtin .append, args := #[x, y], argTypes := #[T, T'] }) {E k bytes : Nat} (el : Elem P T E k bytes)
    {sLen sCap m : Nat} {ad : Addr} {kk : IntKind} {M : Int} {rows : List (List Value)} (hx : a.eval x = .slice (some ad) sLen sCap) (hy : a.eval y = .int kk M) (hM : M = (m : Int)) (hl : rows.length = sLen) (hr : Rd w (some ad) k rows) (hk : ∀ r ∈ rows, r.length = k)
    {N : Nat} (hN : sLen + m = N) (hgrow : sCap < sLen + m) (h0 : 0 < m) (h63 : sLen + m ≤ maxLen) (hbytes : (sLen + m) * bytes ≤ 140737488355328)
    (h : ∀ w' c junk, junk.length = m → Own w' w.heap.size E k (.slice (some ⟨w.heap.size, 0, none⟩) N c) (rows ++ junk) → Below w.heap.size w w' → wpList P ops Q rest (a.put o.dst (.slice (some ⟨w.heap.size, 0, none⟩) N c)) w') : wpList P ops Q (o :: rest) a w :=
  wpList_plain hgd fun _ hK => wp_appZ x y T T' hT' ho el hx hy hM hl hr hk hN hgrow h0 h63 hbytes fun w' c junk h1 h2 h3 => hK _ _ (h w' c junk h1 h2 h3)
/-- clear(s[i:n]) of a row of the call's own: its head stands. -/
theorem wpList_clearR {P : Program} {ops : Array Oper} {rest : List Oper} {o : Oper} {a : Act} {Q : Exit → Act → World → Prop} {w : World} (hgd : o.guard = none) (x : Operand) (T : TypeId)
    (ho : o.op = .call { callee := .builtin .clear, args := #[x], argTypes := #[T] }) {E k bytes : Nat} (el : Elem P T E k bytes) (hone : ∀ z, (P.info? E).bind (·.zero) = some z → ∀ u ∈ z.cells, u.oneCell' = true)
    {base g n c i m cc : Nat} {rows : List (List Value)} {A : Option Addr} (hx : a.eval x = .slice A m cc) (hA : 0 < m → A = some ⟨g, i * k, none⟩) (hm : m = n - i) (hi : i ≤ n)
    (hown : Own w base E k (.slice (some ⟨g, 0, none⟩) n c) rows)
    (h : ∀ w', Own w' base E k (.slice (some ⟨g, 0, none⟩) i c) (rows.take i) → Only g w w' → wpList P ops Q rest (a.put o.dst (.tuple #[])) w') : wpList P ops Q (o :: rest) a w := by
  obtain ⟨ii, z, hii, hz, hsize, hby, hzs⟩ := el.info
  obtain ⟨cur, hh, hg, hn, hc, hmx, hcs, ht⟩ := hown.raw
  refine wpList_plain hgd fun K hK => ?_
  rcases Nat.eq_zero_or_pos m with h0 | h0
  · have hin : i = n := by omega
    have hrun : (Builtin.clear_ #[T] o.type #[.slice A m cc]).run P w = .ok (.tuple #[]) w := by
      subst h0
      cases A <;> simp [Builtin.clear_, run_underlying el.ty]
    unfold Oper.wp
    simp [execOp, ho, resolve, invoke, builtin, hx, hrun, Result.andThen]
    refine hK _ _ (h w ?_ (Only.refl g w))
    exact hown.head hi
  · have hAe := hA h0
    subst hAe
    obtain ⟨junk, j1, j2, j3⟩ := zero_rows hzs m
    have hle : n * k ≤ c * k := Nat.mul_le_mul_right _ hc
    have hdl : i * k + m * k ≤ n * k := by rw [← Nat.add_mul]; exact Nat.mul_le_mul_right _ (by omega)
    have hfl := flatten_length j2
    have hst := run_storeCells_at P g (i * k) E junk.flatten 0 cur w hh (by rw [hfl, hcs, j1]; omega) (fun u hu => by
      rw [j3] at hu
      have hz1 := hone z (by rw [hii]; exact hz)
      simp only [Builtin.zeroCells, Array.toList_map, List.mem_map] at hu
      obtain ⟨j, _, rfl⟩ := hu
      have hkp := el.pos
      have hj : j % z.cells.size < z.cells.size := Nat.mod_lt _ (by rw [hzs]; exact hkp)
      rw [getElem!_pos z.cells _ hj]
      exact hz1 _ (Array.getElem_mem hj))
    rw [j3] at hst
    simp only [Nat.add_zero] at hst
    rw [← j3] at hst
    have hrun : (Builtin.clear_ #[T] o.type #[.slice (some ⟨g, i * k, none⟩) m cc]).run P w = .ok (.tuple #[]) (w.setRow g (cur.toList.take (i * k) ++ junk.flatten ++ cur.toList.drop (i * k + junk.flatten.length)).toArray) := by
      obtain ⟨mm, rfl⟩ : ∃ mm, m = mm + 1 := ⟨m - 1, by omega⟩
      simp [Builtin.clear_, run_underlying el.ty, zeroValue, typeInfo, hii, hz, ← j3, hst]
    unfold Oper.wp
    simp [execOp, ho, resolve, invoke, builtin, hx, hrun, Result.andThen]
    have ho2 := (hown.laid j2 (d := i) (by omega) hh).head hi
    refine hK _ _ (h _ ?_ (Only.setRow (Array.getElem?_eq_some_iff.1 hh).1 _))
    have e : (lay rows junk i).take i = rows.take i := by
      unfold lay
      rw [List.append_assoc, List.take_append_of_le_length (by rw [List.length_take]; omega), List.take_take, Nat.min_self]
    rw [e] at ho2
    simp only [List.append_assoc, List.length_flatten] at ho2
    exact ho2
theorem Blk.shape {w : World} {g : Nat} {t : TypeId} {cs : Array Value} (h : Blk w g t cs) : w.shape? g = some (t, cs.size) := by
  unfold Blk at h
  simp [World.shape?, h]
theorem Own.only' {w w' : World} {base E k : Nat} {g n c : Nat} {rows : List (List Value)} {g' : Nat} (h : Own w base E k (.slice (some ⟨g, 0, none⟩) n c) rows) (ho : Only g' w w') (hne : g ≠ g') : Own w' base E k (.slice (some ⟨g, 0, none⟩) n c) rows :=
  h.only ho (by simp [Value.ownBlock]; exact hne)
theorem Rd.only {w w' : World} {A : Option Addr} {k : Nat} {rows : List (List Value)} {g b o : Nat} (h : Rd w A k rows) (hA : A = some ⟨b, o, none⟩) (ho : Only g w w') (hne : b ≠ g) : Rd w' A k rows := by
  intro i r hr
  obtain ⟨b', o', hA', hlt, hc⟩ := h i r hr
  rw [hA] at hA'
  injection hA' with e
  injection e with e1 e2 _
  subst e1 e2
  exact ⟨b, o, hA, Nat.lt_of_lt_of_le hlt ho.size, fun j v hv => (World.cell?_of_block (w := w) (ho.block b hlt hne)).trans (hc j v hv)⟩
theorem Blk.only {w w' : World} {g g' : Nat} {t : TypeId} {cs : Array Value} (h : Blk w g t cs) (ho : Only g' w w') (hne : g ≠ g') : Blk w' g t cs := (ho.block g h.lt hne).trans h
theorem Blk.rd {w : World} {g k : Nat} {t : TypeId} {cs : Array Value} (h : Blk w g t cs) : Rd w (some ⟨g, 0, none⟩) k [cs.toList] := by
  intro i r hr
  match i, hr with
  | 0, hr =>
    simp at hr
    subst hr
    refine ⟨g, 0, rfl, h.lt, fun j v hv => ?_⟩
    rw [h.cell]
    simpa using hv
theorem Only.undrew {w w' : World} {g : Nat} (h : Only g w.drew w') : Only g w w' := ⟨h.os, h.tape, h.output, h.size, h.block⟩
theorem rd_dropR {w : World} {b o : Nat} {k : Nat} {rows : List (List Value)} (h : Rd w (some ⟨b, o, none⟩) k rows) (n : Nat) : Rd w (some ⟨b, o + n * k, none⟩) k (rows.drop n) := by
  intro i r hr
  rw [List.getElem?_drop] at hr
  obtain ⟨b', o', e, hb, hc⟩ := h _ r hr
  injection e with e
  injection e with e1 e2 _
  subst e1 e2
  exact ⟨b, o + n * k, rfl, hb, fun j v hv => by rw [show o + n * k + i * k + j = o + (n + i) * k + j from by rw [Nat.add_mul]; omega]; exact hc j v hv⟩
theorem ins_grow {rows : List (List Value)} {junk : List (List Value)} {r : List Value} {i : Nat} (hi : i < rows.length) (hj : junk.length = rows.length + 1 - i) : lay (lay (rows.take i ++ junk) [r] i) (rows.drop i) (i + 1) = rows.take i ++ r :: rows.drop i := by
  have h1 : (rows.take i).length = i := by rw [List.length_take]; omega
  have h2 : (rows.take i ++ junk).drop (i + 1) = junk.drop 1 := by
    rw [List.drop_append, h1, List.drop_eq_nil_of_le (by omega), Nat.add_sub_cancel_left]; rfl
  have e1 : lay (rows.take i ++ junk) [r] i = (rows.take i ++ [r]) ++ junk.drop 1 := by
    show (rows.take i ++ junk).take i ++ [r] ++ (rows.take i ++ junk).drop (i + 1) = _
    rw [List.take_left' h1, h2]
  have h3 : (rows.take i ++ [r]).length = i + 1 := by rw [List.length_append, h1]; rfl
  have h4 : ((rows.take i ++ [r]) ++ junk.drop 1).drop (i + 1 + (rows.drop i).length) = [] := by
    apply List.drop_eq_nil_of_le
    rw [List.length_append, h3, List.length_drop, List.length_drop]; omega
  rw [e1]
  unfold lay
  rw [List.take_left' h3, h4]
  simp
theorem ins_room {rows : List (List Value)} {junk : List (List Value)} {r : List Value} {i : Nat} (hi : i < rows.length) (hj : 0 < junk.length) : lay (lay ((rows ++ junk).take (rows.length + 1)) (rows.drop i) (i + 1)) [r] i = rows.take i ++ r :: rows.drop i := by
  have hlen : ((rows ++ junk).take (rows.length + 1)).length = rows.length + 1 := by rw [List.length_take, List.length_append]; omega
  have h5 : ((rows ++ junk).take (rows.length + 1)).drop (i + 1 + (rows.drop i).length) = [] := by
    apply List.drop_eq_nil_of_le
    rw [hlen, List.length_drop]; omega
  have h6 : ((rows ++ junk).take (rows.length + 1)).take (i + 1) = rows.take (i + 1) := by
    rw [List.take_take, Nat.min_eq_left (by omega), List.take_append_of_le_length (by omega)]
  have e1 : lay ((rows ++ junk).take (rows.length + 1)) (rows.drop i) (i + 1) = rows.take (i + 1) ++ rows.drop i := by
    unfold lay
    rw [h5, h6, List.append_nil]
  have h2 : (rows.take (i + 1)).length = i + 1 := by rw [List.length_take]; omega
  have h7 : (rows.take (i + 1) ++ rows.drop i).take i = rows.take i := by
    rw [List.take_append_of_le_length (by omega), List.take_take, Nat.min_eq_left (by omega)]
  rw [e1]
  show (rows.take (i + 1) ++ rows.drop i).take i ++ [r] ++ (rows.take (i + 1) ++ rows.drop i).drop (i + 1) = _
  rw [h7, List.drop_left' h2]
  simp
end Go.Proofs.Ytiidplinmempcaa

/- Plain lists: where a test ends. -/
namespace Go.Proofs.Ytiidplinmempcaa
open Go.RowKit
theorem while_cut {α : Type} {p : α → Bool} : ∀ {l : List α} {k : Nat} (_ : ∀ j (_ : j < l.length), j < k → p l[j] = true) (_ : k ≤ l.length) (_ : ∀ h : k < l.length, p l[k] = false), l.takeWhile p = l.take k ∧ l.dropWhile p = l.drop k
  | [], k, _, hk, _ => by simp at hk; subst hk; simp
  | a :: l, 0, _, _, h => by have := h (by simp); simp at this; simp [this]
  | a :: l, k + 1, h, hk, hn => by
    have h0 := h 0 (by simp) (by omega)
    simp at h0
    have := while_cut (p := p) (l := l) (k := k) (fun j hj hjk => by have := h (j + 1) (by simp; omega) (by omega); simpa using this) (by simpa using hk) (fun hk' => by have := hn (by simp; omega); simpa using this)
    simp [h0, this.1, this.2]
theorem rd_oneN {w : World} {cs : Array Value} {t : TypeId} {n k : Nat} (h : n = w.heap.size) : Rd (w.alloc (.cells cs t)) (some ⟨n, 0, none⟩) k [cs.toList] := by subst h; exact rd_one
/-- Whether what stands at a place meets a test. -/
def atB {α : Type} (p : α → Bool) (l : List α) (n : Nat) : Bool := match l[n]? with | some x => p x | none => false
theorem atB_some {α : Type} {p : α → Bool} {l : List α} {n : Nat} (h : n < l.length) : atB p l n = p l[n] := by
  unfold atB; rw [List.getElem?_eq_getElem h]
theorem atB_none {α : Type} {p : α → Bool} {l : List α} {n : Nat} (h : l.length ≤ n) : atB p l n = false := by
  unfold atB; rw [List.getElem?_eq_none h]
theorem tw_take {α : Type} (p : α → Bool) (l : List α) : l.takeWhile p = l.take (l.takeWhile p).length := by
  have h := List.takeWhile_append_dropWhile (p := p) (l := l)
  have h2 := congrArg (List.take (l.takeWhile p).length) h
  rw [List.take_left] at h2
  exact h2
theorem dw_drop {α : Type} (p : α → Bool) (l : List α) : l.dropWhile p = l.drop (l.takeWhile p).length := by
  have h := List.takeWhile_append_dropWhile (p := p) (l := l)
  have h2 := congrArg (List.drop (l.takeWhile p).length) h
  rw [List.drop_left] at h2
  exact h2
theorem tw_len {α : Type} (p : α → Bool) (l : List α) : (l.takeWhile p).length ≤ l.length := by
  have h := congrArg List.length (tw_take p l)
  rw [List.length_take] at h; omega
/-- A slice that a struct holds: its address, its room, and what it reads as. -/
structure SlOf (α : Type) where
  A : Option Addr
  c : Nat
  val : List α
  deriving DecidableEq
theorem rowsJ (l : List Int) : ∀ r ∈ l.map encI, r.length = 1 ∧ ∀ u ∈ r, u.oneCell' = true := by
  intro r hr
  obtain ⟨m, _, rfl⟩ := List.mem_map.1 hr
  exact ⟨rfl, by simp [encI]; rfl⟩
end Go.Proofs.Ytiidplinmempcaa

/- Units: the type, how they stand. No program in sight. -/
namespace Go.Proofs.Ytiidplinmempcaa
open Go.RowKit
structure Un where
  acc : Int
  cli : Int
  deriving DecidableEq
def encUn (x : Un) : List Value := [.int .i64 x.acc, .int .i64 x.cli]
def okUn (x : Un) : Prop := In64 x.acc ∧ In64 x.cli
theorem rowsUn (l : List Un) : ∀ r ∈ l.map encUn, r.length = 2 ∧ ∀ u ∈ r, u.oneCell' = true := by
  intro r hr
  obtain ⟨m, _, rfl⟩ := List.mem_map.1 hr
  refine ⟨rfl, ?_⟩
  simp only [encUn, List.mem_cons, List.not_mem_nil, or_false, forall_eq_or_imp, forall_eq]
  exact ⟨rfl, rfl⟩
theorem encUn_inj {x y : Un} (h : encUn x = encUn y) : x = y := by
  unfold encUn at h
  simp only [List.cons.injEq, Value.int.injEq, and_true, true_and] at h
  obtain ⟨h0, h1⟩ := h
  obtain ⟨xacc, xcli⟩ := x
  obtain ⟨yacc, ycli⟩ := y
  simp only at h0 h1
  subst h0 h1
  rfl
theorem neqUn {x y : Un} (h : x ≠ y) : ((x.acc == y.acc) = false) ∨ ((x.cli == y.cli) = false) := by
  cases h0 : (x.acc == y.acc)
  · simp
  cases h1 : (x.cli == y.cli)
  · simp
  · exfalso
    apply h
    obtain ⟨xacc, xcli⟩ := x
    obtain ⟨yacc, ycli⟩ := y
    simp_all
def lessU (a b : Un) : Bool := decide (a.acc < b.acc) || (a.acc == b.acc && decide (a.cli < b.cli))
theorem lessU_iff {a b : Un} : lessU a b = true ↔ a.acc < b.acc ∨ (a.acc = b.acc ∧ a.cli < b.cli) := by simp [lessU]
theorem lessU_trans {a b c : Un} (h : lessU a b = true) (k : lessU b c = true) : lessU a c = true := by
  rw [lessU_iff] at *
  omega
theorem lessU_asymm {a b : Un} (h : lessU a b = true) : lessU b a = false := by
  cases hb : lessU b a
  · rfl
  · rw [lessU_iff] at h hb; omega
theorem lessU_irr (a : Un) : lessU a a = false := by
  cases h : lessU a a
  · rfl
  · rw [lessU_iff] at h; omega
theorem lessU_tri (a b : Un) : lessU a b = true ∨ a = b ∨ lessU b a = true := by
  rw [lessU_iff, lessU_iff]
  obtain ⟨x, y⟩ := a
  obtain ⟨z, v⟩ := b
  simp only [Un.mk.injEq]
  omega
theorem lessU_ne {a b : Un} (h : lessU a b = true) : a ≠ b := fun e => by rw [e, lessU_irr] at h; cases h
end Go.Proofs.Ytiidplinmempcaa

/- Rows by unit, each with a list of its own: which may be, what a unit has, what any are when a unit has just some. No program in sight. -/
namespace Go.Proofs.Ytiidplinmempcaa
open Go.RowKit
/-- A unit's row. -/
structure Row (α : Type) where
  unit : Un
  rows : List α
section
variable {α : Type} {ok : List α → Bool}
def SortK (l : List (Row α)) : Prop := l.Pairwise (fun a b => lessU a.unit b.unit = true)
def isKR (ok : List α → Bool) : Option Un → List (Row α) → Bool
  | _, [] => true
  | none, x :: t => !x.rows.isEmpty && ok x.rows && isKR ok (some x.unit) t
  | some p, x :: t => !x.rows.isEmpty && ok x.rows && lessU p x.unit && isKR ok (some x.unit) t
def isK (ok : List α → Bool) (l : List (Row α)) : Bool := isKR ok none l
def ofK : List (Row α) → Un → List α
  | [], _ => []
  | x :: t, u => if x.unit = u then x.rows else ofK t u
def oneK (u : Un) (now : List α) : List (Row α) := if now.isEmpty then [] else [⟨u, now⟩]
def withK (l : List (Row α)) (u : Un) (now : List α) : List (Row α) := l.filter (fun x => lessU x.unit u) ++ (oneK u now ++ l.filter (fun x => lessU u x.unit))
theorem isKR_facts : ∀ {l : List (Row α)} {p : Option Un} (_ : isKR ok p l = true), SortK l ∧ (∀ x ∈ l, x.rows ≠ [] ∧ ok x.rows = true) ∧ ∀ q, p = some q → ∀ x ∈ l, lessU q x.unit = true
  | [], _, _ => ⟨List.Pairwise.nil, by simp, by simp⟩
  | x :: t, p, h => by
    have ⟨h0, h1, h2⟩ : (x.rows ≠ [] ∧ ok x.rows = true) ∧ isKR ok (some x.unit) t = true ∧ ∀ q, p = some q → lessU q x.unit = true := by
      cases p with
      | none => simp only [isKR, Bool.and_eq_true, Bool.not_eq_true', List.isEmpty_eq_false_iff] at h; exact ⟨h.1, h.2, fun q hq => by cases hq⟩
      | some q => simp only [isKR, Bool.and_eq_true, Bool.not_eq_true', List.isEmpty_eq_false_iff] at h; exact ⟨h.1.1, h.2, fun q' hq => by injection hq with e; subst e; exact h.1.2⟩
    have ⟨i1, i2, i3⟩ := isKR_facts h1
    have i4 := i3 x.unit rfl
    refine ⟨List.pairwise_cons.2 ⟨i4, i1⟩, fun y hy => ?_, fun q hq y hy => ?_⟩
    · rcases List.mem_cons.1 hy with rfl | hy
      · exact h0
      · exact i2 y hy
    · rcases List.mem_cons.1 hy with rfl | hy
      · exact h2 q hq
      · exact lessU_trans (h2 q hq) (i4 y hy)
theorem isKR_of : ∀ {l : List (Row α)} {p : Option Un} (_ : SortK l) (_ : ∀ x ∈ l, x.rows ≠ [] ∧ ok x.rows = true) (_ : ∀ q, p = some q → ∀ x ∈ l, lessU q x.unit = true), isKR ok p l = true
  | [], p, _, _, _ => by cases p <;> rfl
  | x :: t, p, hs, hr, hp => by
    unfold SortK at hs
    rw [List.pairwise_cons] at hs
    have ih := isKR_of (l := t) (p := some x.unit) hs.2 (fun y hy => hr y (by simp [hy])) (fun q hq y hy => by injection hq with e; subst e; exact hs.1 y hy)
    have h0 := hr x (by simp)
    cases p with
    | none => simp only [isKR, Bool.and_eq_true, Bool.not_eq_true', List.isEmpty_eq_false_iff]; exact ⟨h0, ih⟩
    | some q => simp only [isKR, Bool.and_eq_true, Bool.not_eq_true', List.isEmpty_eq_false_iff]; exact ⟨⟨h0, hp q rfl x (by simp)⟩, ih⟩
theorem isK_facts {l : List (Row α)} (h : isK ok l = true) : SortK l ∧ ∀ x ∈ l, x.rows ≠ [] ∧ ok x.rows = true := ⟨(isKR_facts h).1, (isKR_facts h).2.1⟩
theorem isK_of {l : List (Row α)} (hs : SortK l) (hr : ∀ x ∈ l, x.rows ≠ [] ∧ ok x.rows = true) : isK ok l = true := isKR_of hs hr fun q hq => by cases hq
theorem isKR_no {p : Option Un} {x : Row α} {t : List (Row α)} (h : x.rows = [] ∨ ok x.rows = false ∨ ∃ q, p = some q ∧ lessU q x.unit = false) : isKR ok p (x :: t) = false := by
  cases hr : isKR ok p (x :: t)
  · rfl
  · obtain ⟨_, h2, h3⟩ := isKR_facts hr
    have h4 := h2 x (by simp)
    rcases h with h | h | ⟨q, hq, h⟩
    · exact absurd h h4.1
    · rw [h4.2] at h; cases h
    · rw [h3 q hq x (by simp)] at h; cases h
theorem isKR_step {p : Option Un} {x : Row α} {t : List (Row α)} (h1 : x.rows ≠ []) (h2 : ok x.rows = true) (h3 : ∀ q, p = some q → lessU q x.unit = true) : isKR ok p (x :: t) = isKR ok (some x.unit) t := by
  cases p with
  | none => simp [isKR, h1, h2]
  | some q => simp [isKR, h1, h2, h3 q rfl]
theorem ofK_none {l : List (Row α)} {u : Un} (h : ∀ x ∈ l, x.unit ≠ u) : ofK l u = [] := by
  induction l with
  | nil => rfl
  | cons x t ih => rw [ofK, if_neg (h x (by simp)), ih fun y hy => h y (by simp [hy])]
theorem ofK_app {l m : List (Row α)} {u : Un} (h : ∀ x ∈ l, x.unit ≠ u) : ofK (l ++ m) u = ofK m u := by
  induction l with
  | nil => rfl
  | cons x t ih => rw [List.cons_append, ofK, if_neg (h x (by simp)), ih fun y hy => h y (by simp [hy])]
theorem ofK_app2 {l m : List (Row α)} {u : Un} (h : ∀ x ∈ m, x.unit ≠ u) : ofK (l ++ m) u = ofK l u := by
  induction l with
  | nil => exact ofK_none h
  | cons x t ih => rw [List.cons_append, ofK, ofK, ih]
theorem ofK_filter {l : List (Row α)} {u : Un} {p : Un → Bool} (h : p u = true) : ofK (l.filter fun x => p x.unit) u = ofK l u := by
  induction l with
  | nil => rfl
  | cons x t ih =>
    by_cases hx : x.unit = u
    · rw [List.filter_cons_of_pos (by rw [hx]; exact h), ofK, ofK, if_pos hx, if_pos hx]
    · cases hp : p x.unit
      · rw [List.filter_cons_of_neg (by rw [hp]; simp), ih, ofK, if_neg hx]
      · rw [List.filter_cons_of_pos (p := fun y : Row α => p y.unit) hp, ofK, ofK, if_neg hx, if_neg hx, ih]
theorem ofK_mem {l : List (Row α)} {u : Un} : (∃ x ∈ l, x.unit = u ∧ ofK l u = x.rows) ∨ ((∀ x ∈ l, x.unit ≠ u) ∧ ofK l u = []) := by
  induction l with
  | nil => exact .inr ⟨by simp, rfl⟩
  | cons x t ih =>
    by_cases hx : x.unit = u
    · exact .inl ⟨x, by simp, hx, by rw [ofK, if_pos hx]⟩
    · rcases ih with ⟨y, hy, h1, h2⟩ | ⟨h1, h2⟩
      · exact .inl ⟨y, by simp [hy], h1, by rw [ofK, if_neg hx, h2]⟩
      · refine .inr ⟨fun y hy => ?_, by rw [ofK, if_neg hx, h2]⟩
        rcases List.mem_cons.1 hy with rfl | hy
        · exact hx
        · exact h1 y hy
theorem ofK_of_mem {l : List (Row α)} (hs : SortK l) {x : Row α} (hx : x ∈ l) : ofK l x.unit = x.rows := by
  induction l with
  | nil => cases hx
  | cons y t ih =>
    unfold SortK at hs
    rw [List.pairwise_cons] at hs
    rcases List.mem_cons.1 hx with rfl | hx
    · rw [ofK, if_pos rfl]
    · rw [ofK, if_neg (lessU_ne (hs.1 x hx)), ih hs.2 hx]
theorem oneK_mem {u : Un} {now : List α} {x : Row α} (h : x ∈ oneK u now) : x = ⟨u, now⟩ ∧ now ≠ [] := by
  unfold oneK at h
  split at h
  · cases h
  · rename_i h1
    exact ⟨List.mem_singleton.1 h, fun e => h1 (by rw [e]; rfl)⟩
theorem with_mem {l : List (Row α)} {u : Un} {now : List α} {x : Row α} (h : x ∈ withK l u now) : (x ∈ l ∧ (lessU x.unit u = true ∨ lessU u x.unit = true)) ∨ (x = ⟨u, now⟩ ∧ now ≠ []) := by
  unfold withK at h
  rcases List.mem_append.1 h with h | h
  · exact .inl ⟨(List.mem_filter.1 h).1, .inl (List.mem_filter.1 h).2⟩
  · rcases List.mem_append.1 h with h | h
    · exact .inr (oneK_mem h)
    · exact .inl ⟨(List.mem_filter.1 h).1, .inr (List.mem_filter.1 h).2⟩
theorem of_with (l : List (Row α)) (u v : Un) (now : List α) : ofK (withK l u now) v = if v = u then now else ofK l v := by
  have h1 : ∀ (x : Row α), x ∈ l.filter (fun x => lessU x.unit u) → lessU x.unit u = true := fun x hx => (List.mem_filter.1 hx).2
  have h2 : ∀ (x : Row α), x ∈ l.filter (fun x => lessU u x.unit) → lessU u x.unit = true := fun x hx => (List.mem_filter.1 hx).2
  by_cases hv : v = u
  · subst hv
    rw [if_pos rfl]
    unfold withK
    rw [ofK_app fun x hx => lessU_ne (h1 x hx), ofK_app2 fun x hx => (lessU_ne (h2 x hx)).symm]
    unfold oneK
    split
    · rename_i h
      rw [List.isEmpty_iff] at h
      rw [h]; rfl
    · rw [ofK, if_pos rfl]
  · rw [if_neg hv]
    have h3 : ∀ x ∈ oneK u now, x.unit ≠ v := fun x hx e => by rw [(oneK_mem hx).1] at e; exact hv e.symm
    unfold withK
    rcases lessU_tri v u with h | h | h
    · rw [ofK_app2 fun x hx => ?_, ofK_filter (p := fun y => lessU y u) h]
      rcases List.mem_append.1 hx with hx | hx
      · exact h3 x hx
      · exact fun e => lessU_ne (lessU_trans h (h2 x hx)) e.symm
    · exact absurd h hv
    · rw [ofK_app fun x hx => lessU_ne (lessU_trans (h1 x hx) h), ofK_app h3, ofK_filter (p := fun y => lessU u y) h]
theorem with_sort {l : List (Row α)} (hs : SortK l) (u : Un) (now : List α) : SortK (withK l u now) := by
  unfold SortK withK at *
  rw [List.pairwise_append]
  refine ⟨hs.filter _, ?_, fun x hx y hy => ?_⟩
  · rw [List.pairwise_append]
    refine ⟨?_, hs.filter _, fun x hx y hy => ?_⟩
    · unfold oneK; split <;> simp
    · rw [(oneK_mem hx).1]; exact (List.mem_filter.1 hy).2
  · have h1 : lessU x.unit u = true := (List.mem_filter.1 hx).2
    rcases List.mem_append.1 hy with hy | hy
    · rw [(oneK_mem hy).1]; exact h1
    · exact lessU_trans h1 (List.mem_filter.1 hy).2
theorem with_is {l : List (Row α)} (h : isK ok l = true) (u : Un) {now : List α} (hn : now ≠ [] → ok now = true) : isK ok (withK l u now) = true := by
  obtain ⟨h1, h2⟩ := isK_facts h
  refine isK_of (with_sort h1 u now) fun x hx => ?_
  rcases with_mem hx with hx | ⟨rfl, h3⟩
  · exact h2 x hx.1
  · exact ⟨h3, hn h3⟩
theorem with_len (l : List (Row α)) (u : Un) (now : List α) : (withK l u now).length ≤ l.length + 1 := by
  have h : ∀ m : List (Row α), (m.filter (fun x => lessU x.unit u)).length + (m.filter (fun x => lessU u x.unit)).length ≤ m.length := by
    intro m
    induction m with
    | nil => simp
    | cons x t ih =>
      cases h1 : lessU x.unit u
      · rw [List.filter_cons_of_neg (by rw [h1]; simp)]
        cases h2 : lessU u x.unit
        · rw [List.filter_cons_of_neg (by rw [h2]; simp)]; simp only [List.length_cons]; omega
        · rw [List.filter_cons_of_pos (p := fun y : Row α => lessU u y.unit) h2]; simp only [List.length_cons]; omega
      · rw [List.filter_cons_of_pos (p := fun y : Row α => lessU y.unit u) h1, List.filter_cons_of_neg (by rw [lessU_asymm h1]; simp)]; simp only [List.length_cons]; omega
  have h1 := h l
  have h2 : (oneK u now).length ≤ 1 := by unfold oneK; split <;> simp
  unfold withK
  simp only [List.length_append]
  omega
/-- Rows that may be are the same where each unit has the same. -/
theorem ext_K : ∀ {l m : List (Row α)} (_ : SortK l) (_ : SortK m) (_ : ∀ x ∈ l, x.rows ≠ []) (_ : ∀ x ∈ m, x.rows ≠ []) (_ : ∀ u, ofK l u = ofK m u), l = m
  | [], [], _, _, _, _, _ => rfl
  | [], y :: m, _, _, _, hm, h => by
    have := h y.unit
    rw [ofK, ofK, if_pos rfl] at this
    exact absurd this.symm (hm y (by simp))
  | x :: l, [], _, _, hl, _, h => by
    have := h x.unit
    rw [ofK, ofK, if_pos rfl] at this
    exact absurd this (hl x (by simp))
  | x :: l, y :: m, s1, s2, hl, hm, h => by
    unfold SortK at s1 s2
    rw [List.pairwise_cons] at s1 s2
    have hx := hl x (by simp)
    have hy := hm y (by simp)
    have e : x.unit = y.unit := by
      rcases lessU_tri x.unit y.unit with h1 | h1 | h1
      · have := h x.unit
        rw [ofK, if_pos rfl, ofK, if_neg (lessU_ne h1).symm, ofK_none fun z hz => (lessU_ne (lessU_trans h1 (s2.1 z hz))).symm] at this
        exact absurd this hx
      · exact h1
      · have := h y.unit
        rw [ofK, if_neg (lessU_ne h1).symm, ofK_none fun z hz => (lessU_ne (lessU_trans h1 (s1.1 z hz))).symm, ofK, if_pos rfl] at this
        exact absurd this.symm hy
    have hr := h x.unit
    rw [ofK, if_pos rfl, ofK, if_pos e.symm] at hr
    have hxy : x = y := by obtain ⟨a, b⟩ := x; obtain ⟨c, d⟩ := y; simp only at e hr; subst e hr; rfl
    subst hxy
    congr 1
    refine ext_K s1.2 s2.2 (fun z hz => hl z (by simp [hz])) (fun z hz => hm z (by simp [hz])) fun u => ?_
    by_cases hu : x.unit = u
    · subst hu
      rw [ofK_none fun z hz => (lessU_ne (s1.1 z hz)).symm, ofK_none fun z hz => (lessU_ne (s2.1 z hz)).symm]
    · have := h u
      rwa [ofK, if_neg hu, ofK, if_neg hu] at this
/-- What all have by some number. -/
def sumK (f : List α → Int) (l : List (Row α)) : Int := (l.map fun x => f x.rows).sum
theorem sumK_app (f : List α → Int) (l m : List (Row α)) : sumK f (l ++ m) = sumK f l + sumK f m := by unfold sumK; rw [List.map_append, List.sum_append]
theorem sumK_split (f : List α → Int) (f0 : f [] = 0) : ∀ {l : List (Row α)} (_ : SortK l) (u : Un), sumK f l = sumK f (l.filter fun x => lessU x.unit u) + f (ofK l u) + sumK f (l.filter fun x => lessU u x.unit)
  | [], _, u => by simp [sumK, ofK, f0]
  | x :: t, hs, u => by
    unfold SortK at hs
    rw [List.pairwise_cons] at hs
    have ih := sumK_split f f0 hs.2 u
    have e : sumK f (x :: t) = f x.rows + sumK f t := by simp [sumK]
    rw [e]
    rcases lessU_tri x.unit u with h | h | h
    · rw [List.filter_cons_of_pos (p := fun y : Row α => lessU y.unit u) h, List.filter_cons_of_neg (by rw [lessU_asymm h]; simp), ofK, if_neg (lessU_ne h), ih]
      have e2 : ∀ m, sumK f (x :: m) = f x.rows + sumK f m := fun m => by simp [sumK]
      rw [e2]; omega
    · subst h
      have n1 : t.filter (fun y => lessU y.unit x.unit) = [] := by
        rw [List.filter_eq_nil_iff]
        intro y hy
        rw [lessU_asymm (hs.1 y hy)]; simp
      have n2 : t.filter (fun y => lessU x.unit y.unit) = t := by
        rw [List.filter_eq_self]
        exact fun y hy => hs.1 y hy
      rw [List.filter_cons_of_neg (by rw [lessU_irr]; simp), List.filter_cons_of_neg (by rw [lessU_irr]; simp), n1, n2, ofK, if_pos rfl]
      simp [sumK]
    · rw [List.filter_cons_of_neg (by rw [lessU_asymm h]; simp), List.filter_cons_of_pos (p := fun y : Row α => lessU u y.unit) h, ofK, if_neg (lessU_ne h).symm, ih]
      have e2 : ∀ m, sumK f (x :: m) = f x.rows + sumK f m := fun m => by simp [sumK]
      rw [e2]; omega
theorem sumK_with (f : List α → Int) (f0 : f [] = 0) {l : List (Row α)} (hs : SortK l) (u : Un) (now : List α) : sumK f (withK l u now) = sumK f l - f (ofK l u) + f now := by
  have h1 := sumK_split f f0 hs u
  have h2 : sumK f (oneK u now) = f now := by
    unfold oneK
    split
    · rename_i h
      rw [List.isEmpty_iff] at h
      rw [h, f0]; rfl
    · simp [sumK]
  unfold withK
  rw [sumK_app, sumK_app, h2]
  omega
/-- In a row that rises: what is ahead of a unit, and what behind. -/
theorem filter_lt : ∀ {l : List (Row α)} (_ : SortK l) (u : Un), l.filter (fun x => lessU x.unit u) = l.takeWhile (fun x => lessU x.unit u)
  | [], _, _ => rfl
  | x :: t, hs, u => by
    unfold SortK at hs
    rw [List.pairwise_cons] at hs
    cases h : lessU x.unit u
    · rw [List.filter_cons_of_neg (by rw [h]; simp), List.takeWhile_cons_of_neg (by rw [h]; simp), List.filter_eq_nil_iff]
      intro y hy
      rw [Bool.not_eq_true]
      cases h2 : lessU y.unit u
      · rfl
      · have := lessU_trans (hs.1 y hy) h2
        rw [h] at this; cases this
    · rw [List.filter_cons_of_pos (p := fun y : Row α => lessU y.unit u) h, List.takeWhile_cons_of_pos (p := fun y : Row α => lessU y.unit u) h, filter_lt hs.2]
end
end Go.Proofs.Ytiidplinmempcaa

/- Plain lists: where the first is of which something holds. -/
namespace Go.Proofs.Ytiidplinmempcaa
def idxOf {α : Type} (p : α → Bool) (l : List α) : Int := match l.findIdx? p with | some k => k | none => -1
theorem idx_hit {α : Type} {p : α → Bool} {l : List α} {k : Nat} (h : k < l.length) (hm : p l[k] = true) (hn : ∀ j (_ : j < l.length), j < k → p l[j] = false) : idxOf p l = k := by
  have : l.findIdx? p = some k := by
    rw [List.findIdx?_eq_some_iff_getElem]
    exact ⟨h, hm, fun j hj => by simp [hn j (by omega) hj]⟩
  simp [idxOf, this]
theorem idx_miss {α : Type} {p : α → Bool} {l : List α} (hn : ∀ j (_ : j < l.length), p l[j] = false) : idxOf p l = -1 := by
  have : l.findIdx? p = none := by
    rw [List.findIdx?_eq_none_iff]
    intro x hx
    obtain ⟨j, hj, rfl⟩ := List.mem_iff_getElem.1 hx
    exact hn j hj
  simp [idxOf, this]
end Go.Proofs.Ytiidplinmempcaa

/- What a closure holds. No program in sight. -/
namespace Go.Proofs.Ytiidplinmempcaa
open Go.RowKit
/-- What a closure holds of one variable: its cells. -/
def CapC (w : World) (g : Nat) (vs : List Value) : Prop := g < w.heap.size ∧ ∀ (j : Nat) (v : Value), vs[j]? = some v → w.cell? ⟨g, j, none⟩ = some v
theorem CapC.keep {w w' : World} {g : Nat} {vs : List Value} (h : CapC w g vs) (hb : Below w.heap.size w w') : CapC w' g vs := ⟨Nat.lt_of_lt_of_le h.1 hb.size, fun j v hv => cell_via hb h.1 (h.2 j v hv)⟩
theorem CapC.low {w w' : World} {g B : Nat} {vs : List Value} (h : CapC w g vs) (hg : g < B) (hb : Below B w w') : CapC w' g vs := ⟨Nat.lt_of_lt_of_le h.1 hb.size, fun j v hv => cell_via hb hg (h.2 j v hv)⟩
end Go.Proofs.Ytiidplinmempcaa

/- Units: contracts of acct.Less, the reference's Less. -/
namespace Go.Proofs.Ytiidplinmempcaa
open Go.RowKit
set_option maxRecDepth 100000 in
set_option maxHeartbeats 1000000 in
theorem acctLess (a b : Un) (w : World) :
    Calls Try.prog 93 #[.agg #[.int .i64 a.acc, .int .i64 a.cli], .agg #[.int .i64 b.acc, .int .i64 b.cli]] w fun e w' => e = .returned (.bool (lessU a b)) ∧ Below w.heap.size w w' := by
  cases he : (a.acc == b.acc)
  · have hne : (a.acc != b.acc) = true := by simp only [bne, he]; rfl
    have HE := Lib.hid (show lessU a b = decide (a.acc < b.acc) from by unfold lessU; rw [he]; simp)
    go_enter Try.func93, Try.ntmps93
    go_wp2_with fail
    go_ret
    exact ⟨by rw [HE.out]; rfl, by (repeat' (first | (with_reducible exact Below.refl _ _) | (with_reducible assumption) | (with_reducible refine Below.alloc ?_ ?_ _) | (with_reducible refine Below.setCell ?_ ?_ _) | (with_reducible refine Below.drew ?_) | (with_reducible refine below_drewN ?_ _) | (with_reducible refine below_via ?_ (by with_reducible assumption) ?_) | omega | (simp; done) | (simp; omega)))⟩
  · have hne : (a.acc != b.acc) = false := by simp only [bne, he]; rfl
    have heq : a.acc = b.acc := by simpa using he
    have HE := Lib.hid (show lessU a b = decide (a.cli < b.cli) from by unfold lessU; rw [he]; simp [heq])
    clear heq
    go_enter Try.func93, Try.ntmps93
    go_wp2_with fail
    go_ret
    exact ⟨by rw [HE.out]; rfl, by (repeat' (first | (with_reducible exact Below.refl _ _) | (with_reducible assumption) | (with_reducible refine Below.alloc ?_ ?_ _) | (with_reducible refine Below.setCell ?_ ?_ _) | (with_reducible refine Below.drew ?_) | (with_reducible refine below_drewN ?_ _) | (with_reducible refine below_via ?_ (by with_reducible assumption) ?_) | omega | (simp; done) | (simp; omega)))⟩
set_option maxRecDepth 100000 in
set_option maxHeartbeats 1000000 in
theorem ref15Less (a b : Un) (w : World) :
    Calls Try.prog 94 #[.agg #[.int .i64 a.acc, .int .i64 a.cli], .agg #[.int .i64 b.acc, .int .i64 b.cli]] w fun e w' => e = .returned (.bool (lessU a b)) ∧ Below w.heap.size w w' := by
  by_cases h1 : a.acc < b.acc
  · have d1 := decide_eq_true h1
    have HE := Lib.hid (show lessU a b = true from by unfold lessU; simp [h1])
    go_enter Try.func94, Try.ntmps94
    go_wp2_with fail
    go_ret
    exact ⟨by rw [HE.out]; rfl, by (repeat' (first | (with_reducible exact Below.refl _ _) | (with_reducible assumption) | (with_reducible refine Below.alloc ?_ ?_ _) | (with_reducible refine Below.setCell ?_ ?_ _) | (with_reducible refine Below.drew ?_) | (with_reducible refine below_drewN ?_ _) | (with_reducible refine below_via ?_ (by with_reducible assumption) ?_) | omega | (simp; done) | (simp; omega)))⟩
  · have d1 := decide_eq_false h1
    cases he : (a.acc == b.acc)
    · have HE := Lib.hid (show lessU a b = false from by unfold lessU; rw [he, d1]; rfl)
      go_enter Try.func94, Try.ntmps94
      go_wp2_with fail
      go_ret
      exact ⟨by rw [HE.out]; rfl, by (repeat' (first | (with_reducible exact Below.refl _ _) | (with_reducible assumption) | (with_reducible refine Below.alloc ?_ ?_ _) | (with_reducible refine Below.setCell ?_ ?_ _) | (with_reducible refine Below.drew ?_) | (with_reducible refine below_drewN ?_ _) | (with_reducible refine below_via ?_ (by with_reducible assumption) ?_) | omega | (simp; done) | (simp; omega)))⟩
    · have HE := Lib.hid (show lessU a b = decide (a.cli < b.cli) from by unfold lessU; rw [he, d1]; simp)
      go_enter Try.func94, Try.ntmps94
      go_wp2_with fail
      go_ret
      exact ⟨by rw [HE.out]; rfl, by (repeat' (first | (with_reducible exact Below.refl _ _) | (with_reducible assumption) | (with_reducible refine Below.alloc ?_ ?_ _) | (with_reducible refine Below.setCell ?_ ?_ _) | (with_reducible refine Below.drew ?_) | (with_reducible refine below_drewN ?_ _) | (with_reducible refine below_via ?_ (by with_reducible assumption) ?_) | omega | (simp; done) | (simp; omega)))⟩
end Go.Proofs.Ytiidplinmempcaa

/-
  DERIVED: THE SHELF's CONTRACTS AT THIS DUMP, IN PLAIN WORDS (tools/lay-plain.mjs out of 'TryShelf.lean', which tools/lay-shelf.mjs wrote): THE SAME DECLARATIONS UNDER THE SAME NAMES: 'import', 'namespace', 'open', 'def', 'theorem' AND NOTHING ELSE: no command of the shelf's: FOR A HAND-IN. Each laying: the table of numbers ('.._ren') and one theorem, a field a fact of the dump's own or the kernel's comparison; each contract: ONE APPLICATION.
-/
namespace Go.Proofs
open Go.Shelf
def Try.lays264_ren : Go.Shelf.Ren := ⟨fun | 264 => 161 | n => n, fun | 53 => 26 | 46 => 187 | n => n, fun | n => n⟩
theorem Try.lays264 : Go.Proofs.Lays.n264 Try.prog Try.lays264_ren := {
  mixed := by kernel_rfl
  f264 := Try.func161.trans (congrArg some (by kernel_rfl))
  t46 := Try.underlying187
  a46 := Try.isAgg187
  z46 := Try.sizeOf187
  v46 := Try.zeroValue187
  t53 := Try.underlying26
  a53 := Try.isAgg26
  z53 := Try.sizeOf26
  v53 := Try.zeroValue26 }
open Go.RowKit Go.Lib in
theorem Try.bits_Mul64 (x y : Nat) (hx : x < 18446744073709551616) (hy : y < 18446744073709551616) (w : World) :
    Calls Try.prog 161 #[.int .u64 x, .int .u64 y] w fun e w' => e = .returned (.tuple #[.int .u64 ((x * y / 18446744073709551616 : Nat) : Int), .int .u64 ((x * y % 18446744073709551616 : Nat) : Int)]) ∧ w' = w := Any.bits_Mul64 Try.lays264 x y hx hy w
end Go.Proofs
