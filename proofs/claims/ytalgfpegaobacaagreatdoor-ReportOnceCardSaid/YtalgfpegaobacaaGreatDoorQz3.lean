/- Joined. -/
import Derived.Test.YtalgfpegaobacaaGreatDoorQz1
import Derived.Laws.CopyRow
import Derived.Lib.AppendZeros
import Derived.Lib.Overlaps
import Derived.Outline
import Derived.Test.YtalgfpegaobacaaGreatDoorShelf
import Derived.Deep.RegionLaw
import Derived.Lib.AppendIntMem
import Derived.Lib.ItoaLen
import Derived.Test.YtalgfpegaobacaaGreatDoorTie
import Derived.Test.YtalgfpegaobacaaGreatDoorCards
import Derived.ProofKit
import Derived.OpenShut
import Derived.Deep.DeepHandedRow
import Derived.Lib.LaidTab
import Derived.SevenTiedAt
namespace Go.Proofs.YtalgfpegaobacaaGreatDoor
set_option linter.all false
set_option maxHeartbeats 8000000
set_option maxRecDepth 100000
open Go.RowKit
open Lib (hid)
/- Laws on own rows: the row with its spare, its head; copy, clear, append of noughts. No program in sight. -/
theorem chunk {α : Type} (k : Nat) : ∀ (m : Nat) (l : List α), l.length = m * k → ∃ rows : List (List α), rows.length = m ∧ (∀ r ∈ rows, r.length = k) ∧ rows.flatten = l
 | 0, l, h => ⟨[], rfl, by simp, by simp at h; subst h; rfl⟩
 | m + 1, l, h => by
  rw [Nat.add_mul] at h
  obtain ⟨rows, h1, h2, h3⟩ := chunk k m (l.drop k) (by rw [List.length_drop]; omega)
  refine ⟨l.take k :: rows, by simp [h1], fun r hr => ?_, by rw [List.flatten_cons, h3, List.take_append_drop]⟩
  rcases List.mem_cons.1 hr with rfl | hr
  ·rw [List.length_take]; omega
  ·exact h2 r hr
theorem flatten_take {k : Nat} {rows : List (List Value)} (hl : ∀ r ∈ rows, r.length = k) (m : Nat) : (rows.take m).flatten = rows.flatten.take (m * k) := by
 rcases Nat.le_total m rows.length with h | h
 ·have h1 : ((rows.take m).flatten).length = m * k := by
   rw [flatten_length (fun r hr => hl r (List.mem_of_mem_take hr)), List.length_take, Nat.min_eq_left h]
  conv => rhs; rw [← List.take_append_drop m rows, List.flatten_append, ← h1, List.take_left]
 ·rw [List.take_of_length_le h, List.take_of_length_le (by rw [flatten_length hl]; exact Nat.mul_le_mul_right _ h)]
theorem flatten_drop {k : Nat} {rows : List (List Value)} (hl : ∀ r ∈ rows, r.length = k) (m : Nat) : (rows.drop m).flatten = rows.flatten.drop (m * k) := by
 rcases Nat.le_total m rows.length with h | h
 ·have h1 : ((rows.take m).flatten).length = m * k := by
   rw [flatten_length (fun r hr => hl r (List.mem_of_mem_take hr)), List.length_take, Nat.min_eq_left h]
  conv => rhs; rw [← List.take_append_drop m rows, List.flatten_append, ← h1, List.drop_left]
 ·rw [List.drop_eq_nil_of_le h, List.drop_eq_nil_of_le (by rw [flatten_length hl]; exact Nat.mul_le_mul_right _ h)]; rfl
section
variable {w : World} {base E k : Nat} {g n c : Nat} {rows : List (List Value)}
theorem Own.raw (h : Own w base E k (.slice (some ⟨g, 0, none⟩) n c) rows) : ∃ cur, w.heap[g]? = some (.cells cur E (0, 0)) ∧ base ≤ g ∧ n = rows.length ∧ n ≤ c ∧ c ≤ maxLen ∧ cur.size = c * k ∧ cur.toList.take (n * k) = rows.flatten := by
 have hn := (h.rd).2.1
 rcases h.2.2 with ⟨h1, _⟩ | ⟨g', cap, cur, h1, hg, hh, hc, hm, hs, ht⟩
 ·cases h1
 ·injection h1 with e1 e2 e3
  injection e1 with e1
  injection e1 with e1 _ _
  subst e1 e3
  exact ⟨cur, hh, hg, hn, by omega, hm, hs, by rw [hn]; exact ht⟩
theorem own_of (hall : ∀ r ∈ rows, r.length = k) {cur : Array Value} (hh : w.heap[g]? = some (.cells cur E (0, 0))) (hg : base ≤ g) (hn : n = rows.length) (hc : n ≤ c) (hm : c ≤ maxLen) (hs : cur.size = c * k) (ht : cur.toList.take (n * k) = rows.flatten) : Own w base E k (.slice (some ⟨g, 0, none⟩) n c) rows := by
 subst hn
 exact ⟨hall, flatten_length hall, .inr ⟨g, c, cur, rfl, hg, hh, hc, hm, hs, ht⟩⟩
theorem Own.head (h : Own w base E k (.slice (some ⟨g, 0, none⟩) n c) rows) {m : Nat} (hm : m ≤ n) : Own w base E k (.slice (some ⟨g, 0, none⟩) m c) (rows.take m) := by
 obtain ⟨cur, hh, hg, hn, hc, hmx, hs, ht⟩ := h.raw
 refine own_of (fun r hr => h.1 r (List.mem_of_mem_take hr)) hh hg (by rw [List.length_take]; omega) (by omega) hmx hs ?_
 rw [flatten_take h.1, ← ht, List.take_take, Nat.min_eq_left (Nat.mul_le_mul_right _ hm)]
theorem Only.setRow (_hh : g < w.heap.size) (cs : Array Value) : Only g w (w.setRow g cs) := ⟨rfl, rfl, rfl, by simp [World.setRow], fun i _ hne => setRow_other w g i cs (by exact fun e => hne e)⟩
def lay (rows src : List (List Value)) (d : Nat) : List (List Value) := rows.take d ++ src ++ rows.drop (d + src.length)
theorem lay_len {src : List (List Value)} {d : Nat} (h : d + src.length ≤ rows.length) : (lay rows src d).length = rows.length := by unfold lay; simp; omega
theorem lay_mem {src : List (List Value)} {d : Nat} {r : List Value} (h : r ∈ lay rows src d) : r ∈ rows ∨ r ∈ src := by
 unfold lay at h
 rcases List.mem_append.1 h with h | h
 ·rcases List.mem_append.1 h with h | h
  ·exact .inl (List.mem_of_mem_take h)
  ·exact .inr h
 ·exact .inl (List.mem_of_mem_drop h)
theorem Own.laid (h : Own w base E k (.slice (some ⟨g, 0, none⟩) n c) rows) {src : List (List Value)} (hsrc : ∀ r ∈ src, r.length = k) {d : Nat} (hd : d + src.length ≤ n) {cur : Array Value} (hcur : w.heap[g]? = some (.cells cur E (0, 0))) :
  Own (w.setRow g (cur.toList.take (d * k) ++ src.flatten ++ cur.toList.drop (d * k + src.flatten.length)).toArray) base E k (.slice (some ⟨g, 0, none⟩) n c) (lay rows src d) := by
 obtain ⟨cur', hh, hg, hn, hc, hmx, hs, ht⟩ := h.raw
 rw [hcur] at hh
 injection hh with hh
 injection hh with hh _ _
 subst hh
 have hfl := flatten_length hsrc
 have hle : n * k ≤ c * k := Nat.mul_le_mul_right _ hc
 have hdl : d * k + src.length * k ≤ n * k := by rw [← Nat.add_mul]; exact Nat.mul_le_mul_right _ hd
 have hall : ∀ r ∈ lay rows src d, r.length = k := fun r hr => by
  rcases lay_mem hr with h1 | h1
  ·exact h.1 r h1
  ·exact hsrc r h1
 refine own_of hall (setRow_heap w g cur _ E (0, 0) hcur) hg (by rw [lay_len (by omega)]; exact hn) hc hmx ?_ ?_
 ·simp only [List.size_toArray, List.length_append, List.length_take, List.length_drop, Array.length_toList, hfl, hs]
  omega
 ·unfold lay
  rw [List.flatten_append, List.flatten_append, flatten_take h.1, flatten_drop h.1, ← ht]
  simp only []
  have hcl : cur.toList.length = c * k := by rw [Array.length_toList, hs]
  rw [List.take_take, Nat.min_eq_left (by omega), List.drop_take, Nat.add_mul]
  rw [List.take_append, List.take_append]
  simp only [List.length_append, List.length_take, hcl, hfl]
  rw [List.take_of_length_le (show (cur.toList.take (d * k)).length ≤ n * k by rw [List.length_take]; omega)]
  rw [List.take_of_length_le (show src.flatten.length ≤ n * k - min (d * k) (c * k) by rw [hfl]; omega)]
  congr 2
  omega
end
theorem zero_rows {z : Array Value} {k : Nat} (hz : z.size = k) (n : Nat) : ∃ junk : List (List Value), junk.length = n ∧ (∀ r ∈ junk, r.length = k) ∧ junk.flatten = (Builtin.zeroCells z n).toList :=
 chunk k n _ (by rw [Array.length_toList, size_zeroCells, hz])
theorem wpList_clearR {P : Program} {ops : Array Oper} {rest : List Oper} {o : Oper} {a : Act} {Q : Exit → Act → World → Prop} {w : World} (hgd : o.guard = none) (x : Operand) (T : TypeId)
  (ho : o.op = .call { callee := .builtin .clear, args := #[x], argTypes := #[T] }) {E k bytes : Nat} (el : Elem P T E k bytes) (hone : ∀ z, (P.info? E).bind (·.zero) = some z → ∀ u ∈ z.cells, u.oneCell' = true)
  {base g n c i m cc : Nat} {rows : List (List Value)} {A : Option Addr} (hx : a.eval x = .slice A m cc) (hA : 0 < m → A = some ⟨g, i * k, none⟩) (hm : m = n - i) (hi : i ≤ n)
  (hown : Own w base E k (.slice (some ⟨g, 0, none⟩) n c) rows)
  (h : ∀ w', Own w' base E k (.slice (some ⟨g, 0, none⟩) i c) (rows.take i) → Only g w w' → wpList P ops Q rest (a.put o.dst (.tuple #[])) w') : wpList P ops Q (o :: rest) a w := by
 obtain ⟨ii, z, hii, hz, hsize, hby, hzs⟩ := el.info
 obtain ⟨cur, hh, hg, hn, hc, hmx, hcs, ht⟩ := hown.raw
 refine wpList_plain hgd fun K hK => ?_
 rcases Nat.eq_zero_or_pos m with h0 | h0
 ·have hin : i = n := by omega
  have hrun : (Builtin.clear_ #[T] o.type #[.slice A m cc]).run P w = .ok (.tuple #[]) w := by
   subst h0
   cases A <;> simp [Builtin.clear_, run_underlying el.ty]
  unfold Oper.wp
  simp [execOp, ho, resolve, invoke, builtin, hx, hrun, Result.andThen]
  refine hK _ _ (h w ?_ (Only.refl g w))
  exact hown.head hi
 ·have hAe := hA h0
  subst hAe
  obtain ⟨junk, j1, j2, j3⟩ := zero_rows hzs m
  have hle : n * k ≤ c * k := Nat.mul_le_mul_right _ hc
  have hdl : i * k + m * k ≤ n * k := by rw [← Nat.add_mul]; exact Nat.mul_le_mul_right _ (by omega)
  have hfl := flatten_length j2
  have hst := run_storeCells_at P g (i * k) E junk.flatten 0 cur w hh (by rw [hfl, hcs, j1]; omega) (fun u hu => by
   rw [j3] at hu
   have hz1 := hone z (by rw [hii]; exact hz)
   simp only [Builtin.zeroCells, Array.toList_map, List.mem_map] at hu
   obtain ⟨j, _, rfl⟩ := hu
   have hkp := el.pos
   have hj : j % z.cells.size < z.cells.size := Nat.mod_lt _ (by rw [hzs]; exact hkp)
   rw [getElem!_pos z.cells _ hj]
   exact hz1 _ (Array.getElem_mem hj))
  rw [j3] at hst
  simp only [Nat.add_zero] at hst
  rw [← j3] at hst
  have hrun : (Builtin.clear_ #[T] o.type #[.slice (some ⟨g, i * k, none⟩) m cc]).run P w = .ok (.tuple #[]) (w.setRow g (cur.toList.take (i * k) ++ junk.flatten ++ cur.toList.drop (i * k + junk.flatten.length)).toArray) := by
   obtain ⟨mm, rfl⟩ : ∃ mm, m = mm + 1 := ⟨m - 1, by omega⟩
   simp [Builtin.clear_, run_underlying el.ty, zeroValue, typeInfo, hii, hz, ← j3, hst]
  unfold Oper.wp
  simp [execOp, ho, resolve, invoke, builtin, hx, hrun, Result.andThen]
  have ho2 := (hown.laid j2 (d := i) (by omega) hh).head hi
  refine hK _ _ (h _ ?_ (Only.setRow (Array.getElem?_eq_some_iff.1 hh).1 _))
  have e : (lay rows junk i).take i = rows.take i := by
   unfold lay
   rw [List.append_assoc, List.take_append_of_le_length (by rw [List.length_take]; omega), List.take_take, Nat.min_self]
  rw [e] at ho2
  simp only [List.append_assoc, List.length_flatten] at ho2
  exact ho2
theorem Blk.shape {w : World} {g : Nat} {t : TypeId} {cs : Array Value} (h : Blk w g t cs) : w.shape? g = some (t, cs.size) := by
 unfold Blk at h
 simp [World.shape?, h]
theorem Rd.only {w w' : World} {A : Option Addr} {k : Nat} {rows : List (List Value)} {g b o : Nat} (h : Rd w A k rows) (hA : A = some ⟨b, o, none⟩) (ho : Only g w w') (hne : b ≠ g) : Rd w' A k rows := by
 intro i r hr
 obtain ⟨b', o', hA', hlt, hc⟩ := h i r hr
 rw [hA] at hA'
 injection hA' with e
 injection e with e1 e2 _
 subst e1 e2
 exact ⟨b, o, hA, Nat.lt_of_lt_of_le hlt ho.size, fun j v hv => (World.cell?_of_block (w := w) (ho.block b hlt hne)).trans (hc j v hv)⟩
theorem Blk.only {w w' : World} {g g' : Nat} {t : TypeId} {cs : Array Value} (h : Blk w g t cs) (ho : Only g' w w') (hne : g ≠ g') : Blk w' g t cs := (ho.block g h.lt hne).trans h
theorem Blk.rd {w : World} {g k : Nat} {t : TypeId} {cs : Array Value} (h : Blk w g t cs) : Rd w (some ⟨g, 0, none⟩) k [cs.toList] := by
 intro i r hr
 match i, hr with
 | 0, hr =>
  simp at hr
  subst hr
  refine ⟨g, 0, rfl, h.lt, fun j v hv => ?_⟩
  rw [h.cell]
  simpa using hv
/- Plain lists: where a test ends. -/
theorem rd_oneN {w : World} {cs : Array Value} {t : TypeId} {n k : Nat} (h : n = w.heap.size) : Rd (w.alloc (.cells cs t)) (some ⟨n, 0, none⟩) k [cs.toList] := by subst h; exact rd_one
structure SlOf (α : Type) where
 A : Option Addr
 c : Nat
 val : List α
 deriving DecidableEq
theorem rowsJ (l : List Int) : ∀ r ∈ l.map encI, r.length = 1 ∧ ∀ u ∈ r, u.oneCell' = true := by
 intro r hr
 obtain ⟨m, _, rfl⟩ := List.mem_map.1 hr
 exact ⟨rfl, by simp [encI]; rfl⟩
/- What append, Insert leave as it was: all blocks of other types. No program in sight. -/
structure Away (E : TypeId) (w w' : World) : Prop where
 size : w.heap.size ≤ w'.heap.size
 block : ∀ b, b < w.heap.size → (∀ cs r, w.heap[b]? ≠ some (.cells cs E r)) → w'.heap[b]? = w.heap[b]?
section
variable {E E' : TypeId} {w w1 w2 w' : World}
theorem Away.refl (E : TypeId) (w : World) : Away E w w := ⟨Nat.le_refl _, fun _ _ _ => rfl⟩
theorem Away.trans (h : Away E w w1) (k : Away E w1 w2) : Away E w w2 :=
 ⟨Nat.le_trans h.size k.size, fun b hb hne => by
  have h1 := h.block b hb hne
  exact (k.block b (Nat.lt_of_lt_of_le hb h.size) (fun cs r => by rw [h1]; exact hne cs r)).trans h1⟩
theorem Away.below (h : Below w.heap.size w w') : Away E w w' := ⟨h.size, fun b hb _ => h.block b hb⟩
theorem Away.grown {row : Option Nat} (h : w.grownBy w' row) (hE : ∀ g, row = some g → ∃ cs r, w.heap[g]? = some (.cells cs E r)) : Away E w w' :=
 ⟨h.size, fun b hb hne => h.block b hb (fun e => by
  obtain ⟨cs, r, hc⟩ := hE b e.symm
  exact hne cs r hc)⟩
theorem Own.typed {base k : Nat} {v : Value} {rows : List (List Value)} (h : Own w base E k v rows) : ∀ g, v.ownBlock = some g → ∃ cs r, w.heap[g]? = some (.cells cs E r) := by
 intro g hg
 rcases h.2.2 with ⟨rfl, _⟩ | ⟨g', cap, cur, rfl, _, hh, _⟩
 ·simp [Value.ownBlock] at hg
 ·simp [Value.ownBlock] at hg
  subst hg
  exact ⟨cur, (0, 0), hh⟩
theorem Own.away {base k : Nat} {v : Value} {rows : List (List Value)} (h : Own w base E' k v rows) (ha : Away E w w') (hne : E' ≠ E) : Own w' base E' k v rows := by
 refine ⟨h.1, h.2.1, ?_⟩
 rcases h.2.2 with h2 | ⟨g, cap, cur, hv, hg, hh, r⟩
 ·exact .inl h2
 ·refine .inr ⟨g, cap, cur, hv, hg, ?_, r⟩
  rw [ha.block g (Array.getElem?_eq_some_iff.1 hh).1 (fun cs r e => by
   rw [hh] at e
   injection e with e
   injection e with _ e _
   exact hne e)]
  exact hh
theorem Own.good {base k : Nat} {A : Option Addr} {n c : Nat} {rows : List (List Value)} (h : Own w base E k (.slice A n c) rows) : Rs w k rows A c := by
 obtain ⟨A', c', hv, hrs, _⟩ := h.rs
 injection hv with e1 e2 e3
 subst e1 e3
 exact hrs
theorem Away.set (w : World) {p : Addr} (u : Value) (h : ∃ cs r, w.heap[p.block]? = some (.cells cs E r)) : Away E w (w.setCell p u) :=
 ⟨by simp [World.setCell], fun b _ hne => Below.heap_setCell w p u b (fun e => by
  obtain ⟨cs, r, hc⟩ := h
  exact hne cs r (by rw [e]; exact hc))⟩
theorem Away.setTy (h : Away E w w1) {p : Addr} (ht : ∃ cs r, w.heap[p.block]? = some (.cells cs E r)) (u : Value) : Away E w (w1.setCell p u) :=
 ⟨by simpa [World.setCell] using h.size, fun b hb hne => (Below.heap_setCell w1 p u b (fun e => by
  obtain ⟨cs, r, hc⟩ := ht
  exact hne cs r (by rw [e]; exact hc))).trans (h.block b hb hne)⟩
theorem Away.only {g : Nat} (h : Only g w w') (ht : ∃ cs r, w.heap[g]? = some (.cells cs E r)) : Away E w w' :=
 ⟨h.size, fun b hb hne => h.block b hb (fun e => by
  obtain ⟨cs, r, hc⟩ := ht
  exact hne cs r (by rw [e]; exact hc))⟩
theorem Own.at {base k : Nat} {A : Option Addr} {n c : Nat} {rows : List (List Value)} (h : Own w base E k (.slice A n c) rows) (h0 : 0 < rows.length) : ∃ g, A = some ⟨g, 0, none⟩ ∧ base ≤ g ∧ g < w.heap.size := by
 obtain ⟨A', c', hv, _, hf⟩ := h.rs
 injection hv with e1 e2 e3
 subst e1 e3
 rcases hf with ⟨_, h2, _⟩ | hg
 ·rw [h2] at h0; simp at h0
 ·exact hg
end
theorem wp_appG {P : Program} {o : Oper} {a : Act} {K : Act → World → Prop} {Q : Exit → Act → World → Prop} {w : World} (s x : Operand) (T : TypeId)
  (ho : o.op = .call { callee := .builtin .append, args := #[s, x], argTypes := #[T, T] }) {E k bytes : Nat} (el : Elem P T E k bytes)
  (base : Nat) (v : Value) (rows : List (List Value)) (hs : a.eval s = v) (hown : Own w base E k v rows)
  (ad : Addr) (m c : Nat) (hx : a.eval x = .slice (some ad) m c) (news : List (List Value)) (hm : news.length = m) (hr : Rd w (some ad) k news) (hk : ∀ r ∈ news, r.length = k ∧ ∀ u ∈ r, u.oneCell' = true)
  (h63 : rows.length + m ≤ maxLen) (hbytes : (rows.length + m) * bytes ≤ 140737488355328) (hbase : base ≤ w.heap.size)
  (h : ∀ v' w', Own w' base E k v' (rows ++ news) → Below base w w' → w.grownBy w' v.ownBlock → K (a.put o.dst v') w') : o.wp P a w K Q := by
 obtain ⟨i, z, hi, hz, hsize, hby, hzs⟩ := el.info
 have hkl : ∀ r ∈ news, r.length = k := fun r hr => (hk r hr).1
 have hall : ∀ r ∈ rows ++ news, r.length = k := fun r hr => by
  rcases List.mem_append.1 hr with h1 | h1
  ·exact hown.1 r h1
  ·exact hkl r h1
 refine wp_append_own w s x T ho base E i z k bytes el.ty hi hz hsize hby hzs el.pos v rows.length rows.flatten hs hown.2 ad m c news.flatten hx (by rw [flatten_length hkl, hm]) (rd_cells hkl hr) (fun u hu => by
   obtain ⟨r, hr1, hr2⟩ := List.mem_flatten.1 hu
   exact (hk r hr1).2 u hr2) h63 hbytes hbase fun v' w' h1 h2 _ => ?_
 exact h v' w' ⟨hall, by rw [List.length_append, hm, List.flatten_append]; exact h1⟩ ((Below.refl base w).grown h2 hbase (fun g hg => (hown.block g hg).1)) h2
theorem wpList_appG {P : Program} {ops : Array Oper} {rest : List Oper} {o : Oper} {a : Act} {Q : Exit → Act → World → Prop} {w : World} (hgd : o.guard = none) (s x : Operand) (T : TypeId)
  (ho : o.op = .call { callee := .builtin .append, args := #[s, x], argTypes := #[T, T] }) {E k bytes : Nat} (el : Elem P T E k bytes)
  (base : Nat) (v : Value) (rows : List (List Value)) (hs : a.eval s = v) (hown : Own w base E k v rows)
  (ad : Addr) (m c : Nat) (hx : a.eval x = .slice (some ad) m c) (news : List (List Value)) (hm : news.length = m) (hr : Rd w (some ad) k news) (hk : ∀ r ∈ news, r.length = k ∧ ∀ u ∈ r, u.oneCell' = true)
  (h63 : rows.length + m ≤ maxLen) (hbytes : (rows.length + m) * bytes ≤ 140737488355328) (hbase : base ≤ w.heap.size)
  (h : ∀ v' w', Own w' base E k v' (rows ++ news) → Below base w w' → w.grownBy w' v.ownBlock → wpList P ops Q rest (a.put o.dst v') w') : wpList P ops Q (o :: rest) a w :=
 wpList_plain hgd fun _ hK => wp_appG s x T ho el base v rows hs hown ad m c hx news hm hr hk h63 hbytes hbase fun v' w' h1 h2 h3 => hK _ _ (h v' w' h1 h2 h3)
/- Pages: rows of strings that grow through a pointer: what a step leaves as it was. No program in sight. -/
abbrev Str := List UInt8
abbrev strV (l : Str) : Value := .string ⟨l.toArray⟩
def encStr (l : Str) : List Value := [strV l]
structure PgStep (g : Nat) (row : Option Nat) (w w' : World) : Prop where
 os : w'.os = w.os
 tape : w'.tape = w.tape
 output : w'.output = w.output
 size : w.heap.size ≤ w'.heap.size
 block : ∀ k, k < w.heap.size → k ≠ g → row ≠ some k → w'.heap[k]? = w.heap[k]?
theorem PgStep.refl (g : Nat) (row : Option Nat) (w : World) : PgStep g row w w := ⟨rfl, rfl, rfl, Nat.le_refl _, fun _ _ _ _ => rfl⟩
theorem PgStep.of_below {g : Nat} {row : Option Nat} {w w' : World} (h : Below w.heap.size w w') : PgStep g row w w' := ⟨h.os, h.tape, h.output, h.size, fun k hk _ _ => h.block k hk⟩
theorem PgStep.of_grown {g : Nat} {row : Option Nat} {w w' : World} (h : w.grownBy w' row) : PgStep g row w w' := ⟨h.os, h.tape, h.output, h.size, fun k hk _ hr => h.block k hk (fun e => hr e.symm)⟩
theorem PgStep.trans {g : Nat} {r1 r2 : Option Nat} {w1 w2 w3 : World} (h : PgStep g r1 w1 w2) (k : PgStep g r2 w2 w3) (hr : ∀ b, r2 = some b → r1 = some b ∨ w1.heap.size ≤ b) : PgStep g r1 w1 w3 :=
 ⟨k.os.trans h.os, k.tape.trans h.tape, k.output.trans h.output, Nat.le_trans h.size k.size, fun b hb hg h1 => (k.block b (Nat.lt_of_lt_of_le hb h.size) hg (fun e => by
  rcases hr b e with h2 | h2
  ·exact h1 h2
  ·omega)).trans (h.block b hb hg h1)⟩
theorem PgStep.below {g base : Nat} {row : Option Nat} {w w' : World} (h : PgStep g row w w') (hb : base ≤ w.heap.size) (hg : base ≤ g) (hr : ∀ b, row = some b → base ≤ b) : Below base w w' :=
 ⟨h.os, h.tape, h.output, h.size, fun k hk => h.block k (by omega) (by omega) (fun e => by have := hr k e; omega)⟩
theorem PgStep.cell {g : Nat} {row : Option Nat} {w w' : World} (h : PgStep g row w w') {p : Addr} (hp : p.block < w.heap.size) (hg : p.block ≠ g) (hr : row ≠ some p.block) : w'.cell? p = w.cell? p := by
 have := h.block p.block hp hg hr
 unfold World.cell?
 rw [this]
structure PgA (E g base : Nat) (w w' : World) : Prop where
 os : w'.os = w.os
 tape : w'.tape = w.tape
 output : w'.output = w.output
 size : w.heap.size ≤ w'.heap.size
 low : ∀ k, k < base → w'.heap[k]? = w.heap[k]?
 typed : ∀ k, k < w.heap.size → k ≠ g → (∀ cs r, w.heap[k]? ≠ some (.cells cs E r)) → w'.heap[k]? = w.heap[k]?
theorem PgA.refl (E g base : Nat) (w : World) : PgA E g base w w := ⟨rfl, rfl, rfl, Nat.le_refl _, fun _ _ => rfl, fun _ _ _ _ => rfl⟩
theorem PgA.trans {E g base : Nat} {w1 w2 w3 : World} (h : PgA E g base w1 w2) (k : PgA E g base w2 w3) : PgA E g base w1 w3 :=
 ⟨k.os.trans h.os, k.tape.trans h.tape, k.output.trans h.output, Nat.le_trans h.size k.size, fun b hb => (k.low b hb).trans (h.low b hb), fun b hb hg ht => by
  have h1 := h.typed b hb hg ht
  exact (k.typed b (Nat.lt_of_lt_of_le hb h.size) hg (fun cs r => by rw [h1]; exact ht cs r)).trans h1⟩
theorem PgA.of_below {E g base : Nat} {w w' : World} (h : Below w.heap.size w w') (hb : base ≤ w.heap.size) : PgA E g base w w' :=
 ⟨h.os, h.tape, h.output, h.size, fun k hk => h.block k (by omega), fun k hk _ _ => h.block k hk⟩
theorem PgA.of_grown {E g base : Nat} {row : Option Nat} {w w' : World} (h : w.grownBy w' row) (hb : base ≤ w.heap.size) (hr : ∀ b, row = some b → base ≤ b ∧ ∃ cs r, w.heap[b]? = some (.cells cs E r)) : PgA E g base w w' :=
 ⟨h.os, h.tape, h.output, h.size, fun k hk => h.block k (by omega) (fun e => by have := (hr k e.symm).1; omega), fun k hk _ ht => h.block k hk (fun e => by
  obtain ⟨_, cs, r, hc⟩ := hr k e.symm
  exact ht cs r hc)⟩
theorem PgA.set {E g base : Nat} {w w' : World} (h : PgA E g base w w') (hg : base ≤ g) (o : Nat) (v : Value) : PgA E g base w (w'.setCell ⟨g, o, none⟩ v) :=
 ⟨h.os, h.tape, h.output, by simpa [World.setCell] using h.size, fun k hk => (Below.heap_setCell _ _ _ k (fun e => by have : k = g := e; omega)).trans (h.low k hk), fun k hk hne ht => (Below.heap_setCell _ _ _ k (fun e => hne e)).trans (h.typed k hk hne ht)⟩
theorem PgA.below {E g base : Nat} {w w' : World} (h : PgA E g base w w') : Below base w w' := ⟨h.os, h.tape, h.output, h.size, h.low⟩
/- Units: the type, how they stand. No program in sight. -/
structure Un where
 acc : Int
 cli : Int
 deriving DecidableEq
def encUn (x : Un) : List Value := [.int .i64 x.acc, .int .i64 x.cli]
def okUn (x : Un) : Prop := In64 x.acc ∧ In64 x.cli
theorem rowsUn (l : List Un) : ∀ r ∈ l.map encUn, r.length = 2 ∧ ∀ u ∈ r, u.oneCell' = true := by
 intro r hr
 obtain ⟨m, _, rfl⟩ := List.mem_map.1 hr
 refine ⟨rfl, ?_⟩
 simp only [encUn, List.mem_cons, List.not_mem_nil, or_false, forall_eq_or_imp, forall_eq]
 exact ⟨rfl, rfl⟩
theorem neqUn {x y : Un} (h : x ≠ y) : ((x.acc == y.acc) = false) ∨ ((x.cli == y.cli) = false) := by
 cases h0 : (x.acc == y.acc)
 ·simp
 cases h1 : (x.cli == y.cli)
 ·simp
 ·exfalso
  apply h
  obtain ⟨xacc, xcli⟩ := x
  obtain ⟨yacc, ycli⟩ := y
  simp_all
def lessU (a b : Un) : Bool := decide (a.acc < b.acc) || (a.acc == b.acc && decide (a.cli < b.cli))
theorem lessU_iff {a b : Un} : lessU a b = true ↔ a.acc < b.acc ∨ (a.acc = b.acc ∧ a.cli < b.cli) := by simp [lessU]
theorem lessU_trans {a b c : Un} (h : lessU a b = true) (k : lessU b c = true) : lessU a c = true := by
 rw [lessU_iff] at *
 omega
/- Rows by unit, each with a list of its own: which may be, what a unit has, what any are when a unit has just some. No program in sight. -/
structure Row (α : Type) where
 unit : Un
 rows : List α
section
variable {α : Type} {ok : List α → Bool}
def SortK (l : List (Row α)) : Prop := l.Pairwise (fun a b => lessU a.unit b.unit = true)
def isKR (ok : List α → Bool) : Option Un → List (Row α) → Bool
 | _, [] => true
 | none, x :: t => !x.rows.isEmpty && ok x.rows && isKR ok (some x.unit) t
 | some p, x :: t => !x.rows.isEmpty && ok x.rows && lessU p x.unit && isKR ok (some x.unit) t
def isK (ok : List α → Bool) (l : List (Row α)) : Bool := isKR ok none l
def ofK : List (Row α) → Un → List α
 | [], _ => []
 | x :: t, u => if x.unit = u then x.rows else ofK t u
theorem isKR_facts : ∀ {l : List (Row α)} {p : Option Un} (_ : isKR ok p l = true), SortK l ∧ (∀ x ∈ l, x.rows ≠ [] ∧ ok x.rows = true) ∧ ∀ q, p = some q → ∀ x ∈ l, lessU q x.unit = true
 | [], _, _ => ⟨List.Pairwise.nil, by simp, by simp⟩
 | x :: t, p, h => by
  have ⟨h0, h1, h2⟩ : (x.rows ≠ [] ∧ ok x.rows = true) ∧ isKR ok (some x.unit) t = true ∧ ∀ q, p = some q → lessU q x.unit = true := by
   cases p with
   | none => simp only [isKR, Bool.and_eq_true, Bool.not_eq_true', List.isEmpty_eq_false_iff] at h; exact ⟨h.1, h.2, fun q hq => by cases hq⟩
   | some q => simp only [isKR, Bool.and_eq_true, Bool.not_eq_true', List.isEmpty_eq_false_iff] at h; exact ⟨h.1.1, h.2, fun q' hq => by injection hq with e; subst e; exact h.1.2⟩
  have ⟨i1, i2, i3⟩ := isKR_facts h1
  have i4 := i3 x.unit rfl
  refine ⟨List.pairwise_cons.2 ⟨i4, i1⟩, fun y hy => ?_, fun q hq y hy => ?_⟩
  ·rcases List.mem_cons.1 hy with rfl | hy
   ·exact h0
   ·exact i2 y hy
  ·rcases List.mem_cons.1 hy with rfl | hy
   ·exact h2 q hq
   ·exact lessU_trans (h2 q hq) (i4 y hy)
theorem isK_facts {l : List (Row α)} (h : isK ok l = true) : SortK l ∧ ∀ x ∈ l, x.rows ≠ [] ∧ ok x.rows = true := ⟨(isKR_facts h).1, (isKR_facts h).2.1⟩
theorem isKR_no {p : Option Un} {x : Row α} {t : List (Row α)} (h : x.rows = [] ∨ ok x.rows = false ∨ ∃ q, p = some q ∧ lessU q x.unit = false) : isKR ok p (x :: t) = false := by
 cases hr : isKR ok p (x :: t)
 ·rfl
 ·obtain ⟨_, h2, h3⟩ := isKR_facts hr
  have h4 := h2 x (by simp)
  rcases h with h | h | ⟨q, hq, h⟩
  ·exact absurd h h4.1
  ·rw [h4.2] at h; cases h
  ·rw [h3 q hq x (by simp)] at h; cases h
theorem isKR_step {p : Option Un} {x : Row α} {t : List (Row α)} (h1 : x.rows ≠ []) (h2 : ok x.rows = true) (h3 : ∀ q, p = some q → lessU q x.unit = true) : isKR ok p (x :: t) = isKR ok (some x.unit) t := by
 cases p with
 | none => simp [isKR, h1, h2]
 | some q => simp [isKR, h1, h2, h3 q rfl]
theorem ofK_mem {l : List (Row α)} {u : Un} : (∃ x ∈ l, x.unit = u ∧ ofK l u = x.rows) ∨ ((∀ x ∈ l, x.unit ≠ u) ∧ ofK l u = []) := by
 induction l with
 | nil => exact .inr ⟨by simp, rfl⟩
 | cons x t ih =>
  by_cases hx : x.unit = u
  ·exact .inl ⟨x, by simp, hx, by rw [ofK, if_pos hx]⟩
  ·rcases ih with ⟨y, hy, h1, h2⟩ | ⟨h1, h2⟩
   ·exact .inl ⟨y, by simp [hy], h1, by rw [ofK, if_neg hx, h2]⟩
   ·refine .inr ⟨fun y hy => ?_, by rw [ofK, if_neg hx, h2]⟩
    rcases List.mem_cons.1 hy with rfl | hy
    ·exact hx
    ·exact h1 y hy
end
/- Rows by unit: where a unit stands; what a loop makes of rows that rise; an append that says what it leaves. -/
section
variable {α : Type} {ok : List α → Bool}
theorem ofK_ok {l : List (Row α)} (h : isK ok l = true) (u : Un) : ofK l u = [] ∨ ok (ofK l u) = true := by
 rcases ofK_mem (l := l) (u := u) with ⟨x, hx, _, h1⟩ | ⟨_, h1⟩
 ·right; rw [h1]; exact ((isK_facts h).2 x hx).2
 ·left; exact h1
end
section
variable {α : Type} {u : Un} {now : List α} {x : Row α} {t : List (Row α)}
end
theorem step_appG {P : Program} {ops : Array Oper} {o : Oper} {a : Act} {K : Act → World → Prop} {Q : Exit → Act → World → Prop} {w : World} {R : Prop} (hgd : o.guard = none) (s x : Operand) (T : TypeId)
  (ho : o.op = .call { callee := .builtin .append, args := #[s, x], argTypes := #[T, T] }) {E k bytes : Nat} (el : Elem P T E k bytes)
  (base : Nat) (v : Value) (rows : List (List Value)) (hs : a.eval s = v) (hown : Own w base E k v rows)
  (ad : Addr) (m c : Nat) (hx : a.eval x = .slice (some ad) m c) (news : List (List Value)) (hm : news.length = m) (hr : Rd w (some ad) k news) (hk : ∀ r ∈ news, r.length = k ∧ ∀ u ∈ r, u.oneCell' = true)
  (h63 : rows.length + m ≤ maxLen) (hbytes : (rows.length + m) * bytes ≤ 140737488355328) (hbase : base ≤ w.heap.size)
  (h : ∀ v' w', Own w' base E k v' (rows ++ news) → Below base w w' → w.grownBy w' v.ownBlock → K (a.put o.dst v') w') : if Region.wanted o (yielded ops a.tmps) = true then Oper.wp P o a w K Q else R := by
 have hw : Region.wanted o (yielded ops a.tmps) = true := by simp [Region.wanted, hgd]
 rw [if_pos hw]
 exact wp_appG s x T ho el base v rows hs hown ad m c hx news hm hr hk h63 hbytes hbase h
theorem grown_at {w w' : World} {row : Option Nat} (h : w.grownBy w' row) {g : Nat} (hg : g < w.heap.size) (hne : row ≠ some g) (o : Nat) : w'.cell? ⟨g, o, none⟩ = w.cell? ⟨g, o, none⟩ := by
 have h1 := h.block g hg (fun e => hne e.symm)
 simp only [World.cell?, h1]
/- Pages: contract of line. -/
theorem elStr : Elem Tryz.prog 37 9 1 16 := elem_of Tryz.underlying37 (z := .string ⟨#[]⟩) (by kernel_rfl) rfl (by omega)
theorem strs_back (ws : List Str) : (ws.map (fun l => (⟨l.toArray⟩ : ByteArray))).map (·.data.toList) = ws := by
 rw [List.map_map]
 conv => rhs; rw [← List.map_id ws]
 exact List.map_congr_left fun _ _ => rfl
theorem joinStr (ws : List Str) (bk c : Nat) (w : World) (hr : Rd w (some ⟨bk, 0, none⟩) 1 (ws.map encStr)) (hbk : bk < w.heap.size) (hc : ws.length ≤ c) (hwl : ws.length ≤ 1000) (hjl : (Lib.join ws [32]).length ≤ 100000) :
  Calls Tryz.prog 59 #[.slice (some ⟨bk, 0, none⟩) ws.length c, .string ⟨#[32]⟩] w fun e w' => e = .returned (strV (Lib.join ws [32])) ∧ Below w.heap.size w w' := by
 have h := Tryz.strings_Join bk 0 c (ws.map (fun l => (⟨l.toArray⟩ : ByteArray))) ⟨#[32]⟩ w (fun j x hx => by
  rw [List.getElem?_map] at hx
  cases hj : ws[j]? with
  | none => rw [hj] at hx; simp at hx
  | some l =>
   rw [hj] at hx
   simp only [Option.map_some, Option.some.injEq] at hx
   subst hx
   obtain ⟨b, o, e, hb, hcl⟩ := hr j (encStr l) (by rw [List.getElem?_map, hj]; rfl)
   injection e with e
   injection e with e1 e2 _
   subst e1 e2
   have h1 := hcl 0 _ rfl
   simpa [strV] using h1) hbk (by simp; omega) (by simpa using hc) (by rw [strs_back]; show (Lib.join ws [32]).length ≤ _; omega)
 rw [strs_back, List.length_map] at h
 exact h
theorem pageLine (g base base0 bk c : Nat) (v : Value) (ls ws : List Str) (w : World) (h0 : w.cell? ⟨g, 0, none⟩ = some v) (hfz : w.frozen? ⟨g, 0, none⟩ = false) (hown : Own w base 9 1 v (ls.map encStr)) (hgb : g < base) (hg0 : base0 ≤ g) (hb : base ≤ w.heap.size) (hr : Rd w (some ⟨bk, 0, none⟩) 1 (ws.map encStr)) (hbk : bk < w.heap.size) (hc : ws.length ≤ c) (hwl : ws.length ≤ 1000) (hjl : (Lib.join ws [32]).length ≤ 100000) (hll : ls.length ≤ 1000000000) :
  Calls Tryz.prog 28 #[.pointer (some ⟨g, 0, none⟩), .slice (some ⟨bk, 0, none⟩) ws.length c] w fun e w' => e = .returned (.tuple #[]) ∧ ∃ v', w'.cell? ⟨g, 0, none⟩ = some v' ∧ Own w' base 9 1 v' ((ls ++ [Lib.join ws [32]]).map encStr) ∧ w'.frozen? ⟨g, 0, none⟩ = false ∧ PgA 9 g base0 w w' := by
 have CJ := hid (fun W (h : Below w.heap.size w W) => joinStr ws bk c W (hr.keep h) (Nat.lt_of_lt_of_le hbk h.size) hc hwl hjl)
 generalize Lib.join ws [32] = J at *
 have HO := hid hown
 clear hr hown hjl
 have hgw : g < w.heap.size := by omega
 go_enter Tryz.func28, Tryz.ntmps28
 go_region_law (first | (refine step_appG rfl (.tmp 8) (.tmp 11) 37 rfl elStr base v (ls.map encStr) (by simp [Act.eval]) (HO.out.keep tB) ⟨_, 0, none⟩ 1 1 (by simp [Act.eval]; rfl) [encStr J] rfl (rd_oneN (by simp)) (by intro r hr; simp at hr; subst hr; exact ⟨rfl, by intro u hu; simp [encStr] at hu; subst hu; rfl⟩) (by simp; unfold maxLen; omega) (by simp; omega) (by simp; omega) ?_; intro v4 w4 hown4 hb4 hg4; have hBW := (show Below base w w4 by (have h1 := hb3.mono hb; exact tB)); have g4 := (hBW.cell (p := ⟨g, 0, none⟩) hgb).trans h0; have f4 := (hBW.frozen (p := ⟨g, 0, none⟩) hgb).trans hfz; obtain ⟨A4, c4, hv4, _, _⟩ := hown4.rs; subst hv4; have HO4 := hid hown4; have HG4 := hid hg4; clear hown4 hg4 hBW) | (go_simp; go_at_call 59; (with_reducible refine cM (CJ.out _ tB) fun w3 hb3 fc3 fg3 hc3 hf3 hz3 => ?_); (try simp at hz3); have hg3 : ¬ g = w3.heap.size := (by omega)))
 all_goals
  refine bodyPost_end (v := .tuple #[]) (by simp [results, Tryz.results28, go_sem]; try rfl) rfl ⟨rfl, .slice A4 (ls.length + 1) c4, ?_, ?_, ?_, ?_⟩
  ·simp [go_sem, g4]
  ·have h5 := HO4.out.farLow (p := ⟨g, 0, none⟩) hgb (.slice A4 (ls.length + 1) c4)
   rw [List.map_append]
   simpa using h5
  ·simpa [go_sem] using f4
  ·have h6 := (HO.out.keep (show Below w.heap.size w (w3.alloc (.cells #[strV J] 9)) by (have h1 := hb3; exact tB)))
   have h7 := (show Below w.heap.size w (w3.alloc (.cells #[strV J] 9)) by (have h1 := hb3; exact tB))
   have h5 : PgA 9 g base0 w w4 := (PgA.of_below h7 (by omega)).trans (PgA.of_grown HG4.out (by simp; omega) (fun b hb => ⟨by have := (h6.block b hb).1; omega, h6.typed b hb⟩))
   exact h5.set hg0 0 _
/- Pages: contracts of num, long, maybe, place. -/
abbrev TabP (w : World) : Prop := Lib.TabIs Tryz.prog w "internal/strconv.uint64pow10" .u64 Lib.pow10Tab
theorem TabP.keep {w w' : World} (h : TabP w) (hb : Below w.heap.size w w') : TabP w' := (Lib.tabBelow_of_tabIs h) w' hb
theorem below_grown (w : World) (k : Nat) (os : Array Obj) : Below w.heap.size w (Sort.grow (w.drewN k) os) := by
 refine ⟨rfl, rfl, rfl, ?_, fun b hb => ?_⟩
 ·simp [Sort.grow, World.drewN]
 ·show (w.heap ++ os)[b]? = w.heap[b]?
  rw [Array.getElem?_append_left hb]
theorem itoaS (n : Int) (w : World) (hn : In64 n) (ht : TabP w) :
  Calls Tryz.prog 60 #[.int .i64 n] w fun e w' => e = .returned (strV (Lib.itoa n)) ∧ Below w.heap.size w w' := by
 unfold In64 at hn
 exact (Tryz.strconv_Itoa n (by omega) (by omega) w ht).mono fun e w' ⟨h1, k, os, h2⟩ => ⟨h1, by rw [h2]; exact below_grown w k os⟩
theorem fmtS (n : Int) (w : World) (hn : In64 n) (ht : TabP w) :
  Calls Tryz.prog 99 #[.int .i64 n, .int .i64 10] w fun e w' => e = .returned (strV (Lib.itoa n)) ∧ Below w.heap.size w w' := by
 unfold In64 at hn
 exact (Tryz.strconv_FormatInt_10 n (by omega) (by omega) w ht).mono fun e w' ⟨h1, k, os, h2⟩ => ⟨h1, by rw [h2]; exact below_grown w k os⟩
theorem repNum (n : Int) (w : World) (hn : In64 n) (ht : TabP w) :
  Calls Tryz.prog 29 #[.int .i64 n] w fun e w' => e = .returned (strV (Lib.itoa n)) ∧ Below w.heap.size w w' := by
 have CI := hid (fun W (h : Below w.heap.size w W) => itoaS n W hn (ht.keep h))
 generalize Lib.itoa n = J at *
 clear ht
 go_enter Tryz.func29, Tryz.ntmps29
 go_wp2_with (first | (go_at_call 60; (with_reducible refine cM (CI.out _ tB) fun w1 hb1 fc1 fg1 hc1 hf1 hz1 => ?_); (try simp at hz1)) | fail)
 go_ret
 exact ⟨rfl, tB⟩
theorem repLong (n : Int) (w : World) (hn : In64 n) (ht : TabP w) :
  Calls Tryz.prog 62 #[.int .i64 n] w fun e w' => e = .returned (strV (Lib.itoa n)) ∧ Below w.heap.size w w' := by
 have CI := hid (fun W (h : Below w.heap.size w W) => fmtS n W hn (ht.keep h))
 generalize Lib.itoa n = J at *
 clear ht
 go_enter Tryz.func62, Tryz.ntmps62
 go_wp2_with (first | (go_at_call 99; (with_reducible refine cM (CI.out _ tB) fun w1 hb1 fc1 fg1 hc1 hf1 hz1 => ?_); (try simp at hz1)) | fail)
 go_ret
 exact ⟨rfl, tB⟩
def placeL (u : Un) : Str := Lib.itoa u.acc ++ ([46] ++ Lib.itoa u.cli)
theorem str_app (a b : Str) : (⟨a.toArray⟩ : ByteArray) ++ (⟨b.toArray⟩ : ByteArray) = ⟨(a ++ b).toArray⟩ := by
 apply ByteArray.ext
 simp [ByteArray.data_append]
theorem repPlace (u : Un) (w : World) (hu : In64 u.acc ∧ In64 u.cli) (ht : TabP w) :
  Calls Tryz.prog 61 #[.agg #[.int .i64 u.acc, .int .i64 u.cli]] w fun e w' => e = .returned (strV (placeL u)) ∧ Below w.heap.size w w' := by
 have CA := hid (fun W (h : Below w.heap.size w W) => repNum u.acc W hu.1 (ht.keep h))
 have CB := hid (fun W (h : Below w.heap.size w W) => repNum u.cli W hu.2 (ht.keep h))
 have hJ : (Lib.itoa u.acc).length ≤ 21 := Lib.itoa_length_le _ (by have h1 := hu.1; unfold In64 at h1; omega) (by have h1 := hu.1; unfold In64 at h1; omega)
 have hK : (Lib.itoa u.cli).length ≤ 21 := Lib.itoa_length_le _ (by have h1 := hu.2; unfold In64 at h1; omega) (by have h1 := hu.2; unfold In64 at h1; omega)
 unfold placeL
 generalize Lib.itoa u.acc = J at *
 generalize Lib.itoa u.cli = K at *
 have q1 : ¬ 9223372036854775807 < J.length + 1 := by omega
 have q2 : ¬ 9223372036854775807 < J.length + 1 + K.length := by omega
 clear ht hu
 go_enter Tryz.func61, Tryz.ntmps61
 go_wp2_with fail
 go_region_held3 (fun w' => w'.cell? ⟨w.heap.size, 0, none⟩ = some (.int .i64 u.acc) ∧ w'.cell? ⟨w.heap.size, 1, none⟩ = some (.int .i64 u.cli)) (exact tK) (first | (go_at_call 29; (with_reducible refine cM (CA.out _ tB) fun w1 hb1 fc1 fg1 hc1 hf1 hz1 => ?_); (try simp at hz1)) | (go_at_call 29; (with_reducible refine cM (CB.out _ tB) fun w2 hb2 fc2 fg2 hc2 hf2 hz2 => ?_); (try simp at hz2)) | fail)
 all_goals
  go_wp2_with fail
  go_ret
  exact ⟨by
   rw [show (⟨#[46]⟩ : ByteArray) = ⟨([46] : Str).toArray⟩ from rfl, str_app, str_app, List.append_assoc]
   rfl, tB⟩
/- What a row's list of tables gives the walks, and a world for the witness: the same for both laws of layer 36. -/
theorem gPow : Tryz.prog.globalNamed "internal/strconv.uint64pow10" = some 1 := by kernel_rfl
theorem tPow : (Tryz.prog.globals[1]?).map (·.type) = some 243 := by kernel_rfl
theorem cPow : Tryz.prog.cellsOf 243 = 20 := by kernel_rfl
theorem cU64 : Tryz.prog.cellsOf 179 = 1 := by kernel_rfl
theorem dPow : (Rows.laid_internal_strconv_uint64pow10 : DataW Unit) = Lib.tabData .u64 Lib.pow10Tab := by kernel_rfl
theorem tab_pow {W : World} (h : laidMet Tryz.prog Rows.reportAllRow.laid W) : TabP W := by
 obtain ⟨ps, ⟨_, _, _, _, _, _, _, _, _, _, ⟨_, _, _, _, _, _, _, _, _, _, ⟨g', t', cs, fuel, p, q, hg', ht', hvar, hd, _, _⟩, _⟩, _⟩, _⟩ := h
 obtain rfl := Option.some.inj (gPow.symm.trans hg')
 obtain rfl := Option.some.inj (tPow.symm.trans ht')
 rw [dPow] at hd
 unfold TabP Lib.TabIs
 rw [hvar, ← Lib.cells_of_tab Tryz.underlying243 Tryz.underlying179 cU64 cPow hd]
def layCells (cs : Array Value) : Obj → Obj
 | .cells _ t frozen => .cells cs t frozen
 | o => o
noncomputable def laidWorld (os : Os) : World :=
 let h := (World.holding Tryz.prog os ⟨#[], #[], []⟩).heap
 let h1 := h.modify 1 (layCells #[.int .u64 1, .int .u64 10, .int .u64 100, .int .u64 1000, .int .u64 10000, .int .u64 100000, .int .u64 1000000, .int .u64 10000000, .int .u64 100000000, .int .u64 1000000000, .int .u64 10000000000, .int .u64 100000000000, .int .u64 1000000000000, .int .u64 10000000000000, .int .u64 100000000000000, .int .u64 1000000000000000, .int .u64 10000000000000000, .int .u64 100000000000000000, .int .u64 1000000000000000000, .int .u64 10000000000000000000])
 let h2 := h1.modify 2 (layCells #[.int .u8 0, .int .u8 1, .int .u8 28, .int .u8 2, .int .u8 29, .int .u8 14, .int .u8 24, .int .u8 3, .int .u8 30, .int .u8 22, .int .u8 20, .int .u8 15, .int .u8 25, .int .u8 17, .int .u8 4, .int .u8 8, .int .u8 31, .int .u8 27, .int .u8 13, .int .u8 23, .int .u8 21, .int .u8 19, .int .u8 16, .int .u8 7, .int .u8 26, .int .u8 12, .int .u8 18, .int .u8 6, .int .u8 11, .int .u8 5, .int .u8 10, .int .u8 9])
 let h3 := h2.modify 3 (layCells #[.int .u8 0, .int .u8 1, .int .u8 56, .int .u8 2, .int .u8 57, .int .u8 49, .int .u8 28, .int .u8 3, .int .u8 61, .int .u8 58, .int .u8 42, .int .u8 50, .int .u8 38, .int .u8 29, .int .u8 17, .int .u8 4, .int .u8 62, .int .u8 47, .int .u8 59, .int .u8 36, .int .u8 45, .int .u8 43, .int .u8 51, .int .u8 22, .int .u8 53, .int .u8 39, .int .u8 33, .int .u8 30, .int .u8 24, .int .u8 18, .int .u8 12, .int .u8 5, .int .u8 63, .int .u8 55, .int .u8 48, .int .u8 27, .int .u8 60, .int .u8 41, .int .u8 37, .int .u8 16, .int .u8 46, .int .u8 35, .int .u8 44, .int .u8 21, .int .u8 52, .int .u8 32, .int .u8 23, .int .u8 11, .int .u8 54, .int .u8 26, .int .u8 40, .int .u8 15, .int .u8 34, .int .u8 20, .int .u8 31, .int .u8 10, .int .u8 25, .int .u8 14, .int .u8 19, .int .u8 9, .int .u8 13, .int .u8 8, .int .u8 7, .int .u8 6])
 { World.holding Tryz.prog os ⟨#[], #[], []⟩ with heap := h3 }
theorem laid_met (os : Os) (args : Array Value) : laidMet Tryz.prog Rows.reportAllRow.laid ((laidWorld os).forCall (fun _ _ => 0) ⟨#[], args, []⟩).memory :=
 laidMet_of_run' 8 (by kernel_rfl) (by kernel_rfl)
/- Pages: contracts of maybe, kind, phase. -/
def maybeL (n e : Int) : Str := if e = 0 then Lib.itoa n else [110, 111, 110, 101]
theorem repMaybe (n c : Int) (w : World) (hn : In64 n) (ht : TabP w) :
  Calls Tryz.prog 67 #[.int .i64 n, .int .i64 c] w fun e w' => e = .returned (strV (maybeL n c)) ∧ Below w.heap.size w w' := by
 have CI := hid (fun W (h : Below w.heap.size w W) => repLong n W hn (ht.keep h))
 by_cases h0 : c = 0
 ·subst h0
  rw [show maybeL n 0 = Lib.itoa n from rfl]
  generalize Lib.itoa n = J at *
  clear ht
  go_enter Tryz.func67, Tryz.ntmps67
  go_wp2_with (first | (go_at_call 62; (with_reducible refine cM (CI.out _ tB) fun w1 hb1 fc1 fg1 hc1 hf1 hz1 => ?_); (try simp at hz1)) | fail)
  go_ret
  exact ⟨rfl, tB⟩
 ·rw [show maybeL n c = [110, 111, 110, 101] from if_neg h0]
  have n0 : (c != 0) = true := by simpa using h0
  clear ht CI
  go_enter Tryz.func67, Tryz.ntmps67
  go_wp2_with fail
  go_ret
  exact ⟨rfl, tB⟩
def kindL (k : Int) : Str := if k = 1 then [104, 111, 117, 115, 101] else if k = 2 then [110, 101, 116] else if k = 3 then [103, 114, 111, 115, 115] else if k = 4 then [115, 101, 103] else [63]
def phaseL (p : Int) : Str := if p = 0 then [97, 99, 116, 105, 118, 101] else if p = 1 then [119, 105, 110, 100, 111, 119] else if p = 2 then [115, 101, 108, 108, 105, 110, 103] else if p = 3 then [99, 108, 111, 115, 101, 100] else [63]
theorem repKind (k : Int) (w : World) :
  Calls Tryz.prog 107 #[.int .i64 k] w fun e w' => e = .returned (strV (kindL k)) ∧ Below w.heap.size w w' := by
 by_cases h1 : k = 1
 ·subst h1
  go_enter Tryz.func107, Tryz.ntmps107
  go_wp2_with fail
  go_ret
  exact ⟨rfl, tB⟩
 have e1 : (k == 1) = false := by simpa using h1
 by_cases h2 : k = 2
 ·subst h2
  go_enter Tryz.func107, Tryz.ntmps107
  go_wp2_with fail
  go_ret
  exact ⟨rfl, tB⟩
 have e2 : (k == 2) = false := by simpa using h2
 by_cases h3 : k = 3
 ·subst h3
  go_enter Tryz.func107, Tryz.ntmps107
  go_wp2_with fail
  go_ret
  exact ⟨rfl, tB⟩
 have e3 : (k == 3) = false := by simpa using h3
 by_cases h4 : k = 4
 ·subst h4
  go_enter Tryz.func107, Tryz.ntmps107
  go_wp2_with fail
  go_ret
  exact ⟨rfl, tB⟩
 have e4 : (k == 4) = false := by simpa using h4
 rw [show kindL k = [63] from by unfold kindL; rw [if_neg h1, if_neg h2, if_neg h3, if_neg h4]]
 go_enter Tryz.func107, Tryz.ntmps107
 go_wp2_with fail
 go_ret
 exact ⟨rfl, tB⟩
theorem repPhase (k : Int) (w : World) :
  Calls Tryz.prog 69 #[.int .i64 k] w fun e w' => e = .returned (strV (phaseL k)) ∧ Below w.heap.size w w' := by
 by_cases h1 : k = 0
 ·subst h1
  go_enter Tryz.func69, Tryz.ntmps69
  go_wp2_with fail
  go_ret
  exact ⟨rfl, tB⟩
 have e1 : (k == 0) = false := by simpa using h1
 by_cases h2 : k = 1
 ·subst h2
  go_enter Tryz.func69, Tryz.ntmps69
  go_wp2_with fail
  go_ret
  exact ⟨rfl, tB⟩
 have e2 : (k == 1) = false := by simpa using h2
 by_cases h3 : k = 2
 ·subst h3
  go_enter Tryz.func69, Tryz.ntmps69
  go_wp2_with fail
  go_ret
  exact ⟨rfl, tB⟩
 have e3 : (k == 2) = false := by simpa using h3
 by_cases h4 : k = 3
 ·subst h4
  go_enter Tryz.func69, Tryz.ntmps69
  go_wp2_with fail
  go_ret
  exact ⟨rfl, tB⟩
 have e4 : (k == 3) = false := by simpa using h4
 rw [show phaseL k = [63] from by unfold phaseL; rw [if_neg h1, if_neg h2, if_neg h3, if_neg h4]]
 go_enter Tryz.func69, Tryz.ntmps69
 go_wp2_with fail
 go_ret
 exact ⟨rfl, tB⟩
/- Pages: a page as one word; contract of line by it. -/
structure Page (w : World) (g base : Nat) (ls : List Str) : Prop where
 ex : ∃ v, w.cell? ⟨g, 0, none⟩ = some v ∧ Own w base 9 1 v (ls.map encStr)
 frozen : w.frozen? ⟨g, 0, none⟩ = false
 lt : g < base
 size : base ≤ w.heap.size
theorem Page.keep {w w' : World} {g base : Nat} {ls : List Str} (h : Page w g base ls) (hb : Below w.heap.size w w') : Page w' g base ls := by
 obtain ⟨v, h1, h2⟩ := h.ex
 have hg : g < w.heap.size := Nat.lt_of_lt_of_le h.lt h.size
 exact ⟨⟨v, (hb.cell (p := ⟨g, 0, none⟩) hg).trans h1, h2.keep hb⟩, (hb.frozen (p := ⟨g, 0, none⟩) hg).trans h.frozen, h.lt, Nat.le_trans h.size hb.size⟩
theorem pageLineP (g base base0 bk c : Nat) (ls ws : List Str) (w : World) (hp : Page w g base ls) (hg0 : base0 ≤ g) (hr : Rd w (some ⟨bk, 0, none⟩) 1 (ws.map encStr)) (hbk : bk < w.heap.size) (hc : ws.length ≤ c) (hwl : ws.length ≤ 1000) (hjl : (Lib.join ws [32]).length ≤ 100000) (hll : ls.length ≤ 1000000000) :
  Calls Tryz.prog 28 #[.pointer (some ⟨g, 0, none⟩), .slice (some ⟨bk, 0, none⟩) ws.length c] w fun e w' => e = .returned (.tuple #[]) ∧ Page w' g base (ls ++ [Lib.join ws [32]]) ∧ PgA 9 g base0 w w' := by
 obtain ⟨v, h1, h2⟩ := hp.ex
 exact (pageLine g base base0 bk c v ls ws w h1 hp.frozen h2 hp.lt hg0 hp.size hr hbk hc hwl hjl hll).mono fun e w' ⟨e1, v', e2, e3, e4, e5⟩ => ⟨e1, ⟨⟨v', e2, e3⟩, e4, hp.lt, Nat.le_trans hp.size e5.size⟩, e5⟩
end Go.Proofs.YtalgfpegaobacaaGreatDoor
