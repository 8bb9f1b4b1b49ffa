/- Words for memory: a block that is known whole; a call that writes one block; a slice that reads as rows of cells. No program in sight. -/
import Derived.Test.YtenehpcliajdnaaNum
namespace Go.Proofs.Ytenehpcliajdnaa
open Go.RowKit

/-- Block g is just these cells, none frozen. -/
def Blk (w : World) (g : Nat) (t : TypeId) (cs : Array Value) : Prop := w.heap[g]? = some (.cells cs t (0, 0))
section
variable {w w' : World} {g : Nat} {t : TypeId} {cs : Array Value}
theorem Blk.lt (h : Blk w g t cs) : g < w.heap.size := by
  rcases Nat.lt_or_ge g w.heap.size with hlt | hge
  · exact hlt
  · unfold Blk at h; rw [Array.getElem?_eq_none hge] at h; cases h
theorem Blk.cell (h : Blk w g t cs) (i : Nat) : w.cell? ⟨g, i, none⟩ = cs[i]? := cell_of_row w g i cs t (0, 0) h
theorem Blk.frozen (h : Blk w g t cs) (i : Nat) : w.frozen? ⟨g, i, none⟩ = false := by
  unfold Blk at h
  simp [World.frozen?, h]
theorem Blk.new (w : World) (t : TypeId) (cs : Array Value) : Blk (w.alloc (.cells cs t)) w.heap.size t cs := heap_alloc_new w _
theorem Blk.here {n : Nat} (h : n = w.heap.size) : Blk (w.alloc (.cells cs t)) n t cs := by subst h; exact Blk.new w t cs
theorem Blk.drew (h : Blk w g t cs) : Blk w.drew g t cs := h
theorem Blk.alloc (h : Blk w g t cs) (o : Obj) : Blk (w.alloc o) g t cs := (Below.heap_alloc w o g h.lt).trans h
theorem Blk.set (h : Blk w g t cs) (i : Nat) (u : Value) : Blk (w.setCell ⟨g, i, none⟩ u) g t (cs.setIfInBounds i u) := by
  unfold Blk at h ⊢
  simp [World.setCell, Array.getElem?_modify, h]
theorem Blk.far (h : Blk w g t cs) {p : Addr} (hp : g ≠ p.block) (u : Value) : Blk (w.setCell p u) g t cs := (Below.heap_setCell w p u g hp).trans h
theorem Blk.below {B : Nat} (h : Blk w g t cs) (hb : Below B w w') (hg : g < B) : Blk w' g t cs := (hb.block g hg).trans h
end

/-- Of what was there block g alone may have turned. -/
structure Only (g : Nat) (w w' : World) : Prop where
  os : w'.os = w.os
  tape : w'.tape = w.tape
  output : w'.output = w.output
  size : w.heap.size ≤ w'.heap.size
  block : ∀ k, k < w.heap.size → k ≠ g → w'.heap[k]? = w.heap[k]?
section
variable {a w w' : World} {g B : Nat}
theorem Only.refl (g : Nat) (w : World) : Only g w w := ⟨rfl, rfl, rfl, Nat.le_refl _, fun _ _ _ => rfl⟩
theorem Only.drew (h : Only g a w) : Only g a w.drew := ⟨h.os, h.tape, h.output, h.size, h.block⟩
theorem Only.alloc (h : Only g a w) (o : Obj) : Only g a (w.alloc o) :=
  ⟨h.os, h.tape, h.output, Nat.le_trans h.size (by simp), fun i hi hne => (Below.heap_alloc w o i (Nat.lt_of_lt_of_le hi h.size)).trans (h.block i hi hne)⟩
theorem Only.set (h : Only g a w) {p : Addr} (hp : p.block = g ∨ a.heap.size ≤ p.block) (u : Value) : Only g a (w.setCell p u) :=
  ⟨h.os, h.tape, h.output, by simpa [World.setCell] using h.size, fun i hi hne => (Below.heap_setCell w p u i (by
    rintro rfl
    rcases hp with hp | hp
    · exact hne hp
    · omega)).trans (h.block i hi hne)⟩
theorem Only.trans {b c : World} (h : Only g a b) (k : Only g b c) : Only g a c :=
  ⟨k.os.trans h.os, k.tape.trans h.tape, k.output.trans h.output, Nat.le_trans h.size k.size, fun i hi hn => (k.block i (Nat.lt_of_lt_of_le hi h.size) hn).trans (h.block i hi hn)⟩
theorem Only.via (h : Only g a w) (hb : Below w.heap.size w w') : Only g a w' :=
  ⟨hb.os.trans h.os, hb.tape.trans h.tape, hb.output.trans h.output, Nat.le_trans h.size hb.size, fun i hi hn => (hb.block i (Nat.lt_of_lt_of_le hi h.size)).trans (h.block i hi hn)⟩
/-- Behind a call that writes block g alone, g being one of those made since: what lay below stands. -/
theorem below_only {B : Nat} (h : Below B a w) (ho : Only g w w') (hB : B ≤ w.heap.size) (hg : B ≤ g) : Below B a w' :=
  h.trans ⟨ho.os, ho.tape, ho.output, ho.size, fun k hk => ho.block k (by omega) (by omega)⟩
end

/-- What a call that writes block g alone gives the walk behind it. -/
theorem oget {g : Nat} {W w1 : World} (h : Only g W w1) : ∃ (f : Nat → Nat → Option Value) (z : Nat → Nat → Bool), (∀ b o, w1.cell? ⟨b, o, none⟩ = if b = g then f b o else if b < W.heap.size then W.cell? ⟨b, o, none⟩ else f b o) ∧ (∀ b o, w1.frozen? ⟨b, o, none⟩ = if b = g then z b o else if b < W.heap.size then W.frozen? ⟨b, o, none⟩ else z b o) ∧ W.heap.size ≤ w1.heap.size := by
  refine ⟨fun b o => w1.cell? ⟨b, o, none⟩, fun b o => w1.frozen? ⟨b, o, none⟩, fun b o => ?_, fun b o => ?_, h.size⟩
  · split
    · rfl
    · split
      · exact World.cell?_of_block (w := W) (h.block b (by assumption) (by assumption))
      · rfl
  · split
    · rfl
    · split
      · exact World.frozen?_of_block (w := W) (h.block b (by assumption) (by assumption))
      · rfl
/-- A slice's address and the rows of cells of its elements, k cells each. -/
def Rd (w : World) (A : Option Addr) (k : Nat) (rows : List (List Value)) : Prop :=
  ∀ i r, rows[i]? = some r → ∃ b o, A = some ⟨b, o, none⟩ ∧ b < w.heap.size ∧ ∀ j v, r[j]? = some v → w.cell? ⟨b, o + i * k + j, none⟩ = some v
theorem Rd.drew {w : World} {A : Option Addr} {k : Nat} {rows : List (List Value)} (h : Rd w A k rows) : Rd w.drew A k rows := h
theorem Rd.keep {w w' : World} {A : Option Addr} {k : Nat} {rows : List (List Value)} (h : Rd w A k rows) (hb : Below w.heap.size w w') : Rd w' A k rows := by
  intro i r hr
  obtain ⟨b, o, hA, hlt, hc⟩ := h i r hr
  exact ⟨b, o, hA, Nat.lt_of_lt_of_le hlt hb.size, fun j v hv => cell_via hb hlt (hc j v hv)⟩
/-- A store into a cell that holds none of the rows' values turns none of them. -/
theorem Rd.far {w : World} {A : Option Addr} {k : Nat} {rows : List (List Value)} (h : Rd w A k rows) {p : Addr} {v0 : Value} (hp : w.cell? p = some v0) (hne : ∀ r ∈ rows, v0 ∉ r) (u : Value) : Rd (w.setCell p u) A k rows := by
  intro i r hr
  obtain ⟨b, o, hA, hlt, hc⟩ := h i r hr
  refine ⟨b, o, hA, by simpa [World.setCell] using hlt, fun j v hv => ?_⟩
  rw [World.cell?_setCell_other _ _ _ _ (fun e => ?_)]
  · exact hc j v hv
  · have h1 := hc j v hv
    rw [← e, hp] at h1
    injection h1 with h1
    subst h1
    exact hne r (List.mem_of_getElem? hr) (List.mem_of_getElem? hv)
end Go.Proofs.Ytenehpcliajdnaa
