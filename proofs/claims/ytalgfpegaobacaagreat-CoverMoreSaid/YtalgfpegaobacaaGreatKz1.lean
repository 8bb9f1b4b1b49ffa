/- Joined: Num, Mem, Own, AssetT, Asset1, Bits, Wide1. -/
import Derived.WalkKit
import Derived.Deep.Draws
import Derived.Lib.Hide
import Derived.Maps.AppendAt
import Derived.Test.YtalgfpegaobacaaGreatRows
import Derived.WalkSpells
import Derived.WalkLawsBesides
import Derived.BigQuiet
import Derived.Deep.RegionHeld3
import Derived.Handy
import Derived.Shelf.Small.Bits
import Derived.Shelf.Strconv.Itoa0
import Derived.Shelf.Bits.Mul64
import Derived.Test.YtalgfpegaobacaaGreatProg
import Derived.Shelf.Spec.BitsCarry
/- Plain numbers of 64 and 128 bits, and small laws on worlds: no program in sight. -/
namespace Go.Proofs.YtalgfpegaobacaaGreat
open Go.RowKit
def whi (n : Int) : Int := n / 18446744073709551616
def wlo (n : Int) : Int := n % 18446744073709551616
/-- One of 128 bits, with a sign. -/
def In128 (n : Int) : Prop := -170141183460469231731687303715884105728 ≤ n ∧ n < 170141183460469231731687303715884105728
def In64 (n : Int) : Prop := -9223372036854775808 ≤ n ∧ n ≤ 9223372036854775807
theorem whi_wlo (n : Int) : whi n * 18446744073709551616 + wlo n = n := by unfold whi wlo; omega
theorem wlo_u (n : Int) : 0 ≤ wlo n ∧ wlo n ≤ 18446744073709551615 := by unfold wlo; omega
theorem whi_i {n : Int} (h : In128 n) : -9223372036854775808 ≤ whi n ∧ whi n ≤ 9223372036854775807 := by unfold In128 at h; unfold whi; omega

/-- What a contract's 'Below' gives the walk that goes on behind the call: rules without side conditions; the 'if' is decided by arithmetic. -/
theorem bget {B : Nat} {W w1 : World} (hb : Below B W w1) : ∃ (f : Nat → Nat → Option Value) (g : Nat → Nat → Bool), (∀ b o, w1.cell? ⟨b, o, none⟩ = if b < B then W.cell? ⟨b, o, none⟩ else f b o) ∧ (∀ b o, w1.frozen? ⟨b, o, none⟩ = if b < B then W.frozen? ⟨b, o, none⟩ else g b o) ∧ W.heap.size ≤ w1.heap.size :=
  ⟨fun b o => w1.cell? ⟨b, o, none⟩, fun b o => w1.frozen? ⟨b, o, none⟩, fun b o => by split <;> first | rfl | exact hb.cell (p := ⟨b, o, none⟩) (by assumption), fun b o => by split <;> first | rfl | exact hb.frozen (p := ⟨b, o, none⟩) (by assumption), hb.size⟩
/-- A call behind what was made before it. -/
theorem below_via {B C : Nat} {a w w1 : World} (h : Below B a w) (hb : Below C w w1) (hB : B ≤ C) : Below B a w1 := h.trans (hb.mono hB)
/-- A number of 128 bits out of any. -/
def wrap128 (n : Int) : Int := (n + 170141183460469231731687303715884105728) % 340282366920938463463374607431768211456 - 170141183460469231731687303715884105728
theorem wrap128_in {n : Int} (h : In128 n) : wrap128 n = n := by unfold In128 at h; unfold wrap128; omega
theorem wrap128_is (n : Int) : In128 (wrap128 n) := by unfold In128 wrap128; omega
theorem ret_bool {a b : Prop} [Decidable a] [Decidable b] (h : a ↔ b) : Ending.returned (.bool (decide a)) = .returned (.bool (decide b)) := by simp [h]
theorem ret_int {k : IntKind} {a b : Int} (h : a = b) : Ending.returned (.int k a) = .returned (.int k b) := by rw [h]
theorem ret_agg2 {k l : IntKind} {a b c d : Int} (h : a = c) (h' : b = d) : Ending.returned (.agg #[.int k a, .int l b]) = .returned (.agg #[.int k c, .int l d]) := by rw [h, h']
theorem bool_eq {a b : Prop} [Decidable a] [Decidable b] (h : a ↔ b) : Value.bool (decide a) = .bool (decide b) := by simp [h]
theorem ret_tup2 {a b c d : Value} (h : a = c) (h' : b = d) : Ending.returned (.tuple #[a, b]) = .returned (.tuple #[c, d]) := by rw [h, h']
/-- A number without its sign. -/
def iabs (n : Int) : Int := if n < 0 then - n else n
theorem iabs_neg {n : Int} (h : n < 0) : iabs n = - n := by unfold iabs; rw [if_pos h]
theorem iabs_pos {n : Int} (h : 0 ≤ n) : iabs n = n := by unfold iabs; rw [if_neg (by omega)]
theorem iabs_nat (n : Int) : iabs n = n.natAbs := by unfold iabs; split <;> omega
/-- A number with a sign. -/
def sgn (s : Bool) (m : Int) : Int := if s then - m else m
def in128 (n : Int) : Bool := decide (-170141183460469231731687303715884105728 ≤ n ∧ n < 170141183460469231731687303715884105728)
theorem in128_true {n : Int} (h : In128 n) : in128 n = true := by unfold In128 at h; simpa [in128] using h
theorem sgn_mul (a b : Int) : sgn (decide (a < 0) != decide (b < 0)) (iabs a * iabs b) = a * b := by
  unfold iabs
  by_cases h1 : a < 0 <;> by_cases h2 : b < 0 <;> simp [sgn, h1, h2, Int.neg_mul, Int.mul_neg]
theorem iabs_mul (a b : Int) : iabs a * iabs b = iabs (a * b) := by rw [iabs_nat, iabs_nat, iabs_nat, Int.natAbs_mul]; simp
theorem in128_of64 {n : Int} (h : In64 n) : In128 n := by unfold In64 at h; unfold In128; omega
theorem whi_zero : whi 0 = 0 := rfl
theorem wlo_zero : wlo 0 = 0 := rfl
theorem abs_mul_le {a b : Int} {A B : Nat} (ha : a.natAbs ≤ A) (hb : b.natAbs ≤ B) : (a * b).natAbs ≤ A * B := by rw [Int.natAbs_mul]; exact Nat.mul_le_mul ha hb
theorem mul64_128 {a b : Int} (ha : In64 a) (hb : In64 b) : In128 (a * b) := by
  unfold In64 at ha hb
  have := abs_mul_le (a := a) (b := b) (A := 9223372036854775808) (B := 9223372036854775808) (by omega) (by omega)
  unfold In128; omega
theorem wlo_abs64 {n : Int} (h : In64 n) : wlo (iabs n) = iabs n := by unfold In64 at h; unfold wlo iabs; split <;> omega
theorem below_drewN {B : Nat} {a w : World} (h : Below B a w) (n : Nat) : Below B a (w.drewN n) := ⟨h.os, h.tape, h.output, h.size, h.block⟩
/-! A new block: rules without side conditions; the 'if' is decided by arithmetic. -/
theorem cell_alloc_if (w : World) (cs : Array Value) (t : TypeId) (b i : Nat) : (w.alloc (.cells cs t)).cell? ⟨b, i, none⟩ = if b = w.heap.size then cs[i]? else w.cell? ⟨b, i, none⟩ := by
  split
  · rename_i h; subst h; exact World.cell?_alloc_new w cs t i
  · rename_i h; exact World.cell?_alloc_old w _ ⟨b, i, none⟩ h
theorem frozen_alloc_if (w : World) (cs : Array Value) (t : TypeId) (b i : Nat) : (w.alloc (.cells cs t)).frozen? ⟨b, i, none⟩ = if b = w.heap.size then false else w.frozen? ⟨b, i, none⟩ := by
  split
  · rename_i h; subst h; exact World.frozen?_alloc_new w cs t i
  · rename_i h; exact World.frozen?_alloc_old w _ ⟨b, i, none⟩ h
attribute [go_sem] cell_alloc_if frozen_alloc_if

/-! A cell, step by step back to where it is known. -/
theorem cell_via {B : Nat} {W w1 : World} {b o : Nat} {v : Value} (hb : Below B W w1) (hlt : b < B) (h : W.cell? ⟨b, o, none⟩ = some v) : w1.cell? ⟨b, o, none⟩ = some v := (hb.cell (p := ⟨b, o, none⟩) hlt).trans h
theorem cell_alloc {w : World} {b o : Nat} {v : Value} {x : Obj} (hlt : b < w.heap.size) (h : w.cell? ⟨b, o, none⟩ = some v) : (w.alloc x).cell? ⟨b, o, none⟩ = some v := (World.cell?_alloc_lt w x ⟨b, o, none⟩ hlt).trans h
theorem cell_drew {w : World} {a : Addr} {v : Value} (h : w.cell? a = some v) : w.drew.cell? a = some v := h
theorem cell_set_far {w : World} {b o : Nat} {p : Addr} {u v : Value} (hne : b ≠ p.block) (h : w.cell? ⟨b, o, none⟩ = some v) : (w.setCell p u).cell? ⟨b, o, none⟩ = some v :=
  (World.cell?_setCell_other w p ⟨b, o, none⟩ u (fun e => hne (by rw [e]))).trans h
end Go.Proofs.YtalgfpegaobacaaGreat

/- Words for memory: a block that is known whole; a call that writes one block; a slice that reads as rows of cells. No program in sight. -/
namespace Go.Proofs.YtalgfpegaobacaaGreat
open Go.RowKit

/-- Block g is just these cells, none frozen. -/
def Blk (w : World) (g : Nat) (t : TypeId) (cs : Array Value) : Prop := w.heap[g]? = some (.cells cs t (0, 0))
section
variable {w w' : World} {g : Nat} {t : TypeId} {cs : Array Value}
theorem Blk.lt (h : Blk w g t cs) : g < w.heap.size := by
  rcases Nat.lt_or_ge g w.heap.size with hlt | hge
  · exact hlt
  · unfold Blk at h; rw [Array.getElem?_eq_none hge] at h; cases h
theorem Blk.cell (h : Blk w g t cs) (i : Nat) : w.cell? ⟨g, i, none⟩ = cs[i]? := cell_of_row w g i cs t (0, 0) h
theorem Blk.frozen (h : Blk w g t cs) (i : Nat) : w.frozen? ⟨g, i, none⟩ = false := by
  unfold Blk at h
  simp [World.frozen?, h]
theorem Blk.new (w : World) (t : TypeId) (cs : Array Value) : Blk (w.alloc (.cells cs t)) w.heap.size t cs := heap_alloc_new w _
theorem Blk.here {n : Nat} (h : n = w.heap.size) : Blk (w.alloc (.cells cs t)) n t cs := by subst h; exact Blk.new w t cs
theorem Blk.drew (h : Blk w g t cs) : Blk w.drew g t cs := h
theorem Blk.alloc (h : Blk w g t cs) (o : Obj) : Blk (w.alloc o) g t cs := (Below.heap_alloc w o g h.lt).trans h
theorem Blk.set (h : Blk w g t cs) (i : Nat) (u : Value) : Blk (w.setCell ⟨g, i, none⟩ u) g t (cs.setIfInBounds i u) := by
  unfold Blk at h ⊢
  simp [World.setCell, Array.getElem?_modify, h]
theorem Blk.far (h : Blk w g t cs) {p : Addr} (hp : g ≠ p.block) (u : Value) : Blk (w.setCell p u) g t cs := (Below.heap_setCell w p u g hp).trans h
theorem Blk.below {B : Nat} (h : Blk w g t cs) (hb : Below B w w') (hg : g < B) : Blk w' g t cs := (hb.block g hg).trans h
end

/-- Of what was there block g alone may have turned. -/
structure Only (g : Nat) (w w' : World) : Prop where
  os : w'.os = w.os
  tape : w'.tape = w.tape
  output : w'.output = w.output
  size : w.heap.size ≤ w'.heap.size
  block : ∀ k, k < w.heap.size → k ≠ g → w'.heap[k]? = w.heap[k]?
section
variable {a w w' : World} {g B : Nat}
theorem Only.refl (g : Nat) (w : World) : Only g w w := ⟨rfl, rfl, rfl, Nat.le_refl _, fun _ _ _ => rfl⟩
theorem Only.drew (h : Only g a w) : Only g a w.drew := ⟨h.os, h.tape, h.output, h.size, h.block⟩
theorem Only.alloc (h : Only g a w) (o : Obj) : Only g a (w.alloc o) :=
  ⟨h.os, h.tape, h.output, Nat.le_trans h.size (by simp), fun i hi hne => (Below.heap_alloc w o i (Nat.lt_of_lt_of_le hi h.size)).trans (h.block i hi hne)⟩
theorem Only.set (h : Only g a w) {p : Addr} (hp : p.block = g ∨ a.heap.size ≤ p.block) (u : Value) : Only g a (w.setCell p u) :=
  ⟨h.os, h.tape, h.output, by simpa [World.setCell] using h.size, fun i hi hne => (Below.heap_setCell w p u i (by
    rintro rfl
    rcases hp with hp | hp
    · exact hne hp
    · omega)).trans (h.block i hi hne)⟩
theorem Only.trans {b c : World} (h : Only g a b) (k : Only g b c) : Only g a c :=
  ⟨k.os.trans h.os, k.tape.trans h.tape, k.output.trans h.output, Nat.le_trans h.size k.size, fun i hi hn => (k.block i (Nat.lt_of_lt_of_le hi h.size) hn).trans (h.block i hi hn)⟩
/-- Behind a call that writes block g alone, g being one of those made since: what lay below stands. -/
theorem below_only {B : Nat} (h : Below B a w) (ho : Only g w w') (hB : B ≤ w.heap.size) (hg : B ≤ g) : Below B a w' :=
  h.trans ⟨ho.os, ho.tape, ho.output, ho.size, fun k hk => ho.block k (by omega) (by omega)⟩
end

/-- What a call that writes block g alone gives the walk behind it. -/
theorem oget {g : Nat} {W w1 : World} (h : Only g W w1) : ∃ (f : Nat → Nat → Option Value) (z : Nat → Nat → Bool), (∀ b o, w1.cell? ⟨b, o, none⟩ = if b = g then f b o else if b < W.heap.size then W.cell? ⟨b, o, none⟩ else f b o) ∧ (∀ b o, w1.frozen? ⟨b, o, none⟩ = if b = g then z b o else if b < W.heap.size then W.frozen? ⟨b, o, none⟩ else z b o) ∧ W.heap.size ≤ w1.heap.size := by
  refine ⟨fun b o => w1.cell? ⟨b, o, none⟩, fun b o => w1.frozen? ⟨b, o, none⟩, fun b o => ?_, fun b o => ?_, h.size⟩
  · split
    · rfl
    · split
      · exact World.cell?_of_block (w := W) (h.block b (by assumption) (by assumption))
      · rfl
  · split
    · rfl
    · split
      · exact World.frozen?_of_block (w := W) (h.block b (by assumption) (by assumption))
      · rfl
/-- A slice's address and the rows of cells of its elements, k cells each. -/
def Rd (w : World) (A : Option Addr) (k : Nat) (rows : List (List Value)) : Prop :=
  ∀ i r, rows[i]? = some r → ∃ b o, A = some ⟨b, o, none⟩ ∧ b < w.heap.size ∧ ∀ j v, r[j]? = some v → w.cell? ⟨b, o + i * k + j, none⟩ = some v
theorem Rd.drew {w : World} {A : Option Addr} {k : Nat} {rows : List (List Value)} (h : Rd w A k rows) : Rd w.drew A k rows := h
theorem Rd.keep {w w' : World} {A : Option Addr} {k : Nat} {rows : List (List Value)} (h : Rd w A k rows) (hb : Below w.heap.size w w') : Rd w' A k rows := by
  intro i r hr
  obtain ⟨b, o, hA, hlt, hc⟩ := h i r hr
  exact ⟨b, o, hA, Nat.lt_of_lt_of_le hlt hb.size, fun j v hv => cell_via hb hlt (hc j v hv)⟩
/-- A store into a cell that holds none of the rows' values turns none of them. -/
theorem Rd.far {w : World} {A : Option Addr} {k : Nat} {rows : List (List Value)} (h : Rd w A k rows) {p : Addr} {v0 : Value} (hp : w.cell? p = some v0) (hne : ∀ r ∈ rows, v0 ∉ r) (u : Value) : Rd (w.setCell p u) A k rows := by
  intro i r hr
  obtain ⟨b, o, hA, hlt, hc⟩ := h i r hr
  refine ⟨b, o, hA, by simpa [World.setCell] using hlt, fun j v hv => ?_⟩
  rw [World.cell?_setCell_other _ _ _ _ (fun e => ?_)]
  · exact hc j v hv
  · have h1 := hc j v hv
    rw [← e, hp] at h1
    injection h1 with h1
    subst h1
    exact hne r (List.mem_of_getElem? hr) (List.mem_of_getElem? hv)
end Go.Proofs.YtalgfpegaobacaaGreat

/- Slices of the call's own, row by row; append. No program in sight. -/
namespace Go.Proofs.YtalgfpegaobacaaGreat
open Go.RowKit

theorem flatten_at {k : Nat} : ∀ {rows : List (List Value)} (_ : ∀ r ∈ rows, r.length = k) {i : Nat} {r : List Value} (_ : rows[i]? = some r) {j : Nat} (_ : j < k), rows.flatten[i * k + j]? = r[j]?
  | [], _, i, r, hi, j, _ => by simp at hi
  | a :: rows, hl, 0, r, hi, j, hj => by
    simp at hi; subst hi
    have : j < a.length := by rw [hl a (by simp)]; exact hj
    simp [List.getElem?_append_left this]
  | a :: rows, hl, i + 1, r, hi, j, hj => by
    have ha := hl a (by simp)
    have := flatten_at (rows := rows) (fun r hr => hl r (by simp [hr])) (i := i) (r := r) (by simpa using hi) hj
    rw [List.flatten_cons, List.getElem?_append_right (by rw [ha, Nat.add_mul]; omega), ha, ← this]
    congr 1
    rw [Nat.add_mul]; omega
theorem flatten_length {k : Nat} : ∀ {rows : List (List Value)} (_ : ∀ r ∈ rows, r.length = k), rows.flatten.length = rows.length * k
  | [], _ => by simp
  | a :: rows, hl => by
    rw [List.flatten_cons, List.length_append, hl a (by simp), flatten_length (fun r hr => hl r (by simp [hr])), List.length_cons, Nat.add_mul]; omega

/-- The slice value v owns these rows of k cells each, in a block from 'base' on. -/
def Own (w : World) (base : Nat) (E : TypeId) (k : Nat) (v : Value) (rows : List (List Value)) : Prop :=
  (∀ r ∈ rows, r.length = k) ∧ w.ownsRow base E k v rows.length rows.flatten
/-- The slice value v reads as these rows. -/
def Sl (w : World) (k : Nat) (v : Value) (rows : List (List Value)) : Prop := ∃ A c, v = .slice A rows.length c ∧ rows.length ≤ c ∧ c ≤ maxLen ∧ Rd w A k rows
section
variable {w w' : World} {base E k : Nat} {v : Value} {rows : List (List Value)}
theorem Own.nil (w : World) (base E k : Nat) : Own w base E k (.slice none 0 0) [] := ⟨by simp, World.ownsRow_nil w base E k⟩
theorem Own.made (w : World) {base E k : Nat} (hb : base ≤ w.heap.size) : Own (w.alloc (.cells #[] E)) base E k (.slice (some ⟨w.heap.size, 0, none⟩) 0 0) [] := ⟨by simp, World.ownsRow_made w #[] 0 hb (by unfold maxLen; omega) (by simp)⟩
theorem Own.drew (h : Own w base E k v rows) : Own w.drew base E k v rows := h
theorem Own.alloc (h : Own w base E k v rows) (o : Obj) : Own (w.alloc o) base E k v rows := ⟨h.1, h.2.alloc o⟩
theorem Own.mono (h : Own w base E k v rows) {b : Nat} (hb : b ≤ base) : Own w b E k v rows := by
  refine ⟨h.1, h.2.1, ?_⟩
  rcases h.2.2 with h2 | ⟨g, cap, cur, hv, hg, r⟩
  · exact .inl h2
  · exact .inr ⟨g, cap, cur, hv, Nat.le_trans hb hg, r⟩
/-- A nil slice has no block: its base is whatever one likes. -/
theorem Own.block (h : Own w base E k v rows) : ∀ g, v.ownBlock = some g → base ≤ g ∧ g < w.heap.size := h.2.lt
theorem Own.keep (h : Own w base E k v rows) (hb : Below w.heap.size w w') : Own w' base E k v rows := by
  refine ⟨h.1, h.2.1, ?_⟩
  rcases h.2.2 with h2 | ⟨g, cap, cur, hv, hg, hh, r⟩
  · exact .inl h2
  · exact .inr ⟨g, cap, cur, hv, hg, by rw [hb.block g (Array.getElem?_eq_some_iff.1 hh).1]; exact hh, r⟩
theorem Own.far (h : Own w base E k v rows) {p : Addr} (hp : v.ownBlock ≠ some p.block) (u : Value) : Own (w.setCell p u) base E k v rows := by
  refine ⟨h.1, h.2.1, ?_⟩
  rcases h.2.2 with h2 | ⟨g, cap, cur, hv, hg, hh, r⟩
  · exact .inl h2
  · refine .inr ⟨g, cap, cur, hv, hg, ?_, r⟩
    rw [Below.heap_setCell _ _ _ _ (fun e => hp (by rw [hv, e]; rfl))]
    exact hh
theorem Own.farLow (h : Own w base E k v rows) {p : Addr} (hp : p.block < base) (u : Value) : Own (w.setCell p u) base E k v rows :=
  h.far (fun e => by have := h.block _ e; omega) u
theorem Own.only {g : Nat} (h : Own w base E k v rows) (ho : Only g w w') (hg : v.ownBlock ≠ some g) : Own w' base E k v rows := by
  refine ⟨h.1, h.2.1, ?_⟩
  rcases h.2.2 with h2 | ⟨g', cap, cur, hv, hg', hh, r⟩
  · exact .inl h2
  · exact .inr ⟨g', cap, cur, hv, hg', by rw [ho.block g' (Array.getElem?_eq_some_iff.1 hh).1 (fun e => hg (by rw [hv, e]; rfl))]; exact hh, r⟩
theorem Own.shape (h : Own w base E k v rows) : ∃ A c, v = .slice A rows.length c ∧ rows.length ≤ c ∧ c ≤ maxLen ∧ Rd w A k rows ∧ (rows ≠ [] → ∃ g, A = some ⟨g, 0, none⟩ ∧ base ≤ g ∧ g < w.heap.size) := by
  rcases h.2.2 with ⟨hv, h0⟩ | ⟨g, cap, cur, hv, hg, hh, hc, hm, hs, ht⟩
  · have : rows = [] := List.eq_nil_of_length_eq_zero h0
    subst this
    exact ⟨none, 0, hv, Nat.le_refl _, by unfold maxLen; omega, fun i r hr => by simp at hr, fun hne => absurd rfl hne⟩
  · have hlt := (Array.getElem?_eq_some_iff.1 hh).1
    refine ⟨_, cap, hv, hc, hm, fun i r hr => ⟨g, 0, rfl, hlt, fun j u hu => ?_⟩, fun _ => ⟨g, rfl, hg, hlt⟩⟩
    have hrl := h.1 r (List.mem_of_getElem? hr)
    have hjr : j < k := by
      rw [← hrl]
      rcases Nat.lt_or_ge j r.length with h1 | h1
      · exact h1
      · rw [List.getElem?_eq_none h1] at hu; cases hu
    have hf := flatten_at h.1 hr hjr
    rw [hu, ← ht, List.getElem?_take] at hf
    split at hf
    · rw [Nat.zero_add, cell_of_row w g (i * k + j) cur E (0, 0) hh]
      simpa using hf
    · cases hf
theorem Own.sl (h : Own w base E k v rows) : Sl w k v rows := by
  obtain ⟨A, c, h1, h2, h3, h4, _⟩ := h.shape
  exact ⟨A, c, h1, h2, h3, h4⟩
theorem Own.rd {A : Option Addr} {n c : Nat} (h : Own w base E k (.slice A n c) rows) : Rd w A k rows ∧ n = rows.length ∧ rows.length ≤ c ∧ c ≤ maxLen := by
  obtain ⟨A', c', h1, h2, h3, h4, _⟩ := h.shape
  injection h1 with e1 e2 e3
  subst e1; subst e3
  exact ⟨h4, e2, h2, h3⟩
theorem Sl.keep (h : Sl w k v rows) (hb : Below w.heap.size w w') : Sl w' k v rows := by
  obtain ⟨A, c, h1, h2, h3, h4⟩ := h
  exact ⟨A, c, h1, h2, h3, h4.keep hb⟩
end

/-- A slice type and its element's row of the table. -/
structure Elem (P : Program) (T E k bytes : Nat) : Prop where
  ty : P.underlying T = some (.slice E)
  info : ∃ i z, P.info? E = some i ∧ i.zero = some z ∧ i.size = k ∧ i.bytes = bytes ∧ z.cells.size = k
  pos : 0 < k
theorem elem_of {P : Program} {T E k bytes : Nat} {z : Value} (ht : P.underlying T = some (.slice E)) (h : (P.info? E).map (fun i => (i.zero, i.size, i.bytes)) = some (some z, k, bytes)) (hz : z.cells.size = k) (hk : 0 < k) : Elem P T E k bytes := by
  refine ⟨ht, ?_, hk⟩
  cases hi : P.info? E with
  | none => rw [hi] at h; cases h
  | some i =>
    rw [hi] at h
    simp at h
    exact ⟨i, z, rfl, h.1, h.2.1, h.2.2, hz⟩

theorem rd_cells {w : World} {ad : Addr} {k : Nat} {rows : List (List Value)} (hl : ∀ r ∈ rows, r.length = k) (hr : Rd w (some ad) k rows) (j : Nat) (u : Value) (hu : rows.flatten[j]? = some u) : w.cell? (ad.add j) = some u := by
  have hk : 0 < k := by
    rcases Nat.eq_zero_or_pos k with h0 | h0
    · subst h0
      have : rows.flatten = [] := List.eq_nil_of_length_eq_zero (by rw [flatten_length hl]; omega)
      rw [this] at hu; simp at hu
    · exact h0
  have hj : j < rows.length * k := by
    rw [← flatten_length hl]
    rcases Nat.lt_or_ge j rows.flatten.length with h1 | h1
    · exact h1
    · rw [List.getElem?_eq_none h1] at hu; cases hu
  have hi : j / k < rows.length := Nat.div_lt_of_lt_mul (by rw [Nat.mul_comm]; exact hj)
  obtain ⟨b, o, hA, _, hc⟩ := hr (j / k) rows[j / k] (List.getElem?_eq_getElem hi)
  have hf := flatten_at hl (List.getElem?_eq_getElem hi) (j := j % k) (Nat.mod_lt _ hk)
  have hjk : j / k * k + j % k = j := by rw [Nat.mul_comm]; exact Nat.div_add_mod j k
  rw [hjk, hu] at hf
  have := hc (j % k) u hf.symm
  injection hA with hA
  subst hA
  rw [show o + j / k * k + j % k = o + j from by omega] at this
  rw [show (⟨b, o, none⟩ : Addr).add j = ⟨b, o + j, none⟩ from by unfold Addr.add; split <;> simp_all]
  exact this

/-- append(v, news..): onto a slice of the call's own, whatever is appended. -/
theorem wp_app {P : Program} {o : Oper} {a : Act} {K : Act → World → Prop} {Q : Exit → Act → World → Prop} {w : World} (s x : Operand) (T : TypeId)
    (ho : o.op = .call { callee := .builtin .append, args := #[s, x], argTypes := #[T, T] }) {E k bytes : Nat} (el : Elem P T E k bytes)
    (base : Nat) (v : Value) (rows : List (List Value)) (hs : a.eval s = v) (hown : Own w base E k v rows)
    (A : Option Addr) (m c : Nat) (hx : a.eval x = .slice A m c) (news : List (List Value)) (hm : news.length = m) (hc : A = none → c = 0) (hr : Rd w A k news) (hk : ∀ r ∈ news, r.length = k ∧ ∀ u ∈ r, u.oneCell' = true)
    (h63 : rows.length + m ≤ maxLen) (hbytes : (rows.length + m) * bytes ≤ 140737488355328) (hbase : base ≤ w.heap.size)
    (h : ∀ v' w', Own w' base E k v' (rows ++ news) → Below base w w' → K (a.put o.dst v') w') : o.wp P a w K Q := by
  obtain ⟨i, z, hi, hz, hsize, hby, hzs⟩ := el.info
  have hkl : ∀ r ∈ news, r.length = k := fun r hr => (hk r hr).1
  have hall : ∀ r ∈ rows ++ news, r.length = k := fun r hr => by
    rcases List.mem_append.1 hr with h1 | h1
    · exact hown.1 r h1
    · exact hkl r h1
  rcases A with _ | ad
  · have hc0 := hc rfl
    subst hc0
    have hn : news = [] := by
      rcases news with _ | ⟨r, news⟩
      · rfl
      · obtain ⟨b, o, hA, _⟩ := hr 0 r rfl
        cases hA
    subst hn
    simp at hm
    subst hm
    have hrun := run_append_owned_none (P := P) (w := w) base T o.type E i k el.ty hi v rows.length rows.flatten hown.2
    unfold Oper.wp
    simp [execOp, ho, resolve, invoke, builtin, hs, hx, hrun, Result.andThen]
    exact h v w (by simpa using hown) (Below.refl _ _)
  · refine wp_append_own w s x T ho base E i z k bytes el.ty hi hz hsize hby hzs el.pos v rows.length rows.flatten hs hown.2 ad m c news.flatten hx (by rw [flatten_length hkl, hm]) (rd_cells hkl hr) (fun u hu => by
        obtain ⟨r, hr1, hr2⟩ := List.mem_flatten.1 hu
        exact (hk r hr1).2 u hr2) h63 hbytes hbase fun v' w' h1 h2 _ => ?_
    refine h v' w' ⟨hall, by rw [List.length_append, hm, List.flatten_append]; exact h1⟩ ?_
    exact (Below.refl base w).grown h2 hbase (fun g hg => (hown.block g hg).1)
theorem wpList_app {P : Program} {ops : Array Oper} {rest : List Oper} {o : Oper} {a : Act} {Q : Exit → Act → World → Prop} {w : World} (hgd : o.guard = none) (s x : Operand) (T : TypeId)
    (ho : o.op = .call { callee := .builtin .append, args := #[s, x], argTypes := #[T, T] }) {E k bytes : Nat} (el : Elem P T E k bytes)
    (base : Nat) (v : Value) (rows : List (List Value)) (hs : a.eval s = v) (hown : Own w base E k v rows)
    (A : Option Addr) (m c : Nat) (hx : a.eval x = .slice A m c) (news : List (List Value)) (hm : news.length = m) (hc : A = none → c = 0) (hr : Rd w A k news) (hk : ∀ r ∈ news, r.length = k ∧ ∀ u ∈ r, u.oneCell' = true)
    (h63 : rows.length + m ≤ maxLen) (hbytes : (rows.length + m) * bytes ≤ 140737488355328) (hbase : base ≤ w.heap.size)
    (h : ∀ v' w', Own w' base E k v' (rows ++ news) → Below base w w' → wpList P ops Q rest (a.put o.dst v') w') : wpList P ops Q (o :: rest) a w :=
  wpList_plain hgd fun _ hK => wp_app s x T ho el base v rows hs hown A m c hx news hm hc hr hk h63 hbytes hbase fun v' w' h1 h2 => hK _ _ (h v' w' h1 h2)
/-- The same in a region that draws its order. -/
theorem step_app {P : Program} {ops : Array Oper} {o : Oper} {a : Act} {K : Act → World → Prop} {Q : Exit → Act → World → Prop} {w : World} {R : Prop} (hgd : o.guard = none) (s x : Operand) (T : TypeId)
    (ho : o.op = .call { callee := .builtin .append, args := #[s, x], argTypes := #[T, T] }) {E k bytes : Nat} (el : Elem P T E k bytes)
    (base : Nat) (v : Value) (rows : List (List Value)) (hs : a.eval s = v) (hown : Own w base E k v rows)
    (A : Option Addr) (m c : Nat) (hx : a.eval x = .slice A m c) (news : List (List Value)) (hm : news.length = m) (hc : A = none → c = 0) (hr : Rd w A k news) (hk : ∀ r ∈ news, r.length = k ∧ ∀ u ∈ r, u.oneCell' = true)
    (h63 : rows.length + m ≤ maxLen) (hbytes : (rows.length + m) * bytes ≤ 140737488355328) (hbase : base ≤ w.heap.size)
    (h : ∀ v' w', Own w' base E k v' (rows ++ news) → Below base w w' → K (a.put o.dst v') w') : if Region.wanted o (yielded ops a.tmps) = true then Oper.wp P o a w K Q else R := by
  have hw : Region.wanted o (yielded ops a.tmps) = true := by simp [Region.wanted, hgd]
  rw [if_pos hw]
  exact wp_app s x T ho el base v rows hs hown A m c hx news hm hc hr hk h63 hbytes hbase h
/-- One element, laid in a block of its own ahead of the append. -/
theorem rd_one {w : World} {cs : Array Value} {E k : Nat} : Rd (w.alloc (.cells cs E)) (some ⟨w.heap.size, 0, none⟩) k [cs.toList] := by
  intro i r hr
  match i, hr with
  | 0, hr =>
    simp at hr
    subst hr
    refine ⟨w.heap.size, 0, rfl, by simp, fun j v hv => ?_⟩
    rw [World.cell?_alloc_new]
    simpa using hv
/-- make([]T, 0, n). -/
theorem wpList_mk {P : Program} {ops : Array Oper} {rest : List Oper} {o : Oper} {a : Act} {Q : Exit → Act → World → Prop} {w : World} (hgd : o.guard = none) (l c : Operand) (T : TypeId) (hop : o.op = Op.makeSlice T l c)
    {E k bytes : Nat} (el : Elem P T E k bytes) (base : Nat) (kl kc : IntKind) (C : Int) (n : Nat) (hl : a.eval l = .int kl 0) (hc : a.eval c = .int kc C) (hC : C = (n : Int)) (b2 : bytes * n ≤ 281474976710656) (b3 : n ≤ maxLen) (hbase : base ≤ w.heap.size)
    (h : ∀ w', Own w' base E k (.slice (some ⟨w.heap.size, 0, none⟩) 0 n) [] → Below w.heap.size w w' → wpList P ops Q rest (a.put o.dst (.slice (some ⟨w.heap.size, 0, none⟩) 0 n)) w') : wpList P ops Q (o :: rest) a w := by
  obtain ⟨i, z, hi, hz, hsize, hby, hzs⟩ := el.info
  refine wpList_make_own w hgd l c T hop base E i z k el.ty hi hz hsize kl kc C n hl hc hC (by rw [hby]; exact b2) b3 hbase fun w' h1 h2 => ?_
  exact h w' ⟨by simp, h1⟩ ((Below.refl _ _).grown h2 (Nat.le_refl _) (fun g hg => by cases hg))
/-- A number's one cell. -/
def encI (n : Int) : List Value := [.int .i64 n]
end Go.Proofs.YtalgfpegaobacaaGreat

/- Assets: the type. -/
namespace Go.Proofs.YtalgfpegaobacaaGreat
open Go.RowKit
structure Asset where
  id : Int
  price : Int
  hair : Int
  deriving DecidableEq
def encAsset (x : Asset) : List Value := [.int .i64 x.id, .int .i64 x.price, .int .i64 x.hair]
def okAsset (x : Asset) : Prop := In64 x.id ∧ In64 x.price ∧ In64 x.hair
theorem rowsAsset (l : List Asset) : ∀ r ∈ l.map encAsset, r.length = 3 ∧ ∀ u ∈ r, u.oneCell' = true := by
  intro r hr
  obtain ⟨m, _, rfl⟩ := List.mem_map.1 hr
  refine ⟨rfl, ?_⟩
  simp only [encAsset, List.mem_cons, List.not_mem_nil, or_false, forall_eq_or_imp, forall_eq]
  exact ⟨rfl, rfl, rfl⟩
/-- Whether an asset may be. -/
def okA (x : Asset) : Prop := 1 ≤ x.id ∧ x.id ≤ 4 ∧ 0 ≤ x.price ∧ x.price ≤ 2147483647 ∧ 0 ≤ x.hair ∧ x.hair ≤ 10000
instance (x : Asset) : Decidable (okA x) := by unfold okA; infer_instance
/-- What counts of so many. -/
def countA (x : Asset) (q : Int) : Int := q * x.price * (10000 - x.hair) / 10000
theorem count_le {x : Asset} (h : okA x) {q : Int} (hq : 0 ≤ q) : 0 ≤ countA x q ∧ countA x q ≤ q * x.price := by
  obtain ⟨_, _, h1, _, h2, h3⟩ := h
  unfold countA
  have hw : 0 ≤ q * x.price := Int.mul_nonneg hq h1
  have hk : q * x.price * (10000 - x.hair) ≤ q * x.price * 10000 := Int.mul_le_mul_of_nonneg_left (by omega) hw
  have hk0 : 0 ≤ q * x.price * (10000 - x.hair) := Int.mul_nonneg hw (by omega)
  generalize q * x.price * (10000 - x.hair) = t at *
  generalize q * x.price = v at *
  omega
theorem count_mono {x : Asset} (h : okA x) {q r : Int} (hqr : q ≤ r) : countA x q ≤ countA x r := by
  obtain ⟨_, _, h1, _, h2, h3⟩ := h
  unfold countA
  have hk : q * x.price ≤ r * x.price := Int.mul_le_mul_of_nonneg_right hqr h1
  have hk2 : q * x.price * (10000 - x.hair) ≤ r * x.price * (10000 - x.hair) := Int.mul_le_mul_of_nonneg_right hk (by omega)
  generalize q * x.price * (10000 - x.hair) = t at *
  generalize r * x.price * (10000 - x.hair) = u at *
  omega
end Go.Proofs.YtalgfpegaobacaaGreat

/- Assets: contracts of asset.Check and the reference's Is. -/
namespace Go.Proofs.YtalgfpegaobacaaGreat
open Go.RowKit
def pricedA (p : Int) : Bool := decide (0 ≤ p) && decide (p ≤ 2147483647)
set_option maxRecDepth 100000 in
set_option maxHeartbeats 2000000 in
theorem assetPriced (p : Int) (w : World) : Calls Tryz.prog 94 #[.int .i64 p] w fun e w' => e = .returned (.bool (pricedA p)) ∧ Below w.heap.size w w' := by
  by_cases h : 0 ≤ p
  · have d1 : decide (0 ≤ p) = true := by simpa using h
    have HP := Lib.hid (show pricedA p = decide (p ≤ 2147483647) from by unfold pricedA; rw [d1]; rfl)
    go_enter Tryz.func94, Tryz.ntmps94
    go_wp2_with fail
    go_ret
    exact ⟨by rw [HP.out]; first | done | rfl, by (repeat' (first | (with_reducible exact Below.refl _ _) | (with_reducible assumption) | (with_reducible refine Below.alloc ?_ ?_ _) | (with_reducible refine Below.setCell ?_ ?_ _) | (with_reducible refine Below.drew ?_) | (with_reducible refine below_drewN ?_ _) | (with_reducible refine below_via ?_ (by with_reducible assumption) ?_) | omega | (simp; done) | (simp; omega)))⟩
  · have d1 : decide (0 ≤ p) = false := by simpa using h
    have HP := Lib.hid (show pricedA p = false from by unfold pricedA; rw [d1]; rfl)
    go_enter Tryz.func94, Tryz.ntmps94
    go_wp2_with fail
    go_ret
    exact ⟨by rw [HP.out]; first | done | rfl, by (repeat' (first | (with_reducible exact Below.refl _ _) | (with_reducible assumption) | (with_reducible refine Below.alloc ?_ ?_ _) | (with_reducible refine Below.setCell ?_ ?_ _) | (with_reducible refine Below.drew ?_) | (with_reducible refine below_drewN ?_ _) | (with_reducible refine below_via ?_ (by with_reducible assumption) ?_) | omega | (simp; done) | (simp; omega)))⟩
def codeA (x : Asset) : Int := if okA x then 0 else 2
theorem codeA_yes {x : Asset} (h : okA x) : codeA x = 0 := by unfold codeA; rw [if_pos h]
theorem codeA_no {x : Asset} (h : ¬ okA x) : codeA x = 2 := by unfold codeA; rw [if_neg h]
set_option maxRecDepth 100000 in
set_option maxHeartbeats 4000000 in
theorem assetCheck (x : Asset) (w : World) : Calls Tryz.prog 76 #[.agg #[.int .i64 x.id, .int .i64 x.price, .int .i64 x.hair]] w fun e w' => e = .returned (.int .i64 (codeA x)) ∧ Below w.heap.size w w' := by
  obtain ⟨c, hc⟩ : ∃ c, c = codeA x := ⟨_, rfl⟩
  have HD := Lib.hid hc
  rw [← hc]
  clear hc
  obtain ⟨pb, hpb⟩ : ∃ pb, pb = pricedA x.price := ⟨_, rfl⟩
  have HPB := Lib.hid hpb
  have c1 := fun W => assetPriced x.price W
  rw [← hpb] at c1
  have C1 := Lib.hid c1
  clear c1 hpb
  cases pb
  all_goals
    go_enter Tryz.func76, Tryz.ntmps76
    go_wp2_with (first | (go_at_call 94; (with_reducible refine (C1.out _).mono ?_); rintro e w1 ⟨rfl, hb1⟩; obtain ⟨fc1, fg1, hc1, hf1, hz1⟩ := bget hb1; try simp at hz1) | fail)
  all_goals
    go_ret
    refine ⟨?_, by (repeat' (first | (with_reducible exact Below.refl _ _) | (with_reducible assumption) | (with_reducible refine Below.alloc ?_ ?_ _) | (with_reducible refine Below.setCell ?_ ?_ _) | (with_reducible refine Below.drew ?_) | (with_reducible refine below_drewN ?_ _) | (with_reducible refine below_via ?_ (by with_reducible assumption) ?_) | omega | (simp; done) | (simp; omega)))⟩
    have h1 := HPB.out
    unfold pricedA at h1
    simp at h1
    rw [HD.out]
    first
      | (rw [codeA_no (fun hk => by unfold okA at hk; omega)]; rfl)
      | (rw [codeA_yes (by unfold okA; omega)]; rfl)
      | fail
set_option maxRecDepth 100000 in
set_option maxHeartbeats 4000000 in
theorem ref12Is (x : Asset) (w : World) : Calls Tryz.prog 71 #[.agg #[.int .i64 x.id, .int .i64 x.price, .int .i64 x.hair]] w fun e w' => e = .returned (.bool (decide (okA x))) ∧ Below w.heap.size w w' := by
  obtain ⟨c, hc⟩ : ∃ c, c = decide (okA x) := ⟨_, rfl⟩
  have HD := Lib.hid hc
  rw [← hc]
  clear hc
  go_enter Tryz.func71, Tryz.ntmps71
  go_wp2_with fail
  all_goals
    go_ret
    refine ⟨?_, by (repeat' (first | (with_reducible exact Below.refl _ _) | (with_reducible assumption) | (with_reducible refine Below.alloc ?_ ?_ _) | (with_reducible refine Below.setCell ?_ ?_ _) | (with_reducible refine Below.drew ?_) | (with_reducible refine below_drewN ?_ _) | (with_reducible refine below_via ?_ (by with_reducible assumption) ?_) | omega | (simp; done) | (simp; omega)))⟩
    rw [HD.out]
    first
      | (rw [decide_eq_false (p := okA x) (fun hk => by unfold okA at hk; omega)]; rfl)
      | (rw [decide_eq_true (p := okA x) (by unfold okA; omega)]; rfl)
      | (refine Eq.trans (b := Ending.returned (.bool (decide (x.hair < 10001)))) rfl ?_; refine ret_bool ?_; unfold okA; omega)
      | fail
end Go.Proofs.YtalgfpegaobacaaGreat

/-
  DERIVED: THE SHELF's CONTRACTS AT THIS DUMP, IN PLAIN WORDS (tools/lay-plain.mjs out of 'TryShelf.lean', which tools/lay-shelf.mjs wrote): THE SAME DECLARATIONS UNDER THE SAME NAMES: 'import', 'namespace', 'open', 'def', 'theorem' AND NOTHING ELSE: no command of the shelf's: FOR A HAND-IN. Each laying: the table of numbers ('.._ren') and one theorem, a field a fact of the dump's own or the kernel's comparison; each contract: ONE APPLICATION.
-/
namespace Go.Proofs
open Go.Shelf
def Tryz.lays134_ren : Go.Shelf.Ren := ⟨fun | 134 => 121 | 129 => 127 | n => n, fun | 53 => 108 | 3 => 3 | 4 => 4 | 46 => 147 | 5 => 5 | 9 => 9 | n => n, fun | n => n⟩
theorem Tryz.lays134 : Go.Proofs.Lays.n134 Tryz.prog Tryz.lays134_ren := {
  mixed := by kernel_rfl
  f129 := Tryz.func127.trans (congrArg some (by kernel_rfl))
  f134 := Tryz.func121.trans (congrArg some (by kernel_rfl))
  t3 := Tryz.underlying3
  a3 := Tryz.isAgg3
  z3 := Tryz.sizeOf3
  v3 := Tryz.zeroValue3
  t4 := Tryz.underlying4
  a4 := Tryz.isAgg4
  z4 := Tryz.sizeOf4
  v4 := Tryz.zeroValue4
  t5 := Tryz.underlying5
  a5 := Tryz.isAgg5
  z5 := Tryz.sizeOf5
  v5 := Tryz.zeroValue5
  t9 := Tryz.underlying9
  a9 := Tryz.isAgg9
  z9 := Tryz.sizeOf9
  v9 := Tryz.zeroValue9
  t46 := Tryz.underlying147
  a46 := Tryz.isAgg147
  z46 := Tryz.sizeOf147
  v46 := Tryz.zeroValue147
  t53 := Tryz.underlying108
  a53 := Tryz.isAgg108
  z53 := Tryz.sizeOf108
  v53 := Tryz.zeroValue108 }
/-- bits.LeadingZeros64: "LeadingZeros64 returns the number of leading zero bits in x; the result is 64 for x == 0.": IT RETURNS '64 - Lib.bitLen x'; the world is as it was. ITS CALLEE bits.Len64 IS MET BY ITS OWN CONTRACT OFF THE SHELF (lay that first): entered in place it sends the kernel out of memory. (LAID: no walk: one application.) -/
theorem Tryz.bits_LeadingZeros64 (x : Int) (w : World) (h0 : 0 ≤ x) (h1 : x ≤ 18446744073709551615) :
    Calls Tryz.prog 121 #[.int .u64 x] w fun e w' => e = .returned (.int .i64 (64 - (Lib.bitLen x.toNat : Int))) ∧ w' = w := Any.bits_LeadingZeros64 Tryz.lays134 x w h0 h1
def Tryz.lays264_ren : Go.Shelf.Ren := ⟨fun | 264 => 112 | n => n, fun | 53 => 108 | 46 => 147 | n => n, fun | n => n⟩
theorem Tryz.lays264 : Go.Proofs.Lays.n264 Tryz.prog Tryz.lays264_ren := {
  mixed := by kernel_rfl
  f264 := Tryz.func112.trans (congrArg some (by kernel_rfl))
  t46 := Tryz.underlying147
  a46 := Tryz.isAgg147
  z46 := Tryz.sizeOf147
  v46 := Tryz.zeroValue147
  t53 := Tryz.underlying108
  a53 := Tryz.isAgg108
  z53 := Tryz.sizeOf108
  v53 := Tryz.zeroValue108 }
open Go.RowKit Go.Lib in
theorem Tryz.bits_Mul64 (x y : Nat) (hx : x < 18446744073709551616) (hy : y < 18446744073709551616) (w : World) :
    Calls Tryz.prog 112 #[.int .u64 x, .int .u64 y] w fun e w' => e = .returned (.tuple #[.int .u64 ((x * y / 18446744073709551616 : Nat) : Int), .int .u64 ((x * y % 18446744073709551616 : Nat) : Int)]) ∧ w' = w := Any.bits_Mul64 Tryz.lays264 x y hx hy w
end Go.Proofs

/- Contracts of the functions of wide that call nothing but bits.Add64, bits.Sub64, bits.Mul64. -/
namespace Go.Proofs.YtalgfpegaobacaaGreat
open Go.RowKit

theorem add64 (x y c : Int) (hx : 0 ≤ x) (hy : 0 ≤ y) (hc0 : 0 ≤ c) (hc : c ≤ 1) (w : World) : (callFunc 103 #[.int .u64 x, .int .u64 y, .int .u64 c]).run Tryz.prog w =
    .ok (.value (.tuple #[.int .u64 (wlo (x + y + c)), .int .u64 (whi (x + y + c))])) w := by
  obtain ⟨x, rfl⟩ := Int.eq_ofNat_of_zero_le hx
  obtain ⟨y, rfl⟩ := Int.eq_ofNat_of_zero_le hy
  obtain ⟨c, rfl⟩ := Int.eq_ofNat_of_zero_le hc0
  rw [run_callFunc_extern Tryz.func103 (by kernel_rfl) (by kernel_rfl) (by kernel_rfl) (e := add64Entry) (by kernel_rfl), run_add64 x y c (by omega) (by omega) (by omega) (by omega)]
  simp only [Result.andThen, wlo, whi]
theorem sub64 (x y b : Int) (hx : 0 ≤ x) (hx' : x ≤ 18446744073709551615) (hy : 0 ≤ y) (hy' : y ≤ 18446744073709551615) (hb0 : 0 ≤ b) (hb : b ≤ 1) (w : World) : (callFunc 120 #[.int .u64 x, .int .u64 y, .int .u64 b]).run Tryz.prog w =
    .ok (.value (.tuple #[.int .u64 (wlo (x - y - b)), .int .u64 (- whi (x - y - b))])) w := by
  obtain ⟨x, rfl⟩ := Int.eq_ofNat_of_zero_le hx
  obtain ⟨y, rfl⟩ := Int.eq_ofNat_of_zero_le hy
  obtain ⟨b, rfl⟩ := Int.eq_ofNat_of_zero_le hb0
  rw [run_callFunc_extern Tryz.func120 (by kernel_rfl) (by kernel_rfl) (by kernel_rfl) (e := sub64Entry) (by kernel_rfl), run_sub64 x y b (by omega)]
  simp only [Result.andThen, wlo, whi]
  have e1 : (((x + 18446744073709551616 - y - b) % 18446744073709551616 : Nat) : Int) = ((x : Int) - y - b) % 18446744073709551616 := by omega
  have e2 : ((if x < y + b then 1 else 0 : Nat) : Int) = - (((x : Int) - y - b) / 18446744073709551616) := by split <;> omega
  rw [e1, e2]
theorem sub64_0 (x y : Int) (hx : 0 ≤ x) (hx' : x ≤ 18446744073709551615) (hy : 0 ≤ y) (hy' : y ≤ 18446744073709551615) (w : World) : (callFunc 120 #[.int .u64 x, .int .u64 y, .int .u64 0]).run Tryz.prog w =
    .ok (.value (.tuple #[.int .u64 (wlo (x - y)), .int .u64 (- whi (x - y))])) w := by
  simpa using sub64 x y 0 hx hx' hy hy' (Int.le_refl 0) (by decide) w

set_option maxHeartbeats 400000 in
theorem wideOf (n : Int) (w : World) (h : In64 n) :
    Calls Tryz.prog 54 #[.int .i64 n] w fun e w' => e = .returned (.agg #[.int .i64 (whi n), .int .u64 (wlo n)]) ∧ Below w.heap.size w w' := by
  unfold In64 at h
  go_enter Tryz.func54, Tryz.ntmps54
  go_wp2
  go_returns
  exact ⟨ret_agg2 (by unfold whi; omega) (by rw [IntKind.wrap_u64]; rfl), (Below.refl _ _).alloc (Nat.le_refl _) _⟩

set_option maxHeartbeats 400000 in
theorem wideBelow (n : Int) (w : World) (h : In128 n) :
    Calls Tryz.prog 110 #[.agg #[.int .i64 (whi n), .int .u64 (wlo n)]] w fun e w' => e = .returned (.bool (decide (n < 0))) ∧ Below w.heap.size w w' := by
  have h1 := whi_i h
  go_enter Tryz.func110, Tryz.ntmps110
  go_wp2
  go_returns
  exact ⟨ret_bool (by unfold whi; omega), (Below.refl _ _).alloc (Nat.le_refl _) _⟩

set_option maxHeartbeats 400000 in
theorem wideSize (n : Int) (w : World) (h : In128 n) :
    Calls Tryz.prog 108 #[(.agg #[.int .i64 (whi (n)), .int .u64 (wlo (n))])] w fun e w' => e = .returned (.agg #[.int .u64 (whi (iabs n)), .int .u64 (wlo (iabs n))]) ∧ Below w.heap.size w w' := by
  have h1 := whi_i h
  have h2 := wlo_u n
  by_cases hn : n < 0
  · have hd : decide (n < 0) = true := by simpa using hn
    have e1 := sub64_0 0 (wlo n) (by omega) (by omega) h2.1 h2.2
    have h3 : 0 ≤ - whi (- wlo n) ∧ - whi (- wlo n) ≤ 1 := by unfold whi; omega
    have h4 : 0 ≤ IntKind.u64.wrap (whi n) ∧ IntKind.u64.wrap (whi n) ≤ 18446744073709551615 := by rw [IntKind.wrap_u64]; omega
    have e2 := sub64 0 (IntKind.u64.wrap (whi n)) (- whi (- wlo n)) (by omega) (by omega) h4.1 h4.2 h3.1 h3.2
    have e3 : wlo (- wlo n) = wlo (iabs n) := by rw [iabs_neg hn]; unfold wlo; omega
    have e4 : wlo (- IntKind.u64.wrap (whi n) - - whi (- wlo n)) = whi (iabs n) := by rw [iabs_neg hn]; unfold In128 at h; rw [IntKind.wrap_u64]; unfold wlo whi; omega
    simp only [Int.zero_sub] at e1 e2
    rw [e3] at e1
    rw [e4] at e2
    clear e3 e4
    obtain ⟨b, hb⟩ : ∃ b, b = - whi (- wlo n) := ⟨_, rfl⟩
    rw [← hb] at e1 e2 h3
    clear hb
    go_enter Tryz.func108, Tryz.ntmps108
    go_wp2_with (go_at_call 110; (with_reducible refine (hd ▸ wideBelow n _ h).mono ?_); rintro e w1 ⟨rfl, hb1⟩; obtain ⟨fc1, fg1, hc1, hf1, hz1⟩ := bget hb1; try simp at hz1)
    refine bodyPost_ret (by simp [results, Tryz.results108, go_sem, hc1]; try rfl) rfl ⟨rfl, ?_⟩
    (repeat' (first | (with_reducible exact Below.refl _ _) | (with_reducible assumption) | (with_reducible refine Below.alloc ?_ ?_ _) | (with_reducible refine Below.setCell ?_ ?_ _) | (with_reducible refine Below.drew ?_) | (with_reducible refine below_drewN ?_ _) | (with_reducible refine below_via ?_ (by with_reducible assumption) ?_) | omega | (simp; done) | (simp; omega)))
  · have hd : decide (n < 0) = false := by simpa using hn
    have e5 : 0 ≤ whi n := by unfold whi; omega
    rw [iabs_pos (by omega)]
    go_enter Tryz.func108, Tryz.ntmps108
    go_wp2_with (go_at_call 110; (with_reducible refine (hd ▸ wideBelow n _ h).mono ?_); rintro e w1 ⟨rfl, hb1⟩; obtain ⟨fc1, fg1, hc1, hf1, hz1⟩ := bget hb1; try simp at hz1)
    refine bodyPost_ret (by simp [results, Tryz.results108, go_sem, hc1]; try rfl) rfl ⟨rfl, ?_⟩
    (repeat' (first | (with_reducible exact Below.refl _ _) | (with_reducible assumption) | (with_reducible refine Below.alloc ?_ ?_ _) | (with_reducible refine Below.setCell ?_ ?_ _) | (with_reducible refine Below.drew ?_) | (with_reducible refine below_drewN ?_ _) | (with_reducible refine below_via ?_ (by with_reducible assumption) ?_) | omega | (simp; done) | (simp; omega)))

set_option maxHeartbeats 400000 in
theorem wideSignedPos (m : Int) (w : World) (h0 : 0 ≤ m) (h : m < 340282366920938463463374607431768211456) :
    Calls Tryz.prog 111 #[(.agg #[.int .u64 (whi (m)), .int .u64 (wlo (m))]), .bool false] w fun e w' => e = .returned (.tuple #[(.agg #[.int .i64 (whi (wrap128 m)), .int .u64 (wlo (wrap128 m))]), .bool (decide (m < 170141183460469231731687303715884105728))]) ∧ Below w.heap.size w w' := by
  have h1 : 0 ≤ whi m ∧ whi m ≤ 18446744073709551615 := by unfold whi; omega
  have h2 := wlo_u m
  have e1 : IntKind.i64.wrap (whi m) = whi (wrap128 m) := by rw [IntKind.wrap_i64]; unfold whi wrap128; omega
  have e2 : wlo m = wlo (wrap128 m) := by unfold wlo wrap128; omega
  go_enter Tryz.func111, Tryz.ntmps111
  go_wp2
  go_region
  all_goals
    go_wp2
    refine bodyPost_ret (by simp [results, Tryz.results111, go_sem, ]; try rfl) rfl ⟨ret_tup2 rfl (bool_eq (by unfold whi; omega)), ?_⟩
    (repeat' (first | (with_reducible exact Below.refl _ _) | (with_reducible assumption) | (with_reducible refine Below.alloc ?_ ?_ _) | (with_reducible refine Below.setCell ?_ ?_ _) | (with_reducible refine Below.drew ?_) | (with_reducible refine below_drewN ?_ _) | (with_reducible refine below_via ?_ (by with_reducible assumption) ?_) | omega | (simp; done) | (simp; omega)))

set_option maxHeartbeats 1000000 in
theorem wideSignedNeg (m : Int) (w : World) (h0 : 0 ≤ m) (h : m < 340282366920938463463374607431768211456) :
    Calls Tryz.prog 111 #[(.agg #[.int .u64 (whi (m)), .int .u64 (wlo (m))]), .bool true] w fun e w' => e = .returned (.tuple #[(.agg #[.int .i64 (whi (wrap128 (- m))), .int .u64 (wlo (wrap128 (- m)))]), .bool (decide (m ≤ 170141183460469231731687303715884105728))]) ∧ Below w.heap.size w w' := by
  have h1 : 0 ≤ whi m ∧ whi m ≤ 18446744073709551615 := by unfold whi; omega
  have h2 := wlo_u m
  have e1 := sub64_0 0 (wlo m) (by omega) (by omega) h2.1 h2.2
  have h3 : 0 ≤ - whi (- wlo m) ∧ - whi (- wlo m) ≤ 1 := by unfold whi; omega
  have e2 := sub64 0 (whi m) (- whi (- wlo m)) (by omega) (by omega) h1.1 h1.2 h3.1 h3.2
  have e3 : wlo (- wlo m) = wlo (wrap128 (- m)) := by unfold wlo wrap128; omega
  have e4 : IntKind.i64.wrap (wlo (- whi m - - whi (- wlo m))) = whi (wrap128 (- m)) := by rw [IntKind.wrap_i64]; unfold wlo whi wrap128; omega
  simp only [Int.zero_sub] at e1 e2
  rw [e3] at e1
  obtain ⟨b, hb⟩ : ∃ b, b = - whi (- wlo m) := ⟨_, rfl⟩
  rw [← hb] at e1 e2 e4 h3
  obtain ⟨c, hc⟩ : ∃ c, c = wlo (- whi m - b) := ⟨_, rfl⟩
  have h5 := wlo_u (- whi m - b)
  rw [← hc] at e2 e4 h5
  clear hb e3 hc
  have hfin : m ≤ 170141183460469231731687303715884105728 ↔ whi m < 9223372036854775808 ∨ (whi m = 9223372036854775808 ∧ wlo m = 0) := by unfold whi wlo; omega
  rw [show decide (m ≤ 170141183460469231731687303715884105728) = decide (whi m < 9223372036854775808 ∨ (whi m = 9223372036854775808 ∧ wlo m = 0)) from by simp only [hfin]]
  clear hfin h0 h
  by_cases c1 : whi m < 9223372036854775808
  · have d1 : decide (whi m < 9223372036854775808) = true := by simpa using c1
    go_enter Tryz.func111, Tryz.ntmps111
    go_wp2
    go_region
    all_goals
      go_wp2
      refine bodyPost_ret (by simp [results, Tryz.results111, go_sem, ]; try rfl) rfl ⟨ret_tup2 rfl (by simp [c1]), ?_⟩
      (repeat' (first | (with_reducible exact Below.refl _ _) | (with_reducible assumption) | (with_reducible refine Below.alloc ?_ ?_ _) | (with_reducible refine Below.setCell ?_ ?_ _) | (with_reducible refine Below.drew ?_) | (with_reducible refine below_drewN ?_ _) | (with_reducible refine below_via ?_ (by with_reducible assumption) ?_) | omega | (simp; done) | (simp; omega)))
  · have d1 : decide (whi m < 9223372036854775808) = false := by simpa using c1
    by_cases c2 : whi m = 9223372036854775808
    · have d2 : (whi m == 9223372036854775808) = true := by simpa using c2
      by_cases c3 : wlo m = 0
      · have d3 : (wlo m == 0) = true := by simpa using c3
        have C2 : Hid (whi m = 9223372036854775808) := c2
        have C3 : Hid (wlo m = 0) := c3
        clear c2 c3
        go_enter Tryz.func111, Tryz.ntmps111
        go_wp2
        go_region
        all_goals
          go_wp2
          refine bodyPost_ret (by simp [results, Tryz.results111, go_sem, ]; try rfl) rfl ⟨ret_tup2 rfl (by simp [C2.out, C3.out]), ?_⟩
          (repeat' (first | (with_reducible exact Below.refl _ _) | (with_reducible assumption) | (with_reducible refine Below.alloc ?_ ?_ _) | (with_reducible refine Below.setCell ?_ ?_ _) | (with_reducible refine Below.drew ?_) | (with_reducible refine below_drewN ?_ _) | (with_reducible refine below_via ?_ (by with_reducible assumption) ?_) | omega | (simp; done) | (simp; omega)))
      · have d3 : (wlo m == 0) = false := by simpa using c3
        have C2 : Hid (whi m = 9223372036854775808) := c2
        clear c2
        go_enter Tryz.func111, Tryz.ntmps111
        go_wp2
        go_region
        all_goals
          go_wp2
          refine bodyPost_ret (by simp [results, Tryz.results111, go_sem, ]; try rfl) rfl ⟨ret_tup2 rfl (by simp [C2.out, c3]), ?_⟩
          (repeat' (first | (with_reducible exact Below.refl _ _) | (with_reducible assumption) | (with_reducible refine Below.alloc ?_ ?_ _) | (with_reducible refine Below.setCell ?_ ?_ _) | (with_reducible refine Below.drew ?_) | (with_reducible refine below_drewN ?_ _) | (with_reducible refine below_via ?_ (by with_reducible assumption) ?_) | omega | (simp; done) | (simp; omega)))
    · have d2 : (whi m == 9223372036854775808) = false := by simpa using c2
      go_enter Tryz.func111, Tryz.ntmps111
      go_wp2
      go_region
      all_goals
        go_wp2
        refine bodyPost_ret (by simp [results, Tryz.results111, go_sem, ]; try rfl) rfl ⟨ret_tup2 rfl (by simp [c2]; omega), ?_⟩
        (repeat' (first | (with_reducible exact Below.refl _ _) | (with_reducible assumption) | (with_reducible refine Below.alloc ?_ ?_ _) | (with_reducible refine Below.setCell ?_ ?_ _) | (with_reducible refine Below.drew ?_) | (with_reducible refine below_drewN ?_ _) | (with_reducible refine below_via ?_ (by with_reducible assumption) ?_) | omega | (simp; done) | (simp; omega)))

theorem wideSigned (s : Bool) (m : Int) (w : World) (h0 : 0 ≤ m) (h : m < 340282366920938463463374607431768211456) :
    Calls Tryz.prog 111 #[(.agg #[.int .u64 (whi (m)), .int .u64 (wlo (m))]), .bool s] w fun e w' => e = .returned (.tuple #[(.agg #[.int .i64 (whi (wrap128 (sgn s m))), .int .u64 (wlo (wrap128 (sgn s m)))]), .bool (in128 (sgn s m))]) ∧ Below w.heap.size w w' := by
  cases s
  · refine (wideSignedPos m w h0 h).mono ?_
    rintro e w' ⟨rfl, hb⟩
    exact ⟨ret_tup2 rfl (bool_eq (by simp [sgn]; omega)), hb⟩
  · refine (wideSignedNeg m w h0 h).mono ?_
    rintro e w' ⟨rfl, hb⟩
    exact ⟨ret_tup2 rfl (bool_eq (by simp [sgn]; omega)), hb⟩
theorem mul64 (x y : Int) (w : World) (hx : 0 ≤ x) (hx' : x ≤ 18446744073709551615) (hy : 0 ≤ y) (hy' : y ≤ 18446744073709551615) :
    Calls Tryz.prog 112 #[.int .u64 x, .int .u64 y] w fun e w' => e = .returned (.tuple #[.int .u64 (whi (x * y)), .int .u64 (wlo (x * y))]) ∧ w = w' := by
  obtain ⟨x, rfl⟩ := Int.eq_ofNat_of_zero_le hx
  obtain ⟨y, rfl⟩ := Int.eq_ofNat_of_zero_le hy
  refine (Tryz.bits_Mul64 x y (by omega) (by omega) w).mono ?_
  rintro e w' ⟨rfl, rfl⟩
  refine ⟨ret_tup2 ?_ ?_, rfl⟩ <;> simp [whi, wlo]

set_option maxHeartbeats 400000 in
theorem wideRangedYes (n : Int) (w : World) :
    Calls Tryz.prog 104 #[(.agg #[.int .i64 (whi (n)), .int .u64 (wlo (n))]), .bool true] w fun e w' => e = .returned (.tuple #[(.agg #[.int .i64 (whi (n)), .int .u64 (wlo (n))]), .int .i64 0]) ∧ Below w.heap.size w w' := by
  go_enter Tryz.func104, Tryz.ntmps104
  go_wp2
  refine bodyPost_ret (by simp [results, Tryz.results104, go_sem, ]; try rfl) rfl ⟨rfl, ?_⟩
  (repeat' (first | (with_reducible exact Below.refl _ _) | (with_reducible assumption) | (with_reducible refine Below.alloc ?_ ?_ _) | (with_reducible refine Below.setCell ?_ ?_ _) | (with_reducible refine Below.drew ?_) | (with_reducible refine below_drewN ?_ _) | (with_reducible refine below_via ?_ (by with_reducible assumption) ?_) | omega | (simp; done) | (simp; omega)))
end Go.Proofs.YtalgfpegaobacaaGreat
