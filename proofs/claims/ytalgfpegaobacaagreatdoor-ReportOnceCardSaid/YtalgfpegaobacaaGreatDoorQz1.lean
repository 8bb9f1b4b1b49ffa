/- Joined. -/
import Derived.Deep.RegionHeld3
import Derived.WalkKit
import Derived.Deep.Draws
import Derived.Lib.Hide
import Derived.Maps.AppendAt
import Derived.Test.YtalgfpegaobacaaGreatDoorRows
import Derived.WalkSpells
import Derived.WalkLawsBesides
import Derived.BigQuiet
import Derived.Handy
namespace Go.Proofs.YtalgfpegaobacaaGreatDoor
set_option linter.all false
set_option maxHeartbeats 4000000
set_option maxRecDepth 100000
open Go.RowKit
open Lib (hid)
/- Plain numbers of 64 and 128 bits, and small laws on worlds: no program in sight. -/
def whi (n : Int) : Int := n / 18446744073709551616
def wlo (n : Int) : Int := n % 18446744073709551616
/-- One of 128 bits, with a sign. -/
def In128 (n : Int) : Prop := -170141183460469231731687303715884105728 ≤ n ∧ n < 170141183460469231731687303715884105728
def In64 (n : Int) : Prop := -9223372036854775808 ≤ n ∧ n ≤ 9223372036854775807
theorem whi_wlo (n : Int) : whi n * 18446744073709551616 + wlo n = n := by unfold whi wlo; omega
theorem wlo_u (n : Int) : 0 ≤ wlo n ∧ wlo n ≤ 18446744073709551615 := by unfold wlo; omega
theorem whi_i {n : Int} (h : In128 n) : -9223372036854775808 ≤ whi n ∧ whi n ≤ 9223372036854775807 := by unfold In128 at h; unfold whi; omega

/-- What a contract's 'Below' gives the walk that goes on behind the call: rules without side conditions; the 'if' is decided by arithmetic. -/
theorem bget {B : Nat} {W w1 : World} (hb : Below B W w1) : ∃ (f : Nat → Nat → Option Value) (g : Nat → Nat → Bool), (∀ b o, w1.cell? ⟨b, o, none⟩ = if b < B then W.cell? ⟨b, o, none⟩ else f b o) ∧ (∀ b o, w1.frozen? ⟨b, o, none⟩ = if b < B then W.frozen? ⟨b, o, none⟩ else g b o) ∧ W.heap.size ≤ w1.heap.size :=
  ⟨fun b o => w1.cell? ⟨b, o, none⟩, fun b o => w1.frozen? ⟨b, o, none⟩, fun b o => by split <;> first | rfl | exact hb.cell (p := ⟨b, o, none⟩) (by assumption), fun b o => by split <;> first | rfl | exact hb.frozen (p := ⟨b, o, none⟩) (by assumption), hb.size⟩
/-- A call behind what was made before it. -/
theorem below_via {B C : Nat} {a w w1 : World} (h : Below B a w) (hb : Below C w w1) (hB : B ≤ C) : Below B a w1 := h.trans (hb.mono hB)
/-- A number of 128 bits out of any. -/
def wrap128 (n : Int) : Int := (n + 170141183460469231731687303715884105728) % 340282366920938463463374607431768211456 - 170141183460469231731687303715884105728
theorem wrap128_in {n : Int} (h : In128 n) : wrap128 n = n := by unfold In128 at h; unfold wrap128; omega
theorem wrap128_is (n : Int) : In128 (wrap128 n) := by unfold In128 wrap128; omega
theorem ret_bool {a b : Prop} [Decidable a] [Decidable b] (h : a ↔ b) : Ending.returned (.bool (decide a)) = .returned (.bool (decide b)) := by simp [h]
theorem ret_int {k : IntKind} {a b : Int} (h : a = b) : Ending.returned (.int k a) = .returned (.int k b) := by rw [h]
theorem ret_agg2 {k l : IntKind} {a b c d : Int} (h : a = c) (h' : b = d) : Ending.returned (.agg #[.int k a, .int l b]) = .returned (.agg #[.int k c, .int l d]) := by rw [h, h']
theorem bool_eq {a b : Prop} [Decidable a] [Decidable b] (h : a ↔ b) : Value.bool (decide a) = .bool (decide b) := by simp [h]
theorem ret_tup2 {a b c d : Value} (h : a = c) (h' : b = d) : Ending.returned (.tuple #[a, b]) = .returned (.tuple #[c, d]) := by rw [h, h']
/-- A number without its sign. -/
def iabs (n : Int) : Int := if n < 0 then - n else n
theorem iabs_neg {n : Int} (h : n < 0) : iabs n = - n := by unfold iabs; rw [if_pos h]
theorem iabs_pos {n : Int} (h : 0 ≤ n) : iabs n = n := by unfold iabs; rw [if_neg (by omega)]
theorem iabs_nat (n : Int) : iabs n = n.natAbs := by unfold iabs; split <;> omega
/-- A number with a sign. -/
def sgn (s : Bool) (m : Int) : Int := if s then - m else m
def in128 (n : Int) : Bool := decide (-170141183460469231731687303715884105728 ≤ n ∧ n < 170141183460469231731687303715884105728)
theorem in128_true {n : Int} (h : In128 n) : in128 n = true := by unfold In128 at h; simpa [in128] using h
theorem sgn_mul (a b : Int) : sgn (decide (a < 0) != decide (b < 0)) (iabs a * iabs b) = a * b := by
  unfold iabs
  by_cases h1 : a < 0 <;> by_cases h2 : b < 0 <;> simp [sgn, h1, h2, Int.neg_mul, Int.mul_neg]
theorem iabs_mul (a b : Int) : iabs a * iabs b = iabs (a * b) := by rw [iabs_nat, iabs_nat, iabs_nat, Int.natAbs_mul]; simp
theorem in128_of64 {n : Int} (h : In64 n) : In128 n := by unfold In64 at h; unfold In128; omega
theorem whi_zero : whi 0 = 0 := rfl
theorem wlo_zero : wlo 0 = 0 := rfl
theorem abs_mul_le {a b : Int} {A B : Nat} (ha : a.natAbs ≤ A) (hb : b.natAbs ≤ B) : (a * b).natAbs ≤ A * B := by rw [Int.natAbs_mul]; exact Nat.mul_le_mul ha hb
theorem mul64_128 {a b : Int} (ha : In64 a) (hb : In64 b) : In128 (a * b) := by
  unfold In64 at ha hb
  have := abs_mul_le (a := a) (b := b) (A := 9223372036854775808) (B := 9223372036854775808) (by omega) (by omega)
  unfold In128; omega
theorem wlo_abs64 {n : Int} (h : In64 n) : wlo (iabs n) = iabs n := by unfold In64 at h; unfold wlo iabs; split <;> omega
theorem below_drewN {B : Nat} {a w : World} (h : Below B a w) (n : Nat) : Below B a (w.drewN n) := ⟨h.os, h.tape, h.output, h.size, h.block⟩
/-! A new block: rules without side conditions; the 'if' is decided by arithmetic. -/
theorem cell_alloc_if (w : World) (cs : Array Value) (t : TypeId) (b i : Nat) : (w.alloc (.cells cs t)).cell? ⟨b, i, none⟩ = if b = w.heap.size then cs[i]? else w.cell? ⟨b, i, none⟩ := by
  split
  · rename_i h; subst h; exact World.cell?_alloc_new w cs t i
  · rename_i h; exact World.cell?_alloc_old w _ ⟨b, i, none⟩ h
theorem frozen_alloc_if (w : World) (cs : Array Value) (t : TypeId) (b i : Nat) : (w.alloc (.cells cs t)).frozen? ⟨b, i, none⟩ = if b = w.heap.size then false else w.frozen? ⟨b, i, none⟩ := by
  split
  · rename_i h; subst h; exact World.frozen?_alloc_new w cs t i
  · rename_i h; exact World.frozen?_alloc_old w _ ⟨b, i, none⟩ h
attribute [go_sem] cell_alloc_if frozen_alloc_if

/-! A cell, step by step back to where it is known. -/
theorem cell_via {B : Nat} {W w1 : World} {b o : Nat} {v : Value} (hb : Below B W w1) (hlt : b < B) (h : W.cell? ⟨b, o, none⟩ = some v) : w1.cell? ⟨b, o, none⟩ = some v := (hb.cell (p := ⟨b, o, none⟩) hlt).trans h
theorem cell_alloc {w : World} {b o : Nat} {v : Value} {x : Obj} (hlt : b < w.heap.size) (h : w.cell? ⟨b, o, none⟩ = some v) : (w.alloc x).cell? ⟨b, o, none⟩ = some v := (World.cell?_alloc_lt w x ⟨b, o, none⟩ hlt).trans h
theorem cell_drew {w : World} {a : Addr} {v : Value} (h : w.cell? a = some v) : w.drew.cell? a = some v := h
theorem cell_set_far {w : World} {b o : Nat} {p : Addr} {u v : Value} (hne : b ≠ p.block) (h : w.cell? ⟨b, o, none⟩ = some v) : (w.setCell p u).cell? ⟨b, o, none⟩ = some v :=
  (World.cell?_setCell_other w p ⟨b, o, none⟩ u (fun e => hne (by rw [e]))).trans h
theorem tB {P : Prop} (h : P := by (repeat' (first | (with_reducible exact Below.refl _ _) | (with_reducible assumption) | (with_reducible refine Below.alloc ?_ ?_ _) | (with_reducible refine Below.setCell ?_ ?_ _) | (with_reducible refine Below.drew ?_) | (with_reducible refine below_drewN ?_ _) | (with_reducible refine below_via ?_ (by with_reducible assumption) ?_) | omega | (simp; done) | (simp; omega)))) : P := h
theorem tK {P : Prop} (h : P := by (first | (simp [go_sem]; done) | (repeat' (first | (with_reducible assumption) | (with_reducible refine And.intro ?_ ?_) | (with_reducible refine cell_drew ?_) | (with_reducible refine cell_via (by with_reducible assumption) ?_ ?_) | (simp [*]; done) | (simp [go_sem]; done) | (with_reducible refine cell_alloc ?_ ?_) | (with_reducible refine cell_set_far ?_ ?_) | omega | (simp; omega))))) : P := h
theorem tL {P : Prop} (h : P := by (repeat' (first | (with_reducible assumption) | (with_reducible refine Blk.drew ?_) | (with_reducible refine Blk.here ?_) | (with_reducible refine Blk.alloc ?_ _) | (with_reducible refine Blk.far ?_ ?_ _) | (with_reducible refine Blk.below ?_ (by with_reducible assumption) ?_) | omega | (simp; done) | (simp; omega)))) : P := h
theorem tZ {P : Prop} (h : P := by first | omega | (simp; done) | (simp; omega)) : P := h
theorem tE {P : Prop} (h : P := by first | (simp; done) | omega | (simp; omega)) : P := h
theorem tC {B : Nat} {W X : World} {b o : Nat} {v : Value} (H : RowKit.Hid (Below B W X)) (hb : b < B) (h : W.cell? ⟨b, o, none⟩ = some v) : X.cell? ⟨b, o, none⟩ = some v := cell_via H.out hb h
theorem dT {a b : Nat} (h : a < b) : decide ((a : Int) < (b : Int)) = true := by simpa using h
theorem dF {a b : Nat} (h : ¬ a < b) : decide ((a : Int) < (b : Int)) = false := by simpa using h
section
variable {P : Program} {ops : Array Oper} {Q : Exit → Act → World → Prop} {md : Region.Mode} {S : World → Prop} {fuel : Nat} {listed : Array Bool} {a : Act} {w : World} {oi : Oper}
theorem tN (i : Nat) (h : wpAnyH P md ops Q S fuel (listed.setIfInBounds i true) (a.put oi.dst undef) w) (hi : ops[i]? = some oi := by exact rfl) (hs : Region.noSelect ops = true := by kernel_rfl) (hf : Region.free md ops listed i = true := by kernel_rfl) (hr : (Region.ready md ops listed).contains i = true := by kernel_rfl) (hQ : ∀ c a w, Q (.panic c) (a.put oi.dst undef) w → Q (.panic c) a w := by exact fun _ _ _ h => h) (hu : Region.wanted oi (yielded ops a.tmps) = false := by rfl) (hS : S w := by assumption) : wpAnyH P md ops Q S (fuel + 1) listed a w :=
  wpAnyH_take hi hs hf hr hQ (Or.inr ⟨hu, rfl⟩) hS h
theorem tQ (i : Nat) {v : Value} (h : wpAnyH P md ops Q S fuel (listed.setIfInBounds i true) (a.put oi.dst v) w) (hi : ops[i]? = some oi := by exact rfl) (hs : Region.noSelect ops = true := by kernel_rfl) (hf : Region.free md ops listed i = true := by kernel_rfl) (hr : (Region.ready md ops listed).contains i = true := by kernel_rfl) (hQ : ∀ c a w, Q (.panic c) (a.put oi.dst v) w → Q (.panic c) a w := by exact fun _ _ _ h => h) (hu : Region.wanted oi (yielded ops a.tmps) = true := by rfl)
    (hy : ∀ w, S w → (execOp a.eval oi).run P w = .ok (.value v) w := by (intro w hSw; (try dsimp only at hSw); go_simp; (try with_reducible rfl))) (hS : S w := by assumption) : wpAnyH P md ops Q S (fuel + 1) listed a w :=
  wpAnyH_take hi hs hf hr hQ (Or.inl ⟨hu, hy⟩) hS h
theorem tR {i : Nat} (h : AllReadyH P md ops Q S fuel listed a w [i]) (hr : Region.ready md ops listed = [i] := by kernel_rfl) : wpAnyH P md ops Q S (fuel + 1) listed a w := wpAnyH_ready hr (by simp) h
theorem tS {X Y : Prop} (h : Y) (e : Y = X := by (try simp only [Act.put, List.getElem_toArray, List.getElem_cons_succ, List.getElem_cons_zero, List.setIfInBounds_toArray, List.set_cons_zero, List.set_cons_succ]); rfl) : X := e ▸ h
theorem tG {X Y : Prop} (h : Y) (e : Y = X := by (try simp only [List.getElem_toArray, List.getElem_cons_succ, List.getElem_cons_zero]); rfl) : X := e ▸ h
end
theorem cM {P : Program} {f : FuncId} {args : Array Value} {n : Nat} {w W : World} {v : Value} {Q : Ending → World → Prop} (C : Calls P f args w fun e w' => e = .returned v ∧ Below n W w') (K : ∀ w1, Below n W w1 → ∀ (f : Nat → Nat → Option Value) (g : Nat → Nat → Bool), (∀ b o, w1.cell? ⟨b, o, none⟩ = if b < n then W.cell? ⟨b, o, none⟩ else f b o) → (∀ b o, w1.frozen? ⟨b, o, none⟩ = if b < n then W.frozen? ⟨b, o, none⟩ else g b o) → W.heap.size ≤ w1.heap.size → Q (.returned v) w1) : Calls P f args w Q := by
  refine C.mono ?_
  rintro e w1 ⟨rfl, hb⟩
  obtain ⟨f1, g1, hc, hf, hz⟩ := bget hb
  exact K w1 hb f1 g1 hc hf hz
/- Words for memory: a block that is known whole; a call that writes one block; a slice that reads as rows of cells. No program in sight. -/
def Blk (w : World) (g : Nat) (t : TypeId) (cs : Array Value) : Prop := w.heap[g]? = some (.cells cs t (0, 0))
section
variable {w w' : World} {g : Nat} {t : TypeId} {cs : Array Value}
theorem Blk.lt (h : Blk w g t cs) : g < w.heap.size := by
 rcases Nat.lt_or_ge g w.heap.size with hlt | hge
 ·exact hlt
 ·unfold Blk at h; rw [Array.getElem?_eq_none hge] at h; cases h
theorem Blk.cell (h : Blk w g t cs) (i : Nat) : w.cell? ⟨g, i, none⟩ = cs[i]? := cell_of_row w g i cs t (0, 0) h
theorem Blk.frozen (h : Blk w g t cs) (i : Nat) : w.frozen? ⟨g, i, none⟩ = false := by
 unfold Blk at h
 simp [World.frozen?, h]
theorem Blk.new (w : World) (t : TypeId) (cs : Array Value) : Blk (w.alloc (.cells cs t)) w.heap.size t cs := heap_alloc_new w _
theorem Blk.here {n : Nat} (h : n = w.heap.size) : Blk (w.alloc (.cells cs t)) n t cs := by subst h; exact Blk.new w t cs
theorem Blk.drew (h : Blk w g t cs) : Blk w.drew g t cs := h
theorem Blk.alloc (h : Blk w g t cs) (o : Obj) : Blk (w.alloc o) g t cs := (Below.heap_alloc w o g h.lt).trans h
theorem Blk.set (h : Blk w g t cs) (i : Nat) (u : Value) : Blk (w.setCell ⟨g, i, none⟩ u) g t (cs.setIfInBounds i u) := by
 unfold Blk at h ⊢
 simp [World.setCell, Array.getElem?_modify, h]
theorem Blk.far (h : Blk w g t cs) {p : Addr} (hp : g ≠ p.block) (u : Value) : Blk (w.setCell p u) g t cs := (Below.heap_setCell w p u g hp).trans h
theorem Blk.below {B : Nat} (h : Blk w g t cs) (hb : Below B w w') (hg : g < B) : Blk w' g t cs := (hb.block g hg).trans h
end
structure Only (g : Nat) (w w' : World) : Prop where
 os : w'.os = w.os
 tape : w'.tape = w.tape
 output : w'.output = w.output
 size : w.heap.size ≤ w'.heap.size
 block : ∀ k, k < w.heap.size → k ≠ g → w'.heap[k]? = w.heap[k]?
section
variable {a w w' : World} {g B : Nat}
theorem Only.refl (g : Nat) (w : World) : Only g w w := ⟨rfl, rfl, rfl, Nat.le_refl _, fun _ _ _ => rfl⟩
theorem Only.drew (h : Only g a w) : Only g a w.drew := ⟨h.os, h.tape, h.output, h.size, h.block⟩
theorem Only.alloc (h : Only g a w) (o : Obj) : Only g a (w.alloc o) :=
 ⟨h.os, h.tape, h.output, Nat.le_trans h.size (by simp), fun i hi hne => (Below.heap_alloc w o i (Nat.lt_of_lt_of_le hi h.size)).trans (h.block i hi hne)⟩
theorem Only.set (h : Only g a w) {p : Addr} (hp : p.block = g ∨ a.heap.size ≤ p.block) (u : Value) : Only g a (w.setCell p u) :=
 ⟨h.os, h.tape, h.output, by simpa [World.setCell] using h.size, fun i hi hne => (Below.heap_setCell w p u i (by
  rintro rfl
  rcases hp with hp | hp
  ·exact hne hp
  ·omega)).trans (h.block i hi hne)⟩
theorem Only.trans {b c : World} (h : Only g a b) (k : Only g b c) : Only g a c :=
 ⟨k.os.trans h.os, k.tape.trans h.tape, k.output.trans h.output, Nat.le_trans h.size k.size, fun i hi hn => (k.block i (Nat.lt_of_lt_of_le hi h.size) hn).trans (h.block i hi hn)⟩
theorem Only.via (h : Only g a w) (hb : Below w.heap.size w w') : Only g a w' :=
 ⟨hb.os.trans h.os, hb.tape.trans h.tape, hb.output.trans h.output, Nat.le_trans h.size hb.size, fun i hi hn => (hb.block i (Nat.lt_of_lt_of_le hi h.size)).trans (h.block i hi hn)⟩
theorem below_only {B : Nat} (h : Below B a w) (ho : Only g w w') (hB : B ≤ w.heap.size) (hg : B ≤ g) : Below B a w' :=
 h.trans ⟨ho.os, ho.tape, ho.output, ho.size, fun k hk => ho.block k (by omega) (by omega)⟩
end
theorem oget {g : Nat} {W w1 : World} (h : Only g W w1) : ∃ (f : Nat → Nat → Option Value) (z : Nat → Nat → Bool), (∀ b o, w1.cell? ⟨b, o, none⟩ = if b = g then f b o else if b < W.heap.size then W.cell? ⟨b, o, none⟩ else f b o) ∧ (∀ b o, w1.frozen? ⟨b, o, none⟩ = if b = g then z b o else if b < W.heap.size then W.frozen? ⟨b, o, none⟩ else z b o) ∧ W.heap.size ≤ w1.heap.size := by
 refine ⟨fun b o => w1.cell? ⟨b, o, none⟩, fun b o => w1.frozen? ⟨b, o, none⟩, fun b o => ?_, fun b o => ?_, h.size⟩
 ·split
  ·rfl
  ·split
   ·exact World.cell?_of_block (w := W) (h.block b (by assumption) (by assumption))
   ·rfl
 ·split
  ·rfl
  ·split
   ·exact World.frozen?_of_block (w := W) (h.block b (by assumption) (by assumption))
   ·rfl
def Rd (w : World) (A : Option Addr) (k : Nat) (rows : List (List Value)) : Prop :=
 ∀ i r, rows[i]? = some r → ∃ b o, A = some ⟨b, o, none⟩ ∧ b < w.heap.size ∧ ∀ j v, r[j]? = some v → w.cell? ⟨b, o + i * k + j, none⟩ = some v
theorem Rd.drew {w : World} {A : Option Addr} {k : Nat} {rows : List (List Value)} (h : Rd w A k rows) : Rd w.drew A k rows := h
theorem Rd.keep {w w' : World} {A : Option Addr} {k : Nat} {rows : List (List Value)} (h : Rd w A k rows) (hb : Below w.heap.size w w') : Rd w' A k rows := by
 intro i r hr
 obtain ⟨b, o, hA, hlt, hc⟩ := h i r hr
 exact ⟨b, o, hA, Nat.lt_of_lt_of_le hlt hb.size, fun j v hv => cell_via hb hlt (hc j v hv)⟩
theorem Rd.far {w : World} {A : Option Addr} {k : Nat} {rows : List (List Value)} (h : Rd w A k rows) {p : Addr} {v0 : Value} (hp : w.cell? p = some v0) (hne : ∀ r ∈ rows, v0 ∉ r) (u : Value) : Rd (w.setCell p u) A k rows := by
 intro i r hr
 obtain ⟨b, o, hA, hlt, hc⟩ := h i r hr
 refine ⟨b, o, hA, by simpa [World.setCell] using hlt, fun j v hv => ?_⟩
 rw [World.cell?_setCell_other _ _ _ _ (fun e => ?_)]
 ·exact hc j v hv
 ·have h1 := hc j v hv
  rw [← e, hp] at h1
  injection h1 with h1
  subst h1
  exact hne r (List.mem_of_getElem? hr) (List.mem_of_getElem? hv)
/- Slices of the call's own, row by row; append. No program in sight. -/
theorem flatten_at {k : Nat} : ∀ {rows : List (List Value)} (_ : ∀ r ∈ rows, r.length = k) {i : Nat} {r : List Value} (_ : rows[i]? = some r) {j : Nat} (_ : j < k), rows.flatten[i * k + j]? = r[j]?
 | [], _, i, r, hi, j, _ => by simp at hi
 | a :: rows, hl, 0, r, hi, j, hj => by
  simp at hi; subst hi
  have : j < a.length := by rw [hl a (by simp)]; exact hj
  simp [List.getElem?_append_left this]
 | a :: rows, hl, i + 1, r, hi, j, hj => by
  have ha := hl a (by simp)
  have := flatten_at (rows := rows) (fun r hr => hl r (by simp [hr])) (i := i) (r := r) (by simpa using hi) hj
  rw [List.flatten_cons, List.getElem?_append_right (by rw [ha, Nat.add_mul]; omega), ha, ← this]
  congr 1
  rw [Nat.add_mul]; omega
theorem flatten_length {k : Nat} : ∀ {rows : List (List Value)} (_ : ∀ r ∈ rows, r.length = k), rows.flatten.length = rows.length * k
 | [], _ => by simp
 | a :: rows, hl => by
  rw [List.flatten_cons, List.length_append, hl a (by simp), flatten_length (fun r hr => hl r (by simp [hr])), List.length_cons, Nat.add_mul]; omega
def Own (w : World) (base : Nat) (E : TypeId) (k : Nat) (v : Value) (rows : List (List Value)) : Prop :=
 (∀ r ∈ rows, r.length = k) ∧ w.ownsRow base E k v rows.length rows.flatten
def Sl (w : World) (k : Nat) (v : Value) (rows : List (List Value)) : Prop := ∃ A c, v = .slice A rows.length c ∧ rows.length ≤ c ∧ c ≤ maxLen ∧ Rd w A k rows
section
variable {w w' : World} {base E k : Nat} {v : Value} {rows : List (List Value)}
theorem Own.nil (w : World) (base E k : Nat) : Own w base E k (.slice none 0 0) [] := ⟨by simp, World.ownsRow_nil w base E k⟩
theorem Own.made (w : World) {base E k : Nat} (hb : base ≤ w.heap.size) : Own (w.alloc (.cells #[] E)) base E k (.slice (some ⟨w.heap.size, 0, none⟩) 0 0) [] := ⟨by simp, World.ownsRow_made w #[] 0 hb (by unfold maxLen; omega) (by simp)⟩
theorem Own.drew (h : Own w base E k v rows) : Own w.drew base E k v rows := h
theorem Own.alloc (h : Own w base E k v rows) (o : Obj) : Own (w.alloc o) base E k v rows := ⟨h.1, h.2.alloc o⟩
theorem Own.mono (h : Own w base E k v rows) {b : Nat} (hb : b ≤ base) : Own w b E k v rows := by
 refine ⟨h.1, h.2.1, ?_⟩
 rcases h.2.2 with h2 | ⟨g, cap, cur, hv, hg, r⟩
 ·exact .inl h2
 ·exact .inr ⟨g, cap, cur, hv, Nat.le_trans hb hg, r⟩
theorem Own.block (h : Own w base E k v rows) : ∀ g, v.ownBlock = some g → base ≤ g ∧ g < w.heap.size := h.2.lt
theorem Own.keep (h : Own w base E k v rows) (hb : Below w.heap.size w w') : Own w' base E k v rows := by
 refine ⟨h.1, h.2.1, ?_⟩
 rcases h.2.2 with h2 | ⟨g, cap, cur, hv, hg, hh, r⟩
 ·exact .inl h2
 ·exact .inr ⟨g, cap, cur, hv, hg, by rw [hb.block g (Array.getElem?_eq_some_iff.1 hh).1]; exact hh, r⟩
theorem Own.far (h : Own w base E k v rows) {p : Addr} (hp : v.ownBlock ≠ some p.block) (u : Value) : Own (w.setCell p u) base E k v rows := by
 refine ⟨h.1, h.2.1, ?_⟩
 rcases h.2.2 with h2 | ⟨g, cap, cur, hv, hg, hh, r⟩
 ·exact .inl h2
 ·refine .inr ⟨g, cap, cur, hv, hg, ?_, r⟩
  rw [Below.heap_setCell _ _ _ _ (fun e => hp (by rw [hv, e]; rfl))]
  exact hh
theorem Own.farLow (h : Own w base E k v rows) {p : Addr} (hp : p.block < base) (u : Value) : Own (w.setCell p u) base E k v rows :=
 h.far (fun e => by have := h.block _ e; omega) u
theorem Own.only {g : Nat} (h : Own w base E k v rows) (ho : Only g w w') (hg : v.ownBlock ≠ some g) : Own w' base E k v rows := by
 refine ⟨h.1, h.2.1, ?_⟩
 rcases h.2.2 with h2 | ⟨g', cap, cur, hv, hg', hh, r⟩
 ·exact .inl h2
 ·exact .inr ⟨g', cap, cur, hv, hg', by rw [ho.block g' (Array.getElem?_eq_some_iff.1 hh).1 (fun e => hg (by rw [hv, e]; rfl))]; exact hh, r⟩
theorem Own.shape (h : Own w base E k v rows) : ∃ A c, v = .slice A rows.length c ∧ rows.length ≤ c ∧ c ≤ maxLen ∧ Rd w A k rows ∧ (rows ≠ [] → ∃ g, A = some ⟨g, 0, none⟩ ∧ base ≤ g ∧ g < w.heap.size) := by
 rcases h.2.2 with ⟨hv, h0⟩ | ⟨g, cap, cur, hv, hg, hh, hc, hm, hs, ht⟩
 ·have : rows = [] := List.eq_nil_of_length_eq_zero h0
  subst this
  exact ⟨none, 0, hv, Nat.le_refl _, by unfold maxLen; omega, fun i r hr => by simp at hr, fun hne => absurd rfl hne⟩
 ·have hlt := (Array.getElem?_eq_some_iff.1 hh).1
  refine ⟨_, cap, hv, hc, hm, fun i r hr => ⟨g, 0, rfl, hlt, fun j u hu => ?_⟩, fun _ => ⟨g, rfl, hg, hlt⟩⟩
  have hrl := h.1 r (List.mem_of_getElem? hr)
  have hjr : j < k := by
   rw [← hrl]
   rcases Nat.lt_or_ge j r.length with h1 | h1
   ·exact h1
   ·rw [List.getElem?_eq_none h1] at hu; cases hu
  have hf := flatten_at h.1 hr hjr
  rw [hu, ← ht, List.getElem?_take] at hf
  split at hf
  ·rw [Nat.zero_add, cell_of_row w g (i * k + j) cur E (0, 0) hh]
   simpa using hf
  ·cases hf
theorem Own.sl (h : Own w base E k v rows) : Sl w k v rows := by
 obtain ⟨A, c, h1, h2, h3, h4, _⟩ := h.shape
 exact ⟨A, c, h1, h2, h3, h4⟩
theorem Own.rd {A : Option Addr} {n c : Nat} (h : Own w base E k (.slice A n c) rows) : Rd w A k rows ∧ n = rows.length ∧ rows.length ≤ c ∧ c ≤ maxLen := by
 obtain ⟨A', c', h1, h2, h3, h4, _⟩ := h.shape
 injection h1 with e1 e2 e3
 subst e1; subst e3
 exact ⟨h4, e2, h2, h3⟩
theorem Sl.keep (h : Sl w k v rows) (hb : Below w.heap.size w w') : Sl w' k v rows := by
 obtain ⟨A, c, h1, h2, h3, h4⟩ := h
 exact ⟨A, c, h1, h2, h3, h4.keep hb⟩
end
structure Elem (P : Program) (T E k bytes : Nat) : Prop where
 ty : P.underlying T = some (.slice E)
 info : ∃ i z, P.info? E = some i ∧ i.zero = some z ∧ i.size = k ∧ i.bytes = bytes ∧ z.cells.size = k
 pos : 0 < k
theorem elem_of {P : Program} {T E k bytes : Nat} {z : Value} (ht : P.underlying T = some (.slice E)) (h : (P.info? E).map (fun i => (i.zero, i.size, i.bytes)) = some (some z, k, bytes)) (hz : z.cells.size = k) (hk : 0 < k) : Elem P T E k bytes := by
 refine ⟨ht, ?_, hk⟩
 cases hi : P.info? E with
 | none => rw [hi] at h; cases h
 | some i =>
  rw [hi] at h
  simp at h
  exact ⟨i, z, rfl, h.1, h.2.1, h.2.2, hz⟩
theorem rd_cells {w : World} {ad : Addr} {k : Nat} {rows : List (List Value)} (hl : ∀ r ∈ rows, r.length = k) (hr : Rd w (some ad) k rows) (j : Nat) (u : Value) (hu : rows.flatten[j]? = some u) : w.cell? (ad.add j) = some u := by
 have hk : 0 < k := by
  rcases Nat.eq_zero_or_pos k with h0 | h0
  ·subst h0
   have : rows.flatten = [] := List.eq_nil_of_length_eq_zero (by rw [flatten_length hl]; omega)
   rw [this] at hu; simp at hu
  ·exact h0
 have hj : j < rows.length * k := by
  rw [← flatten_length hl]
  rcases Nat.lt_or_ge j rows.flatten.length with h1 | h1
  ·exact h1
  ·rw [List.getElem?_eq_none h1] at hu; cases hu
 have hi : j / k < rows.length := Nat.div_lt_of_lt_mul (by rw [Nat.mul_comm]; exact hj)
 obtain ⟨b, o, hA, _, hc⟩ := hr (j / k) rows[j / k] (List.getElem?_eq_getElem hi)
 have hf := flatten_at hl (List.getElem?_eq_getElem hi) (j := j % k) (Nat.mod_lt _ hk)
 have hjk : j / k * k + j % k = j := by rw [Nat.mul_comm]; exact Nat.div_add_mod j k
 rw [hjk, hu] at hf
 have := hc (j % k) u hf.symm
 injection hA with hA
 subst hA
 rw [show o + j / k * k + j % k = o + j from by omega] at this
 rw [show (⟨b, o, none⟩ : Addr).add j = ⟨b, o + j, none⟩ from by unfold Addr.add; split <;> simp_all]
 exact this
theorem wp_app {P : Program} {o : Oper} {a : Act} {K : Act → World → Prop} {Q : Exit → Act → World → Prop} {w : World} (s x : Operand) (T : TypeId)
  (ho : o.op = .call { callee := .builtin .append, args := #[s, x], argTypes := #[T, T] }) {E k bytes : Nat} (el : Elem P T E k bytes)
  (base : Nat) (v : Value) (rows : List (List Value)) (hs : a.eval s = v) (hown : Own w base E k v rows)
  (A : Option Addr) (m c : Nat) (hx : a.eval x = .slice A m c) (news : List (List Value)) (hm : news.length = m) (hc : A = none → c = 0) (hr : Rd w A k news) (hk : ∀ r ∈ news, r.length = k ∧ ∀ u ∈ r, u.oneCell' = true)
  (h63 : rows.length + m ≤ maxLen) (hbytes : (rows.length + m) * bytes ≤ 140737488355328) (hbase : base ≤ w.heap.size)
  (h : ∀ v' w', Own w' base E k v' (rows ++ news) → Below base w w' → K (a.put o.dst v') w') : o.wp P a w K Q := by
 obtain ⟨i, z, hi, hz, hsize, hby, hzs⟩ := el.info
 have hkl : ∀ r ∈ news, r.length = k := fun r hr => (hk r hr).1
 have hall : ∀ r ∈ rows ++ news, r.length = k := fun r hr => by
  rcases List.mem_append.1 hr with h1 | h1
  ·exact hown.1 r h1
  ·exact hkl r h1
 rcases A with _ | ad
 ·have hc0 := hc rfl
  subst hc0
  have hn : news = [] := by
   rcases news with _ | ⟨r, news⟩
   ·rfl
   ·obtain ⟨b, o, hA, _⟩ := hr 0 r rfl
    cases hA
  subst hn
  simp at hm
  subst hm
  have hrun := run_append_owned_none (P := P) (w := w) base T o.type E i k el.ty hi v rows.length rows.flatten hown.2
  unfold Oper.wp
  simp [execOp, ho, resolve, invoke, builtin, hs, hx, hrun, Result.andThen]
  exact h v w (by simpa using hown) (Below.refl _ _)
 ·refine wp_append_own w s x T ho base E i z k bytes el.ty hi hz hsize hby hzs el.pos v rows.length rows.flatten hs hown.2 ad m c news.flatten hx (by rw [flatten_length hkl, hm]) (rd_cells hkl hr) (fun u hu => by
    obtain ⟨r, hr1, hr2⟩ := List.mem_flatten.1 hu
    exact (hk r hr1).2 u hr2) h63 hbytes hbase fun v' w' h1 h2 _ => ?_
  refine h v' w' ⟨hall, by rw [List.length_append, hm, List.flatten_append]; exact h1⟩ ?_
  exact (Below.refl base w).grown h2 hbase (fun g hg => (hown.block g hg).1)
theorem wpList_app {P : Program} {ops : Array Oper} {rest : List Oper} {o : Oper} {a : Act} {Q : Exit → Act → World → Prop} {w : World} (hgd : o.guard = none) (s x : Operand) (T : TypeId)
  (ho : o.op = .call { callee := .builtin .append, args := #[s, x], argTypes := #[T, T] }) {E k bytes : Nat} (el : Elem P T E k bytes)
  (base : Nat) (v : Value) (rows : List (List Value)) (hs : a.eval s = v) (hown : Own w base E k v rows)
  (A : Option Addr) (m c : Nat) (hx : a.eval x = .slice A m c) (news : List (List Value)) (hm : news.length = m) (hc : A = none → c = 0) (hr : Rd w A k news) (hk : ∀ r ∈ news, r.length = k ∧ ∀ u ∈ r, u.oneCell' = true)
  (h63 : rows.length + m ≤ maxLen) (hbytes : (rows.length + m) * bytes ≤ 140737488355328) (hbase : base ≤ w.heap.size)
  (h : ∀ v' w', Own w' base E k v' (rows ++ news) → Below base w w' → wpList P ops Q rest (a.put o.dst v') w') : wpList P ops Q (o :: rest) a w :=
 wpList_plain hgd fun _ hK => wp_app s x T ho el base v rows hs hown A m c hx news hm hc hr hk h63 hbytes hbase fun v' w' h1 h2 => hK _ _ (h v' w' h1 h2)
theorem step_app {P : Program} {ops : Array Oper} {o : Oper} {a : Act} {K : Act → World → Prop} {Q : Exit → Act → World → Prop} {w : World} {R : Prop} (hgd : o.guard = none) (s x : Operand) (T : TypeId)
  (ho : o.op = .call { callee := .builtin .append, args := #[s, x], argTypes := #[T, T] }) {E k bytes : Nat} (el : Elem P T E k bytes)
  (base : Nat) (v : Value) (rows : List (List Value)) (hs : a.eval s = v) (hown : Own w base E k v rows)
  (A : Option Addr) (m c : Nat) (hx : a.eval x = .slice A m c) (news : List (List Value)) (hm : news.length = m) (hc : A = none → c = 0) (hr : Rd w A k news) (hk : ∀ r ∈ news, r.length = k ∧ ∀ u ∈ r, u.oneCell' = true)
  (h63 : rows.length + m ≤ maxLen) (hbytes : (rows.length + m) * bytes ≤ 140737488355328) (hbase : base ≤ w.heap.size)
  (h : ∀ v' w', Own w' base E k v' (rows ++ news) → Below base w w' → K (a.put o.dst v') w') : if Region.wanted o (yielded ops a.tmps) = true then Oper.wp P o a w K Q else R := by
 have hw : Region.wanted o (yielded ops a.tmps) = true := by simp [Region.wanted, hgd]
 rw [if_pos hw]
 exact wp_app s x T ho el base v rows hs hown A m c hx news hm hc hr hk h63 hbytes hbase h
theorem rd_one {w : World} {cs : Array Value} {E k : Nat} : Rd (w.alloc (.cells cs E)) (some ⟨w.heap.size, 0, none⟩) k [cs.toList] := by
 intro i r hr
 match i, hr with
 | 0, hr =>
  simp at hr
  subst hr
  refine ⟨w.heap.size, 0, rfl, by simp, fun j v hv => ?_⟩
  rw [World.cell?_alloc_new]
  simpa using hv
theorem wpList_mk {P : Program} {ops : Array Oper} {rest : List Oper} {o : Oper} {a : Act} {Q : Exit → Act → World → Prop} {w : World} (hgd : o.guard = none) (l c : Operand) (T : TypeId) (hop : o.op = Op.makeSlice T l c)
  {E k bytes : Nat} (el : Elem P T E k bytes) (base : Nat) (kl kc : IntKind) (C : Int) (n : Nat) (hl : a.eval l = .int kl 0) (hc : a.eval c = .int kc C) (hC : C = (n : Int)) (b2 : bytes * n ≤ 281474976710656) (b3 : n ≤ maxLen) (hbase : base ≤ w.heap.size)
  (h : ∀ w', Own w' base E k (.slice (some ⟨w.heap.size, 0, none⟩) 0 n) [] → Below w.heap.size w w' → wpList P ops Q rest (a.put o.dst (.slice (some ⟨w.heap.size, 0, none⟩) 0 n)) w') : wpList P ops Q (o :: rest) a w := by
 obtain ⟨i, z, hi, hz, hsize, hby, hzs⟩ := el.info
 refine wpList_make_own w hgd l c T hop base E i z k el.ty hi hz hsize kl kc C n hl hc hC (by rw [hby]; exact b2) b3 hbase fun w' h1 h2 => ?_
 exact h w' ⟨by simp, h1⟩ ((Below.refl _ _).grown h2 (Nat.le_refl _) (fun g hg => by cases hg))
def encI (n : Int) : List Value := [.int .i64 n]
/- A slice that reads as a list, whatever it holds. No program in sight. -/
structure Rs (w : World) (k : Nat) (rows : List (List Value)) (A : Option Addr) (c : Nat) : Prop where
 rd : Rd w A k rows
 cap : rows.length ≤ c
 room : c ≤ maxLen
 nil : A = none → c = 0
section
variable {w w' : World} {k : Nat} {rows : List (List Value)} {A : Option Addr} {c : Nat}
theorem Rs.keep (h : Rs w k rows A c) (hb : Below w.heap.size w w') : Rs w' k rows A c := ⟨h.rd.keep hb, h.cap, h.room, h.nil⟩
theorem Rs.empty (w : World) (k : Nat) : Rs w k [] .none 0 := ⟨fun i r hr => by simp at hr, by simp, by simp, fun _ => rfl⟩
theorem Rs.nilrows (h : Rs w k rows .none c) : rows = [] := by
 have := h.nil rfl
 have h1 := h.cap
 exact List.eq_nil_of_length_eq_zero (by omega)
theorem Own.rs {base E : Nat} {v : Value} (h : Own w base E k v rows) : ∃ A c, v = .slice A rows.length c ∧ Rs w k rows A c ∧ ((A = .none ∧ rows = [] ∧ c = 0) ∨ ∃ g, A = some ⟨g, 0, .none⟩ ∧ base ≤ g ∧ g < w.heap.size) := by
 rcases h.2.2 with ⟨hv, h0⟩ | ⟨g, cap, cur, hv, hg, hh, hc, hm, hs, ht⟩
 ·have : rows = [] := List.eq_nil_of_length_eq_zero h0
  subst this
  exact ⟨.none, 0, hv, Rs.empty _ _, .inl ⟨rfl, rfl, rfl⟩⟩
 ·have hlt := (Array.getElem?_eq_some_iff.1 hh).1
  have hrd := h
  rw [hv] at hrd
  exact ⟨_, cap, hv, ⟨hrd.rd.1, hc, hm, fun e => by cases e⟩, .inr ⟨g, rfl, hg, hlt⟩⟩
end
theorem rd_take' {w : World} {A : Option Addr} {k : Nat} {rows : List (List Value)} (h : Rd w A k rows) (n : Nat) : Rd w A k (rows.take n) := by
 intro i r hr
 refine h i r ?_
 rw [List.getElem?_take] at hr
 split at hr
 ·exact hr
 ·cases hr
theorem Rs.take {w : World} {k : Nat} {rows : List (List Value)} {A : Option Addr} {c : Nat} (h : Rs w k rows A c) (n : Nat) : Rs w k (rows.take n) A c := ⟨rd_take' h.rd n, by have := h.cap; rw [List.length_take]; omega, h.room, h.nil⟩
theorem drop_cons' {α : Type} {l : List α} {k : Nat} (h : k < l.length) : l.drop k = l[k] :: l.drop (k + 1) := List.drop_eq_getElem_cons h
theorem drop_all {α : Type} {l : List α} {k : Nat} (h : l.length ≤ k) : l.drop k = [] := List.drop_eq_nil_of_le h
theorem map_snoc {α β : Type} {l : List α} {k : Nat} (h : k < l.length) (f : α → β) : (l.take (k + 1)).map f = (l.take k).map f ++ [f l[k]] := by
 rw [List.take_succ_eq_append_getElem h, List.map_append]; rfl
theorem getD_at {α : Type} {l : List α} {k : Nat} (h : k < l.length) (d : α) : l.getD k d = l[k] := by simp [List.getD_eq_getElem?_getD, h]
def in64 (n : Int) : Bool := decide (-9223372036854775808 ≤ n ∧ n ≤ 9223372036854775807)
theorem in64_iff {n : Int} : in64 n = true ↔ In64 n := by simp [in64, In64]
theorem in64_no {n : Int} (h : in64 n = false) : ¬ In64 n := fun h1 => by rw [in64_iff.2 h1] at h; cases h
structure Each {α β : Type} (R : α → β → Prop) (us : List α) (bs : List β) : Prop where
 len : us.length = bs.length
 pt : ∀ (i : Nat) (a : α) (b : β), us[i]? = some a → bs[i]? = some b → R a b
theorem Each.nil {α β : Type} (R : α → β → Prop) : Each R [] [] := ⟨rfl, fun i a b h => by simp at h⟩
theorem Each.get {α β : Type} {R : α → β → Prop} {us : List α} {bs : List β} (h : Each R us bs) {i : Nat} (hi : i < bs.length) : ∃ a, us[i]? = some a ∧ R a bs[i] :=
 ⟨us[i]'(by rw [h.len]; exact hi), List.getElem?_eq_getElem _, h.pt i _ _ (List.getElem?_eq_getElem _) (List.getElem?_eq_getElem hi)⟩
theorem Each.imp {α β : Type} {R Q : α → β → Prop} {us : List α} {bs : List β} (h : Each R us bs) (f : ∀ a b, R a b → Q a b) : Each Q us bs := ⟨h.len, fun i a b h1 h2 => f a b (h.pt i a b h1 h2)⟩
theorem Each.take {α β : Type} {R : α → β → Prop} {us : List α} {bs : List β} (h : Each R us bs) (n : Nat) : Each R (us.take n) (bs.take n) := by
 refine ⟨by rw [List.length_take, List.length_take, h.len], fun i a b h1 h2 => ?_⟩
 rw [List.getElem?_take] at h1 h2
 split at h1
 ·rename_i hi; rw [if_pos hi] at h2; exact h.pt i a b h1 h2
 ·cases h1
theorem Each.append {α β : Type} {R : α → β → Prop} {us cs : List α} {bs ds : List β} (h : Each R us bs) (k : Each R cs ds) : Each R (us ++ cs) (bs ++ ds) := by
 refine ⟨by rw [List.length_append, List.length_append, h.len, k.len], fun i a b h1 h2 => ?_⟩
 rcases Nat.lt_or_ge i us.length with hi | hi
 ·rw [List.getElem?_append_left hi] at h1
  rw [List.getElem?_append_left (by rw [← h.len]; exact hi)] at h2
  exact h.pt i a b h1 h2
 ·rw [List.getElem?_append_right hi] at h1
  rw [List.getElem?_append_right (by rw [← h.len]; exact hi), ← h.len] at h2
  exact k.pt _ a b h1 h2
theorem Each.one {α β : Type} {R : α → β → Prop} {a : α} {b : β} (h : R a b) : Each R [a] [b] := by
 refine ⟨rfl, fun i x y h1 h2 => ?_⟩
 match i with
 | 0 => simp at h1 h2; subst h1 h2; exact h
 | i + 1 => simp at h1
def IsSl {α : Type} (k : Nat) (enc : α → List Value) (w : World) (v : Value) (l : List α) : Prop := ∃ A c, v = .slice A l.length c ∧ Rs w k (l.map enc) A c
theorem IsSl.keep {α : Type} {k : Nat} {enc : α → List Value} {w w' : World} {v : Value} {l : List α} (h : IsSl k enc w v l) (hb : Below w.heap.size w w') : IsSl k enc w' v l := by
 obtain ⟨A, c, h1, h2⟩ := h
 exact ⟨A, c, h1, h2.keep hb⟩
theorem isl {α : Type} {k : Nat} {enc : α → List Value} {w : World} {l : List α} {A : Option Addr} {c : Nat} (h : Rs w k (l.map enc) A c) : IsSl k enc w (.slice A l.length c) l := ⟨A, c, rfl, h⟩
theorem IsSl.empty {α : Type} (k : Nat) (enc : α → List Value) (w : World) : IsSl k enc w (.slice .none 0 0) [] := ⟨.none, 0, rfl, Rs.empty _ _⟩
theorem Own.isSl {α : Type} {k base E : Nat} {enc : α → List Value} {w : World} {v : Value} {l : List α} (h : Own w base E k v (l.map enc)) : IsSl k enc w v l := by
 obtain ⟨A, c, h1, h2, _⟩ := h.rs
 rw [List.length_map] at h1
 exact ⟨A, c, h1, h2⟩
def enc1 (v : Value) : List Value := [v]
structure RsS {α : Type} (k : Nat) (enc : α → List Value) (w : World) (ls : List (List α)) (A : Option Addr) (c : Nat) : Prop where
 ex : ∃ vs : List Value, Each (IsSl k enc w) vs ls ∧ Rs w 1 (vs.map enc1) A c
theorem RsS.keep {α : Type} {k : Nat} {enc : α → List Value} {w w' : World} {ls : List (List α)} {A : Option Addr} {c : Nat} (h : RsS k enc w ls A c) (hb : Below w.heap.size w w') : RsS k enc w' ls A c := by
 obtain ⟨vs, h1, h2⟩ := h.ex
 exact ⟨vs, h1.imp fun _ _ h => h.keep hb, h2.keep hb⟩
theorem RsS.row {α : Type} {k : Nat} {enc : α → List Value} {w : World} {ls : List (List α)} {A : Option Addr} {c : Nat} (h : RsS k enc w ls A c) {i : Nat} (hi : i < ls.length) :
  ∃ b o B d, A = some ⟨b, o, none⟩ ∧ b < w.heap.size ∧ w.cell? ⟨b, o + i, none⟩ = some (.slice B ls[i].length d) ∧ Rs w k (ls[i].map enc) B d := by
 obtain ⟨vs, h1, h2⟩ := h.ex
 obtain ⟨v, hv, B, d, rfl, hr⟩ := h1.get hi
 obtain ⟨b, o, hA, hb, hc⟩ := h2.rd i [.slice B ls[i].length d] (by rw [List.getElem?_map, hv]; rfl)
 exact ⟨b, o, B, d, hA, hb, by simpa using hc 0 _ rfl, hr⟩
/- A store into a slice of the call's own. No program in sight. -/
theorem flatten_set {k : Nat} : ∀ {rows : List (List Value)} (_ : ∀ r ∈ rows, r.length = k) {i : Nat} {r : List Value} (_ : rows[i]? = some r) {j : Nat} (_ : j < k) (u : Value), rows.flatten.set (i * k + j) u = (rows.set i (r.set j u)).flatten
 | [], _, i, r, hi, j, _, u => by simp at hi
 | a :: rows, hl, 0, r, hi, j, hj, u => by
  simp at hi; subst hi
  have : j < a.length := by rw [hl a (by simp)]; exact hj
  simp [List.set_append_left _ _ this]
 | a :: rows, hl, i + 1, r, hi, j, hj, u => by
  have ha := hl a (by simp)
  have := flatten_set (rows := rows) (fun r hr => hl r (by simp [hr])) (i := i) (r := r) (by simpa using hi) hj u
  rw [List.flatten_cons, List.set_append_right _ _ (by rw [ha, Nat.add_mul]; omega), ha, List.set_cons_succ, List.flatten_cons, ← this]
  congr 2
  rw [Nat.add_mul]; omega
theorem Own.put {w : World} {base E k : Nat} {v : Value} {rows : List (List Value)} (h : Own w base E k v rows) {g n c : Nat} (hv : v = .slice (some ⟨g, 0, none⟩) n c) {i : Nat} {r : List Value} (hi : rows[i]? = some r) {j : Nat} (hj : j < k) (u : Value) :
  Own (w.setCell ⟨g, i * k + j, none⟩ u) base E k v (rows.set i (r.set j u)) := by
 have hrl := h.1 r (List.mem_of_getElem? hi)
 have hall : ∀ x ∈ rows.set i (r.set j u), x.length = k := fun x hx => by
  rcases List.mem_or_eq_of_mem_set hx with h1 | h1
  ·exact h.1 x h1
  ·rw [h1, List.length_set]; exact hrl
 refine ⟨hall, ?_, ?_⟩
 ·rw [flatten_length hall]
 ·rcases h.2.2 with ⟨h1, _⟩ | ⟨g', cap, cur, h1, hg, hh, hc, hm, hs, ht⟩
  ·rw [hv] at h1; cases h1
  ·rw [hv] at h1
   injection h1 with e1 e2 e3
   injection e1 with e1
   injection e1 with e1 _ _
   subst e1
   refine .inr ⟨g, cap, cur.setIfInBounds (i * k + j) u, by rw [hv, List.length_set, ← e2, e3], hg, Blk.set (t := E) hh _ u, by rw [List.length_set]; exact hc, hm, by simpa using hs, ?_⟩
   rw [← flatten_set h.1 hi hj u, ← ht, List.length_set, Array.toList_setIfInBounds, List.take_set]
theorem Own.blk {w : World} {base E k : Nat} {v : Value} {rows : List (List Value)} (h : Own w base E k v rows) {g n c : Nat} (hv : v = .slice (some ⟨g, 0, none⟩) n c) : ∃ cur, Blk w g E cur := by
 rcases h.2.2 with ⟨h1, _⟩ | ⟨g', cap, cur, h1, hg, hh, _⟩
 ·rw [hv] at h1; cases h1
 ·rw [hv] at h1
  injection h1 with e1 e2 e3
  injection e1 with e1
  injection e1 with e1 _ _
  subst e1
  exact ⟨cur, hh⟩
/- What a closure holds. No program in sight. -/
def CapC (w : World) (g : Nat) (vs : List Value) : Prop := g < w.heap.size ∧ ∀ (j : Nat) (v : Value), vs[j]? = some v → w.cell? ⟨g, j, none⟩ = some v
theorem CapC.keep {w w' : World} {g : Nat} {vs : List Value} (h : CapC w g vs) (hb : Below w.heap.size w w') : CapC w' g vs := ⟨Nat.lt_of_lt_of_le h.1 hb.size, fun j v hv => cell_via hb h.1 (h.2 j v hv)⟩
theorem CapC.low {w w' : World} {g B : Nat} {vs : List Value} (h : CapC w g vs) (hg : g < B) (hb : Below B w w') : CapC w' g vs := ⟨Nat.lt_of_lt_of_le h.1 hb.size, fun j v hv => cell_via hb hg (h.2 j v hv)⟩
/- Assets: the type. -/
structure Asset where
 id : Int
 price : Int
 hair : Int
 deriving DecidableEq
def encAsset (x : Asset) : List Value := [.int .i64 x.id, .int .i64 x.price, .int .i64 x.hair]
def okAsset (x : Asset) : Prop := In64 x.id ∧ In64 x.price ∧ In64 x.hair
theorem rowsAsset (l : List Asset) : ∀ r ∈ l.map encAsset, r.length = 3 ∧ ∀ u ∈ r, u.oneCell' = true := by
 intro r hr
 obtain ⟨m, _, rfl⟩ := List.mem_map.1 hr
 refine ⟨rfl, ?_⟩
 simp only [encAsset, List.mem_cons, List.not_mem_nil, or_false, forall_eq_or_imp, forall_eq]
 exact ⟨rfl, rfl, rfl⟩
def okA (x : Asset) : Prop := 1 ≤ x.id ∧ x.id ≤ 4 ∧ 0 ≤ x.price ∧ x.price ≤ 2147483647 ∧ 0 ≤ x.hair ∧ x.hair ≤ 10000
instance (x : Asset) : Decidable (okA x) := by unfold okA; infer_instance
def countA (x : Asset) (q : Int) : Int := q * x.price * (10000 - x.hair) / 10000
theorem count_le {x : Asset} (h : okA x) {q : Int} (hq : 0 ≤ q) : 0 ≤ countA x q ∧ countA x q ≤ q * x.price := by
 obtain ⟨_, _, h1, _, h2, h3⟩ := h
 unfold countA
 have hw : 0 ≤ q * x.price := Int.mul_nonneg hq h1
 have hk : q * x.price * (10000 - x.hair) ≤ q * x.price * 10000 := Int.mul_le_mul_of_nonneg_left (by omega) hw
 have hk0 : 0 ≤ q * x.price * (10000 - x.hair) := Int.mul_nonneg hw (by omega)
 generalize q * x.price * (10000 - x.hair) = t at *
 generalize q * x.price = v at *
 omega
/- Assets: contracts of asset.Check and the reference's Is. -/
def pricedA (p : Int) : Bool := decide (0 ≤ p) && decide (p ≤ 2147483647)
theorem assetPriced (p : Int) (w : World) : Calls Tryz.prog 215 #[.int .i64 p] w fun e w' => e = .returned (.bool (pricedA p)) ∧ Below w.heap.size w w' := by
 by_cases h : 0 ≤ p
 ·have d1 : decide (0 ≤ p) = true := by simpa using h
  have HP := hid (show pricedA p = decide (p ≤ 2147483647) from by unfold pricedA; rw [d1]; rfl)
  go_enter Tryz.func215, Tryz.ntmps215
  go_wp2_with fail
  go_ret
  exact ⟨by rw [HP.out]; first | done | rfl, tB⟩
 ·have d1 : decide (0 ≤ p) = false := by simpa using h
  have HP := hid (show pricedA p = false from by unfold pricedA; rw [d1]; rfl)
  go_enter Tryz.func215, Tryz.ntmps215
  go_wp2_with fail
  go_ret
  exact ⟨by rw [HP.out]; first | done | rfl, tB⟩
def codeA (x : Asset) : Int := if okA x then 0 else 2
theorem codeA_yes {x : Asset} (h : okA x) : codeA x = 0 := by unfold codeA; rw [if_pos h]
theorem codeA_no {x : Asset} (h : ¬ okA x) : codeA x = 2 := by unfold codeA; rw [if_neg h]
theorem assetCheck (x : Asset) (w : World) : Calls Tryz.prog 197 #[.agg #[.int .i64 x.id, .int .i64 x.price, .int .i64 x.hair]] w fun e w' => e = .returned (.int .i64 (codeA x)) ∧ Below w.heap.size w w' := by
 obtain ⟨c, hc⟩ : ∃ c, c = codeA x := ⟨_, rfl⟩
 have HD := hid hc
 rw [← hc]
 clear hc
 obtain ⟨pb, hpb⟩ : ∃ pb, pb = pricedA x.price := ⟨_, rfl⟩
 have HPB := hid hpb
 have c1 := fun W => assetPriced x.price W
 rw [← hpb] at c1
 have C1 := hid c1
 clear c1 hpb
 cases pb
 all_goals
  go_enter Tryz.func197, Tryz.ntmps197
  go_wp2_with (first | (go_at_call 215; (with_reducible refine cM (C1.out _) fun w1 hb1 fc1 fg1 hc1 hf1 hz1 => ?_); try simp at hz1) | fail)
 all_goals
  go_ret
  refine ⟨?_, tB⟩
  have h1 := HPB.out
  unfold pricedA at h1
  simp at h1
  rw [HD.out]
  first
   | (rw [codeA_no (fun hk => by unfold okA at hk; omega)]; rfl)
   | (rw [codeA_yes (by unfold okA; omega)]; rfl)
   | fail
theorem ref12Is (x : Asset) (w : World) : Calls Tryz.prog 51 #[.agg #[.int .i64 x.id, .int .i64 x.price, .int .i64 x.hair]] w fun e w' => e = .returned (.bool (decide (okA x))) ∧ Below w.heap.size w w' := by
 obtain ⟨c, hc⟩ : ∃ c, c = decide (okA x) := ⟨_, rfl⟩
 have HD := hid hc
 rw [← hc]
 clear hc
 go_enter Tryz.func51, Tryz.ntmps51
 go_wp2_with fail
 all_goals
  go_ret
  refine ⟨?_, tB⟩
  rw [HD.out]
  first
   | (rw [decide_eq_false (p := okA x) (fun hk => by unfold okA at hk; omega)]; rfl)
   | (rw [decide_eq_true (p := okA x) (by unfold okA; omega)]; rfl)
   | (refine Eq.trans (b := Ending.returned (.bool (decide (x.hair < 10001)))) rfl ?_; refine ret_bool ?_; unfold okA; omega)
   | fail
/- Rows of bits, the lowest first: plain arithmetic. -/
def val : List Int → Int
 | [] => 0
 | b :: l => b + 2 * val l
def Bit (l : List Int) : Prop := ∀ b ∈ l, 0 ≤ b ∧ b ≤ 1
def Top (l : List Int) : Prop := ∀ b, l.getLast? = some b → b = 1
theorem top_nil : Top [] := fun b hb => by simp at hb
theorem bit_nil : Bit [] := fun b hb => by simp at hb
/- Contracts of the reference's rows of bits: plus, trim, Nat. -/
def encB (b : Int) : List Value := [.int .u8 b]
end Go.Proofs.YtalgfpegaobacaaGreatDoor
