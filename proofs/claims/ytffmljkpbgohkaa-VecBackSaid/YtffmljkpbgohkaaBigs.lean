/- Slices of the reference's whole numbers, read or owned. -/
import Derived.Test.YtffmljkpbgohkaaBig7
import Derived.Test.YtffmljkpbgohkaaSl
import Derived.Test.YtffmljkpbgohkaaStore
namespace Go.Proofs.Ytffmljkpbgohkaa
open Go.RowKit
/-- A value that is a whole number. -/
def BigV (w : World) (L : Nat) (v : Value) (n : Int) : Prop := ∃ s A l c, v = .agg #[.bool s, .slice A l.length c] ∧ IsBig w n s A l c ∧ l.length ≤ L
theorem BigV.keep {w w' : World} {L : Nat} {v : Value} {n : Int} (h : BigV w L v n) (hb : Below w.heap.size w w') : BigV w' L v n := by
  obtain ⟨s, A, l, c, h1, h2, h3⟩ := h
  exact ⟨s, A, l, c, h1, h2.keep hb, h3⟩
theorem BigV.mono {w : World} {L M : Nat} {v : Value} {n : Int} (h : BigV w L v n) (hL : L ≤ M) : BigV w M v n := by
  obtain ⟨s, A, l, c, h1, h2, h3⟩ := h
  exact ⟨s, A, l, c, h1, h2, by omega⟩
theorem isBig_zero (w : World) : IsBig w 0 false none [] 0 := ⟨fun i r hr => by simp at hr, bit_nil, top_nil, rfl, by simp, by simp, rfl⟩
theorem BigV.zero (w : World) (L : Nat) : BigV w L (.agg #[.bool false, .slice none 0 0]) 0 := ⟨false, none, [], 0, rfl, isBig_zero w, by simp⟩
/-- Two cells that hold a whole number. -/
def BigR (w : World) (L : Nat) (r : List Value) (n : Int) : Prop := ∃ s A l c, r = [.bool s, .slice A l.length c] ∧ IsBig w n s A l c ∧ l.length ≤ L
theorem BigR.keep {w w' : World} {L : Nat} {v : List Value} {n : Int} (h : BigR w L v n) (hb : Below w.heap.size w w') : BigR w' L v n := by
  obtain ⟨s, A, l, c, h1, h2, h3⟩ := h
  exact ⟨s, A, l, c, h1, h2.keep hb, h3⟩
theorem BigR.mono {w : World} {L M : Nat} {v : List Value} {n : Int} (h : BigR w L v n) (hL : L ≤ M) : BigR w M v n := by
  obtain ⟨s, A, l, c, h1, h2, h3⟩ := h
  exact ⟨s, A, l, c, h1, h2, by omega⟩
theorem BigR.far {w : World} {L : Nat} {r : List Value} {n : Int} (h : BigR w L r n) {p : Addr} {v0 : Value} (hp : w.cell? p = some v0) (hne : ∀ k x, v0 ≠ .int k x) (u : Value) : BigR (w.setCell p u) L r n := by
  obtain ⟨s, A, l, c, h1, h2, h3⟩ := h
  exact ⟨s, A, l, c, h1, h2.far hp hne u, h3⟩
/-- A slice of the call's own of whole numbers. -/
def OwnB (w : World) (base L : Nat) (v : Value) (ns : List Int) : Prop := ∃ rows, Each (BigR w L) rows ns ∧ Own w base 95 2 v rows
theorem OwnB.keep {w w' : World} {base L : Nat} {v : Value} {ns : List Int} (h : OwnB w base L v ns) (hb : Below w.heap.size w w') : OwnB w' base L v ns := by
  obtain ⟨rows, h1, h2⟩ := h
  exact ⟨rows, h1.imp fun _ _ h => h.keep hb, h2.keep hb⟩
theorem OwnB.mono {w : World} {base b L M : Nat} {v : Value} {ns : List Int} (h : OwnB w base L v ns) (hb : b ≤ base) (hL : L ≤ M) : OwnB w b M v ns := by
  obtain ⟨rows, h1, h2⟩ := h
  exact ⟨rows, h1.imp fun _ _ h => h.mono hL, h2.mono hb⟩
theorem OwnB.at {w : World} {base L : Nat} {g n c : Nat} {ns : List Int} (h : OwnB w base L (.slice (some ⟨g, 0, none⟩) n c) ns) {i : Nat} {x : Int} (hx : ns[i]? = some x) :
    ∃ s A l d, w.cell? ⟨g, i * 2, none⟩ = some (.bool s) ∧ w.cell? ⟨g, i * 2 + 1, none⟩ = some (.slice A l.length d) ∧ IsBig w x s A l d ∧ l.length ≤ L := by
  obtain ⟨rows, h1, h2⟩ := h
  obtain ⟨hi, rfl⟩ := List.getElem?_eq_some_iff.1 hx
  obtain ⟨r, hr, s, A, l, d, rfl, hB, hl⟩ := h1.get hi
  obtain ⟨b, o, hA, hb, hc⟩ := h2.rd.1 i _ hr
  injection hA with hA
  injection hA with e1 e2 _
  subst e1 e2
  have c0 := hc 0 _ rfl
  have c1 := hc 1 _ rfl
  simp only [Nat.zero_add, Nat.add_zero] at c0 c1
  exact ⟨s, A, l, d, c0, c1, hB, hl⟩
theorem OwnB.len {w : World} {base L : Nat} {A : Option Addr} {n c : Nat} {ns : List Int} (h : OwnB w base L (.slice A n c) ns) : n = ns.length ∧ n ≤ c ∧ c ≤ maxLen := by
  obtain ⟨rows, h1, h2⟩ := h
  have h3 := h2.rd
  exact ⟨h3.2.1.trans h1.len, by omega, h3.2.2.2⟩
theorem OwnB.frozen {w : World} {base L : Nat} {g n c : Nat} {ns : List Int} (h : OwnB w base L (.slice (some ⟨g, 0, none⟩) n c) ns) : (∀ i, w.frozen? ⟨g, i, none⟩ = false) ∧ base ≤ g ∧ g < w.heap.size := by
  obtain ⟨rows, h1, h2⟩ := h
  obtain ⟨cur, hk⟩ := h2.blk rfl
  have h3 := h2.block g rfl
  exact ⟨fun i => hk.frozen i, h3⟩
/-- A store of a whole number at place i. -/
theorem OwnB.store {w : World} {base L M : Nat} {g n c : Nat} {ns : List Int} (h : OwnB w base L (.slice (some ⟨g, 0, none⟩) n c) ns) {i : Nat} (hi : i < ns.length) {s : Bool} {A : Option Addr} {l : List Int} {d : Nat} {x : Int} (hB : IsBig w x s A l d) (hl : l.length ≤ M) (hL : L ≤ M) :
    OwnB ((w.setCell ⟨g, i * 2, none⟩ (.bool s)).setCell ⟨g, i * 2 + 1, none⟩ (.slice A l.length d)) base M (.slice (some ⟨g, 0, none⟩) n c) (ns.set i x) := by
  obtain ⟨s0, A0, l0, d0, c0, c1, _, _⟩ := h.at (List.getElem?_eq_getElem hi)
  obtain ⟨rows, h1, h2⟩ := h
  have hi' : i < rows.length := by rw [h1.len]; exact hi
  have hr := h2.1 _ (List.getElem_mem hi')
  obtain ⟨p, q, he⟩ : ∃ p q, rows[i] = [p, q] := by
    match h4 : rows[i], hr with
    | [p, q], _ => exact ⟨p, q, rfl⟩
  have k1 := h2.put rfl (List.getElem?_eq_getElem hi') (show 0 < 2 from by omega) (.bool s)
  have k2 := k1.put rfl (List.getElem?_set_self (by simpa using hi')) (show 1 < 2 from by omega) (.slice A l.length d)
  simp only [List.set_set, he, List.set_cons_zero, List.set_cons_succ, Nat.add_zero] at k2
  have c1' : (w.setCell ⟨g, i * 2, none⟩ (.bool s)).cell? ⟨g, i * 2 + 1, none⟩ = some (.slice A0 l0.length d0) := by
    rw [World.cell?_setCell_other _ _ _ _ (by intro e; injection e with _ e _; omega)]; exact c1
  refine ⟨_, ⟨by rw [List.length_set, List.length_set, h1.len], fun j a b ha hb => ?_⟩, k2⟩
  rw [List.getElem?_set] at ha hb
  split at ha
  · rename_i e
    subst e
    try rw [if_pos hi'] at ha
    rw [if_pos rfl, if_pos hi] at hb
    injection ha with ha
    injection hb with hb
    subst ha hb
    exact ⟨s, A, l, d, rfl, (hB.far c0 (by simp) _).far c1' (by simp) _, hl⟩
  · rename_i e
    rw [if_neg e] at hb
    exact (((h1.pt j a b ha hb).far c0 (by simp) _).far c1' (by simp) _).mono hL
/-- Noughts, made as a literal. -/
theorem ownB_zeros (w : World) (n : Nat) (hn : n ≤ maxLen) (cs : Array Value) (hcs : cs = ((List.replicate n [Value.bool false, .slice none 0 0]).flatten).toArray) {base : Nat} (hb : base ≤ w.heap.size) (L : Nat) :
    OwnB (w.alloc (.cells cs 95)) base L (.slice (some ⟨w.heap.size, 0, none⟩) n n) (List.replicate n 0) := by
  have hall : ∀ r ∈ List.replicate n [Value.bool false, .slice none 0 0], r.length = 2 := by
    intro r hr; rw [List.eq_of_mem_replicate hr]; rfl
  refine ⟨List.replicate n [.bool false, .slice none 0 0], ⟨by simp, fun i a b h1 h2 => ?_⟩, hall, ?_, .inr ⟨w.heap.size, n, cs, by simp, hb, heap_alloc_new w _, by simp, hn, ?_, ?_⟩⟩
  · have e1 := List.eq_of_mem_replicate (List.mem_of_getElem? h1)
    have e2 := List.eq_of_mem_replicate (List.mem_of_getElem? h2)
    subst e1 e2
    exact ⟨false, none, [], 0, rfl, isBig_zero _, by simp⟩
  · rw [flatten_length hall]
  · rw [hcs]; simp only [List.size_toArray]; rw [flatten_length hall]; simp
  · rw [hcs]
    simp only []
    rw [List.take_of_length_le]
    rw [flatten_length hall]; exact Nat.le_refl _
end Go.Proofs.Ytffmljkpbgohkaa
