/- Plain lists: where a test ends. -/
import Derived.Test.YtenehpcliajdnaaSl
import Derived.Test.YtenehpcliajdnaaRowL
namespace Go.Proofs.Ytenehpcliajdnaa
open Go.RowKit
theorem while_cut {α : Type} {p : α → Bool} : ∀ {l : List α} {k : Nat} (_ : ∀ j (_ : j < l.length), j < k → p l[j] = true) (_ : k ≤ l.length) (_ : ∀ h : k < l.length, p l[k] = false), l.takeWhile p = l.take k ∧ l.dropWhile p = l.drop k
  | [], k, _, hk, _ => by simp at hk; subst hk; simp
  | a :: l, 0, _, _, h => by have := h (by simp); simp at this; simp [this]
  | a :: l, k + 1, h, hk, hn => by
    have h0 := h 0 (by simp) (by omega)
    simp at h0
    have := while_cut (p := p) (l := l) (k := k) (fun j hj hjk => by have := h (j + 1) (by simp; omega) (by omega); simpa using this) (by simpa using hk) (fun hk' => by have := hn (by simp; omega); simpa using this)
    simp [h0, this.1, this.2]
theorem rd_oneN {w : World} {cs : Array Value} {t : TypeId} {n k : Nat} (h : n = w.heap.size) : Rd (w.alloc (.cells cs t)) (some ⟨n, 0, none⟩) k [cs.toList] := by subst h; exact rd_one
/-- Whether what stands at a place meets a test. -/
def atB {α : Type} (p : α → Bool) (l : List α) (n : Nat) : Bool := match l[n]? with | some x => p x | none => false
theorem atB_some {α : Type} {p : α → Bool} {l : List α} {n : Nat} (h : n < l.length) : atB p l n = p l[n] := by
  unfold atB; rw [List.getElem?_eq_getElem h]
theorem atB_none {α : Type} {p : α → Bool} {l : List α} {n : Nat} (h : l.length ≤ n) : atB p l n = false := by
  unfold atB; rw [List.getElem?_eq_none h]
theorem tw_take {α : Type} (p : α → Bool) (l : List α) : l.takeWhile p = l.take (l.takeWhile p).length := by
  have h := List.takeWhile_append_dropWhile (p := p) (l := l)
  have h2 := congrArg (List.take (l.takeWhile p).length) h
  rw [List.take_left] at h2
  exact h2
theorem dw_drop {α : Type} (p : α → Bool) (l : List α) : l.dropWhile p = l.drop (l.takeWhile p).length := by
  have h := List.takeWhile_append_dropWhile (p := p) (l := l)
  have h2 := congrArg (List.drop (l.takeWhile p).length) h
  rw [List.drop_left] at h2
  exact h2
theorem tw_len {α : Type} (p : α → Bool) (l : List α) : (l.takeWhile p).length ≤ l.length := by
  have h := congrArg List.length (tw_take p l)
  rw [List.length_take] at h; omega
/-- A slice that a struct holds: its address, its room, and what it reads as. -/
structure SlOf (α : Type) where
  A : Option Addr
  c : Nat
  val : List α
  deriving DecidableEq
theorem rowsJ (l : List Int) : ∀ r ∈ l.map encI, r.length = 1 ∧ ∀ u ∈ r, u.oneCell' = true := by
  intro r hr
  obtain ⟨m, _, rfl⟩ := List.mem_map.1 hr
  exact ⟨rfl, by simp [encI]; rfl⟩
end Go.Proofs.Ytenehpcliajdnaa
