/- A slice that reads as a list, whatever it holds. No program in sight. -/
import Derived.Test.YtenehpcliajdnaaOwn
namespace Go.Proofs.Ytenehpcliajdnaa
open Go.RowKit
/-- The slice (A, rows.length, c) reads as these rows of k cells each. -/
structure Rs (w : World) (k : Nat) (rows : List (List Value)) (A : Option Addr) (c : Nat) : Prop where
  rd : Rd w A k rows
  cap : rows.length ≤ c
  room : c ≤ maxLen
  nil : A = none → c = 0
section
variable {w w' : World} {k : Nat} {rows : List (List Value)} {A : Option Addr} {c : Nat}
theorem Rs.keep (h : Rs w k rows A c) (hb : Below w.heap.size w w') : Rs w' k rows A c := ⟨h.rd.keep hb, h.cap, h.room, h.nil⟩
theorem Rs.empty (w : World) (k : Nat) : Rs w k [] .none 0 := ⟨fun i r hr => by simp at hr, by simp, by simp, fun _ => rfl⟩
theorem Rs.nilrows (h : Rs w k rows .none c) : rows = [] := by
  have := h.nil rfl
  have h1 := h.cap
  exact List.eq_nil_of_length_eq_zero (by omega)
theorem Own.rs {base E : Nat} {v : Value} (h : Own w base E k v rows) : ∃ A c, v = .slice A rows.length c ∧ Rs w k rows A c ∧ ((A = .none ∧ rows = [] ∧ c = 0) ∨ ∃ g, A = some ⟨g, 0, .none⟩ ∧ base ≤ g ∧ g < w.heap.size) := by
  rcases h.2.2 with ⟨hv, h0⟩ | ⟨g, cap, cur, hv, hg, hh, hc, hm, hs, ht⟩
  · have : rows = [] := List.eq_nil_of_length_eq_zero h0
    subst this
    exact ⟨.none, 0, hv, Rs.empty _ _, .inl ⟨rfl, rfl, rfl⟩⟩
  · have hlt := (Array.getElem?_eq_some_iff.1 hh).1
    have hrd := h
    rw [hv] at hrd
    exact ⟨_, cap, hv, ⟨hrd.rd.1, hc, hm, fun e => by cases e⟩, .inr ⟨g, rfl, hg, hlt⟩⟩
end
theorem rd_take' {w : World} {A : Option Addr} {k : Nat} {rows : List (List Value)} (h : Rd w A k rows) (n : Nat) : Rd w A k (rows.take n) := by
  intro i r hr
  refine h i r ?_
  rw [List.getElem?_take] at hr
  split at hr
  · exact hr
  · cases hr
theorem Rs.take {w : World} {k : Nat} {rows : List (List Value)} {A : Option Addr} {c : Nat} (h : Rs w k rows A c) (n : Nat) : Rs w k (rows.take n) A c := ⟨rd_take' h.rd n, by have := h.cap; rw [List.length_take]; omega, h.room, h.nil⟩
theorem drop_cons' {α : Type} {l : List α} {k : Nat} (h : k < l.length) : l.drop k = l[k] :: l.drop (k + 1) := List.drop_eq_getElem_cons h
theorem drop_all {α : Type} {l : List α} {k : Nat} (h : l.length ≤ k) : l.drop k = [] := List.drop_eq_nil_of_le h
theorem map_snoc {α β : Type} {l : List α} {k : Nat} (h : k < l.length) (f : α → β) : (l.take (k + 1)).map f = (l.take k).map f ++ [f l[k]] := by
  rw [List.take_succ_eq_append_getElem h, List.map_append]; rfl
theorem getD_at {α : Type} {l : List α} {k : Nat} (h : k < l.length) (d : α) : l.getD k d = l[k] := by simp [List.getD_eq_getElem?_getD, h]
/-- Of 64 bits. -/
def in64 (n : Int) : Bool := decide (-9223372036854775808 ≤ n ∧ n ≤ 9223372036854775807)
theorem in64_iff {n : Int} : in64 n = true ↔ In64 n := by simp [in64, In64]
theorem in64_no {n : Int} (h : in64 n = false) : ¬ In64 n := fun h1 => by rw [in64_iff.2 h1] at h; cases h
/-- Two lists, place by place. -/
structure Each {α β : Type} (R : α → β → Prop) (us : List α) (bs : List β) : Prop where
  len : us.length = bs.length
  pt : ∀ (i : Nat) (a : α) (b : β), us[i]? = some a → bs[i]? = some b → R a b
theorem Each.nil {α β : Type} (R : α → β → Prop) : Each R [] [] := ⟨rfl, fun i a b h => by simp at h⟩
theorem Each.get {α β : Type} {R : α → β → Prop} {us : List α} {bs : List β} (h : Each R us bs) {i : Nat} (hi : i < bs.length) : ∃ a, us[i]? = some a ∧ R a bs[i] :=
  ⟨us[i]'(by rw [h.len]; exact hi), List.getElem?_eq_getElem _, h.pt i _ _ (List.getElem?_eq_getElem _) (List.getElem?_eq_getElem hi)⟩
theorem Each.imp {α β : Type} {R Q : α → β → Prop} {us : List α} {bs : List β} (h : Each R us bs) (f : ∀ a b, R a b → Q a b) : Each Q us bs := ⟨h.len, fun i a b h1 h2 => f a b (h.pt i a b h1 h2)⟩
theorem Each.take {α β : Type} {R : α → β → Prop} {us : List α} {bs : List β} (h : Each R us bs) (n : Nat) : Each R (us.take n) (bs.take n) := by
  refine ⟨by rw [List.length_take, List.length_take, h.len], fun i a b h1 h2 => ?_⟩
  rw [List.getElem?_take] at h1 h2
  split at h1
  · rename_i hi; rw [if_pos hi] at h2; exact h.pt i a b h1 h2
  · cases h1
theorem Each.append {α β : Type} {R : α → β → Prop} {us cs : List α} {bs ds : List β} (h : Each R us bs) (k : Each R cs ds) : Each R (us ++ cs) (bs ++ ds) := by
  refine ⟨by rw [List.length_append, List.length_append, h.len, k.len], fun i a b h1 h2 => ?_⟩
  rcases Nat.lt_or_ge i us.length with hi | hi
  · rw [List.getElem?_append_left hi] at h1
    rw [List.getElem?_append_left (by rw [← h.len]; exact hi)] at h2
    exact h.pt i a b h1 h2
  · rw [List.getElem?_append_right hi] at h1
    rw [List.getElem?_append_right (by rw [← h.len]; exact hi), ← h.len] at h2
    exact k.pt _ a b h1 h2
theorem Each.one {α β : Type} {R : α → β → Prop} {a : α} {b : β} (h : R a b) : Each R [a] [b] := by
  refine ⟨rfl, fun i x y h1 h2 => ?_⟩
  match i with
  | 0 => simp at h1 h2; subst h1 h2; exact h
  | i + 1 => simp at h1
/-- A slice of slices: what each reads as. -/
def IsSl {α : Type} (k : Nat) (enc : α → List Value) (w : World) (v : Value) (l : List α) : Prop := ∃ A c, v = .slice A l.length c ∧ Rs w k (l.map enc) A c
theorem IsSl.keep {α : Type} {k : Nat} {enc : α → List Value} {w w' : World} {v : Value} {l : List α} (h : IsSl k enc w v l) (hb : Below w.heap.size w w') : IsSl k enc w' v l := by
  obtain ⟨A, c, h1, h2⟩ := h
  exact ⟨A, c, h1, h2.keep hb⟩
theorem isl {α : Type} {k : Nat} {enc : α → List Value} {w : World} {l : List α} {A : Option Addr} {c : Nat} (h : Rs w k (l.map enc) A c) : IsSl k enc w (.slice A l.length c) l := ⟨A, c, rfl, h⟩
theorem IsSl.empty {α : Type} (k : Nat) (enc : α → List Value) (w : World) : IsSl k enc w (.slice .none 0 0) [] := ⟨.none, 0, rfl, Rs.empty _ _⟩
theorem Own.isSl {α : Type} {k base E : Nat} {enc : α → List Value} {w : World} {v : Value} {l : List α} (h : Own w base E k v (l.map enc)) : IsSl k enc w v l := by
  obtain ⟨A, c, h1, h2, _⟩ := h.rs
  rw [List.length_map] at h1
  exact ⟨A, c, h1, h2⟩
/-- One cell each. -/
def enc1 (v : Value) : List Value := [v]
/-- The slice (A, n, c) holds slices that read as ls. -/
structure RsS {α : Type} (k : Nat) (enc : α → List Value) (w : World) (ls : List (List α)) (A : Option Addr) (c : Nat) : Prop where
  ex : ∃ vs : List Value, Each (IsSl k enc w) vs ls ∧ Rs w 1 (vs.map enc1) A c
theorem RsS.keep {α : Type} {k : Nat} {enc : α → List Value} {w w' : World} {ls : List (List α)} {A : Option Addr} {c : Nat} (h : RsS k enc w ls A c) (hb : Below w.heap.size w w') : RsS k enc w' ls A c := by
  obtain ⟨vs, h1, h2⟩ := h.ex
  exact ⟨vs, h1.imp fun _ _ h => h.keep hb, h2.keep hb⟩
theorem RsS.row {α : Type} {k : Nat} {enc : α → List Value} {w : World} {ls : List (List α)} {A : Option Addr} {c : Nat} (h : RsS k enc w ls A c) {i : Nat} (hi : i < ls.length) :
    ∃ b o B d, A = some ⟨b, o, none⟩ ∧ b < w.heap.size ∧ w.cell? ⟨b, o + i, none⟩ = some (.slice B ls[i].length d) ∧ Rs w k (ls[i].map enc) B d := by
  obtain ⟨vs, h1, h2⟩ := h.ex
  obtain ⟨v, hv, B, d, rfl, hr⟩ := h1.get hi
  obtain ⟨b, o, hA, hb, hc⟩ := h2.rd i [.slice B ls[i].length d] (by rw [List.getElem?_map, hv]; rfl)
  exact ⟨b, o, B, d, hA, hb, by simpa using hc 0 _ rfl, hr⟩
end Go.Proofs.Ytenehpcliajdnaa
