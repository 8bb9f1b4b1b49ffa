/- Shares, plain: quotas, and one more each by remainders: in whatever way the greatest are found. No program in sight. -/
import Derived.Test.YtenehpcliajdnaaWhile
import Derived.Test.YtenehpcliajdnaaWide2
namespace Go.Proofs.Ytenehpcliajdnaa
open Go.RowKit
structure Quo where
  pos : Int
  part : Int
  left : Int
  deriving DecidableEq
def encQuo (x : Quo) : List Value := [.int .i64 x.pos, .int .i64 x.part, .int .i64 x.left]
def okQuo (x : Quo) : Prop := In64 x.pos ∧ In64 x.part ∧ In64 x.left
theorem rowsQuo (l : List Quo) : ∀ r ∈ l.map encQuo, r.length = 3 ∧ ∀ u ∈ r, u.oneCell' = true := by
  intro r hr
  obtain ⟨m, _, rfl⟩ := List.mem_map.1 hr
  refine ⟨rfl, ?_⟩
  simp only [encQuo, List.mem_cons, List.not_mem_nil, or_false, forall_eq_or_imp, forall_eq]
  exact ⟨rfl, rfl, rfl⟩
theorem encQuo_inj {x y : Quo} (h : encQuo x = encQuo y) : x = y := by
  unfold encQuo at h
  simp only [List.cons.injEq, Value.int.injEq, and_true, true_and] at h
  obtain ⟨h0, h1, h2⟩ := h
  obtain ⟨xpos, xpart, xleft⟩ := x
  obtain ⟨ypos, ypart, yleft⟩ := y
  simp only at h0 h1 h2
  subst h0 h1 h2
  rfl
theorem neqQuo {x y : Quo} (h : x ≠ y) : ((x.pos == y.pos) = false) ∨ ((x.part == y.part) = false) ∨ ((x.left == y.left) = false) := by
  cases h0 : (x.pos == y.pos)
  · simp
  cases h1 : (x.part == y.part)
  · simp
  cases h2 : (x.left == y.left)
  · simp
  · exfalso
    apply h
    obtain ⟨xpos, xpart, xleft⟩ := x
    obtain ⟨ypos, ypart, yleft⟩ := y
    simp_all
/-- The quotas of weights, the first of which is number k. -/
def quoF (T S : Int) : Nat → List Int → List Quo
  | _, [] => []
  | k, x :: t => ⟨k, T * x / S, T * x % S⟩ :: quoF T S (k + 1) t
theorem quoF_len (T S : Int) : ∀ (l : List Int) (k : Nat), (quoF T S k l).length = l.length
  | [], _ => rfl
  | x :: t, k => by simp [quoF, quoF_len T S t]
theorem quoF_get (T S : Int) : ∀ (l : List Int) (k i : Nat) (h : i < l.length), (quoF T S k l)[i]? = some ⟨(k + i : Nat), T * l[i] / S, T * l[i] % S⟩
  | x :: t, k, 0, _ => by simp [quoF]
  | x :: t, k, i + 1, h => by
    have := quoF_get T S t (k + 1) i (by simpa using h)
    simp only [quoF, List.getElem?_cons_succ, List.getElem_cons_succ]
    rw [this, show k + 1 + i = k + (i + 1) from by omega]
def partL (T S : Int) (l : List Int) : List Int := l.map fun x => T * x / S
def leftL (T S : Int) (l : List Int) : List Int := l.map fun x => T * x % S
theorem quoF_sums (T S : Int) : ∀ (l : List Int) (k : Nat), ((quoF T S k l).map (·.left)).sum = (leftL T S l).sum ∧ ((quoF T S k l).map (·.part)).sum = (partL T S l).sum
  | [], _ => by simp [quoF, leftL, partL]
  | x :: t, k => by
    have h := quoF_sums T S t (k + 1)
    simp only [quoF, leftL, partL, List.map_cons, List.sum_cons] at h ⊢
    omega
theorem quoF_all (T S : Int) : ∀ (l : List Int), (partL T S l).sum * S + (leftL T S l).sum = T * l.sum
  | [] => by simp [partL, leftL]
  | x :: t => by
    have h := quoF_all T S t
    have h1 := Int.mul_ediv_add_emod (T * x) S
    simp only [partL, leftL, List.map_cons, List.sum_cons] at h ⊢
    rw [Int.add_mul, Int.mul_add, Int.mul_comm (T * x / S) S]
    omega
theorem leftL_bound {S : Int} (hS : 0 < S) (T : Int) : ∀ (l : List Int), ∀ z ∈ leftL T S l, 0 ≤ z ∧ z < S := by
  intro l z hz
  obtain ⟨x, _, rfl⟩ := List.mem_map.1 hz
  exact ⟨Int.emod_nonneg _ (by omega), Int.emod_lt_of_pos _ hS⟩
theorem sum_nonneg' : ∀ {l : List Int} (_ : ∀ z ∈ l, 0 ≤ z), 0 ≤ l.sum
  | [], _ => by simp
  | x :: t, h => by
    have h1 := sum_nonneg' (l := t) fun z hz => h z (by simp [hz])
    have h2 := h x (by simp)
    simp only [List.sum_cons]; omega
/-- Who is first to get one more. -/
def aheadQ (x y : Quo) : Bool := decide (y.left < x.left) || (x.left == y.left && decide (x.pos < y.pos))
theorem aheadQ_iff {x y : Quo} : aheadQ x y = true ↔ y.left < x.left ∨ (x.left = y.left ∧ x.pos < y.pos) := by
  unfold aheadQ; simp
def addAt (P : List Int) (i : Nat) : List Int := P.set i (P.getD i 0 + 1)
def give (P : List Int) : List Quo → List Int
  | [] => P
  | x :: t => give (addAt P x.pos.toNat) t
/-- The first of the greatest. -/
def bestN (l : List Int) : Nat → Nat
  | 0 => 0
  | k + 1 => if l.getD (bestN l k) 0 < l.getD k 0 then k else bestN l k
theorem bestN_spec (l : List Int) : ∀ (k : Nat), (∀ i, i < k → l.getD i 0 ≤ l.getD (bestN l k) 0) ∧ (∀ i, i < bestN l k → l.getD i 0 < l.getD (bestN l k) 0) ∧ (bestN l k = 0 ∨ bestN l k < k)
  | 0 => ⟨fun i h => absurd h (by omega), fun i h => absurd h (by simp [bestN]), .inl rfl⟩
  | k + 1 => by
    obtain ⟨h1, h2, h3⟩ := bestN_spec l k
    unfold bestN
    by_cases h : l.getD (bestN l k) 0 < l.getD k 0
    · rw [if_pos h]
      refine ⟨fun i hi => ?_, fun i hi => ?_, .inr (by omega)⟩
      · rcases Nat.lt_or_ge i k with hk | hk
        · have := h1 i hk; omega
        · obtain rfl : i = k := by omega
          omega
      · have := h1 i hi; omega
    · rw [if_neg h]
      refine ⟨fun i hi => ?_, h2, by omega⟩
      rcases Nat.lt_or_ge i k with hk | hk
      · exact h1 i hk
      · obtain rfl : i = k := by omega
        omega
theorem best_is {l : List Int} {b : Nat} (hb : b < l.length) (h1 : ∀ i, i < l.length → l.getD i 0 ≤ l.getD b 0) (h2 : ∀ i, i < b → l.getD i 0 < l.getD b 0) : bestN l l.length = b := by
  obtain ⟨g1, g2, g3⟩ := bestN_spec l l.length
  rcases Nat.lt_trichotomy (bestN l l.length) b with h | h | h
  · have := h2 _ h
    have := g1 b hb
    omega
  · exact h
  · have := g2 _ h
    have := h1 (bestN l l.length) (by omega)
    omega
def refGive : Nat → List Int → List Int → List Int
  | 0, P, _ => P
  | n + 1, P, L => refGive n (addAt P (bestN L L.length)) (L.set (bestN L L.length) 0)
/-- One more each, by the row that goes ahead, is one more each by the greatest remainders. -/
theorem give_eq : ∀ (m : Nat) (S : List Quo) (P L : List Int) (_ : S.Pairwise (fun x y => aheadQ x y = true)) (_ : S.Pairwise (fun x y => x.pos ≠ y.pos))
    (_ : ∀ x ∈ S, 0 ≤ x.pos ∧ x.pos.toNat < L.length ∧ L.getD x.pos.toNat 0 = x.left) (_ : ∀ i, i < L.length → (∃ x ∈ S, x.pos = i) ∨ L.getD i 0 = 0) (_ : ∀ x ∈ S.take m, 0 < x.left) (_ : m ≤ S.length),
    refGive m P L = give P (S.take m)
  | 0, S, P, L, _, _, _, _, _, _ => by simp [refGive, give]
  | m + 1, [], P, L, _, _, _, _, _, hm => by simp at hm
  | m + 1, x :: t, P, L, h1, h2, h3, h4, h5, hm => by
    rw [List.pairwise_cons] at h1 h2
    obtain ⟨x0, x1, x2⟩ := h3 x (by simp)
    have hx : 0 < x.left := h5 x (by simp)
    have hb : bestN L L.length = x.pos.toNat := by
      refine best_is x1 (fun i hi => ?_) (fun i hi => ?_)
      · rw [x2]
        rcases h4 i hi with ⟨y, hy, he⟩ | h0
        · have := (h3 y hy).2.2
          rw [he] at this
          simp at this
          rw [show L.getD i 0 = y.left from by simpa using this]
          rcases List.mem_cons.1 hy with rfl | hy
          · omega
          · have := aheadQ_iff.1 (h1.1 y hy); omega
        · omega
      · rw [x2]
        rcases h4 i (by omega) with ⟨y, hy, he⟩ | h0
        · have := (h3 y hy).2.2
          rw [he] at this
          simp at this
          rw [show L.getD i 0 = y.left from by simpa using this]
          rcases List.mem_cons.1 hy with rfl | hy
          · omega
          · have := aheadQ_iff.1 (h1.1 y hy); omega
        · omega
    have ih := give_eq m t (addAt P x.pos.toNat) (L.set x.pos.toNat 0) h1.2 h2.2 (fun y hy => ?_) (fun i hi => ?_) (fun y hy => h5 y (by simp [hy])) (by simpa using hm)
    · rw [List.take_succ_cons]
      unfold refGive give
      rw [hb]
      exact ih
    · obtain ⟨y0, y1, y2⟩ := h3 y (by simp [hy])
      have hne := h2.1 y hy
      refine ⟨y0, by simpa using y1, ?_⟩
      rw [List.getD_eq_getElem?_getD, List.getElem?_set_ne (by omega), ← List.getD_eq_getElem?_getD]
      exact y2
    · rw [List.length_set] at hi
      by_cases hix : i = x.pos.toNat
      · right
        subst hix
        rw [List.getD_eq_getElem?_getD, List.getElem?_set_self x1]; rfl
      · rcases h4 i hi with ⟨y, hy, he⟩ | h0
        · rcases List.mem_cons.1 hy with rfl | hy
          · exact absurd (by omega) hix
          · exact .inl ⟨y, hy, he⟩
        · right
          rw [List.getD_eq_getElem?_getD, List.getElem?_set_ne (by omega), ← List.getD_eq_getElem?_getD]
          exact h0
end Go.Proofs.Ytenehpcliajdnaa
