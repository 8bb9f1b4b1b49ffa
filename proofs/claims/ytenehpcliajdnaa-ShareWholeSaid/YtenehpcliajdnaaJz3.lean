/- Joined: ShrP, ShrQ, ShrR, List, Shr3, Wide4, Wide5, Fix1. -/
import Derived.Test.YtenehpcliajdnaaJz2
import Derived.Test.YtenehpcliajdnaaJz1
import Derived.Test.YtenehpcliajdnaaRows
import Derived.Deep.RegionHeld3
import Derived.BigQuiet
/- Shares, plain: quotas, and one more each by remainders: in whatever way the greatest are found. No program in sight. -/
namespace Go.Proofs.Ytenehpcliajdnaa
open Go.RowKit
structure Quo where
  pos : Int
  part : Int
  left : Int
  deriving DecidableEq
def encQuo (x : Quo) : List Value := [.int .i64 x.pos, .int .i64 x.part, .int .i64 x.left]
def okQuo (x : Quo) : Prop := In64 x.pos ∧ In64 x.part ∧ In64 x.left
theorem rowsQuo (l : List Quo) : ∀ r ∈ l.map encQuo, r.length = 3 ∧ ∀ u ∈ r, u.oneCell' = true := by
  intro r hr
  obtain ⟨m, _, rfl⟩ := List.mem_map.1 hr
  refine ⟨rfl, ?_⟩
  simp only [encQuo, List.mem_cons, List.not_mem_nil, or_false, forall_eq_or_imp, forall_eq]
  exact ⟨rfl, rfl, rfl⟩
theorem encQuo_inj {x y : Quo} (h : encQuo x = encQuo y) : x = y := by
  unfold encQuo at h
  simp only [List.cons.injEq, Value.int.injEq, and_true, true_and] at h
  obtain ⟨h0, h1, h2⟩ := h
  obtain ⟨xpos, xpart, xleft⟩ := x
  obtain ⟨ypos, ypart, yleft⟩ := y
  simp only at h0 h1 h2
  subst h0 h1 h2
  rfl
theorem neqQuo {x y : Quo} (h : x ≠ y) : ((x.pos == y.pos) = false) ∨ ((x.part == y.part) = false) ∨ ((x.left == y.left) = false) := by
  cases h0 : (x.pos == y.pos)
  · simp
  cases h1 : (x.part == y.part)
  · simp
  cases h2 : (x.left == y.left)
  · simp
  · exfalso
    apply h
    obtain ⟨xpos, xpart, xleft⟩ := x
    obtain ⟨ypos, ypart, yleft⟩ := y
    simp_all
/-- The quotas of weights, the first of which is number k. -/
def quoF (T S : Int) : Nat → List Int → List Quo
  | _, [] => []
  | k, x :: t => ⟨k, T * x / S, T * x % S⟩ :: quoF T S (k + 1) t
theorem quoF_len (T S : Int) : ∀ (l : List Int) (k : Nat), (quoF T S k l).length = l.length
  | [], _ => rfl
  | x :: t, k => by simp [quoF, quoF_len T S t]
theorem quoF_get (T S : Int) : ∀ (l : List Int) (k i : Nat) (h : i < l.length), (quoF T S k l)[i]? = some ⟨(k + i : Nat), T * l[i] / S, T * l[i] % S⟩
  | x :: t, k, 0, _ => by simp [quoF]
  | x :: t, k, i + 1, h => by
    have := quoF_get T S t (k + 1) i (by simpa using h)
    simp only [quoF, List.getElem?_cons_succ, List.getElem_cons_succ]
    rw [this, show k + 1 + i = k + (i + 1) from by omega]
def partL (T S : Int) (l : List Int) : List Int := l.map fun x => T * x / S
def leftL (T S : Int) (l : List Int) : List Int := l.map fun x => T * x % S
theorem quoF_sums (T S : Int) : ∀ (l : List Int) (k : Nat), ((quoF T S k l).map (·.left)).sum = (leftL T S l).sum ∧ ((quoF T S k l).map (·.part)).sum = (partL T S l).sum
  | [], _ => by simp [quoF, leftL, partL]
  | x :: t, k => by
    have h := quoF_sums T S t (k + 1)
    simp only [quoF, leftL, partL, List.map_cons, List.sum_cons] at h ⊢
    omega
theorem quoF_all (T S : Int) : ∀ (l : List Int), (partL T S l).sum * S + (leftL T S l).sum = T * l.sum
  | [] => by simp [partL, leftL]
  | x :: t => by
    have h := quoF_all T S t
    have h1 := Int.mul_ediv_add_emod (T * x) S
    simp only [partL, leftL, List.map_cons, List.sum_cons] at h ⊢
    rw [Int.add_mul, Int.mul_add, Int.mul_comm (T * x / S) S]
    omega
theorem leftL_bound {S : Int} (hS : 0 < S) (T : Int) : ∀ (l : List Int), ∀ z ∈ leftL T S l, 0 ≤ z ∧ z < S := by
  intro l z hz
  obtain ⟨x, _, rfl⟩ := List.mem_map.1 hz
  exact ⟨Int.emod_nonneg _ (by omega), Int.emod_lt_of_pos _ hS⟩
theorem sum_nonneg' : ∀ {l : List Int} (_ : ∀ z ∈ l, 0 ≤ z), 0 ≤ l.sum
  | [], _ => by simp
  | x :: t, h => by
    have h1 := sum_nonneg' (l := t) fun z hz => h z (by simp [hz])
    have h2 := h x (by simp)
    simp only [List.sum_cons]; omega
/-- Who is first to get one more. -/
def aheadQ (x y : Quo) : Bool := decide (y.left < x.left) || (x.left == y.left && decide (x.pos < y.pos))
theorem aheadQ_iff {x y : Quo} : aheadQ x y = true ↔ y.left < x.left ∨ (x.left = y.left ∧ x.pos < y.pos) := by
  unfold aheadQ; simp
def addAt (P : List Int) (i : Nat) : List Int := P.set i (P.getD i 0 + 1)
def give (P : List Int) : List Quo → List Int
  | [] => P
  | x :: t => give (addAt P x.pos.toNat) t
/-- The first of the greatest. -/
def bestN (l : List Int) : Nat → Nat
  | 0 => 0
  | k + 1 => if l.getD (bestN l k) 0 < l.getD k 0 then k else bestN l k
theorem bestN_spec (l : List Int) : ∀ (k : Nat), (∀ i, i < k → l.getD i 0 ≤ l.getD (bestN l k) 0) ∧ (∀ i, i < bestN l k → l.getD i 0 < l.getD (bestN l k) 0) ∧ (bestN l k = 0 ∨ bestN l k < k)
  | 0 => ⟨fun i h => absurd h (by omega), fun i h => absurd h (by simp [bestN]), .inl rfl⟩
  | k + 1 => by
    obtain ⟨h1, h2, h3⟩ := bestN_spec l k
    unfold bestN
    by_cases h : l.getD (bestN l k) 0 < l.getD k 0
    · rw [if_pos h]
      refine ⟨fun i hi => ?_, fun i hi => ?_, .inr (by omega)⟩
      · rcases Nat.lt_or_ge i k with hk | hk
        · have := h1 i hk; omega
        · obtain rfl : i = k := by omega
          omega
      · have := h1 i hi; omega
    · rw [if_neg h]
      refine ⟨fun i hi => ?_, h2, by omega⟩
      rcases Nat.lt_or_ge i k with hk | hk
      · exact h1 i hk
      · obtain rfl : i = k := by omega
        omega
theorem best_is {l : List Int} {b : Nat} (hb : b < l.length) (h1 : ∀ i, i < l.length → l.getD i 0 ≤ l.getD b 0) (h2 : ∀ i, i < b → l.getD i 0 < l.getD b 0) : bestN l l.length = b := by
  obtain ⟨g1, g2, g3⟩ := bestN_spec l l.length
  rcases Nat.lt_trichotomy (bestN l l.length) b with h | h | h
  · have := h2 _ h
    have := g1 b hb
    omega
  · exact h
  · have := g2 _ h
    have := h1 (bestN l l.length) (by omega)
    omega
def refGive : Nat → List Int → List Int → List Int
  | 0, P, _ => P
  | n + 1, P, L => refGive n (addAt P (bestN L L.length)) (L.set (bestN L L.length) 0)
/-- One more each, by the row that goes ahead, is one more each by the greatest remainders. -/
theorem give_eq : ∀ (m : Nat) (S : List Quo) (P L : List Int) (_ : S.Pairwise (fun x y => aheadQ x y = true)) (_ : S.Pairwise (fun x y => x.pos ≠ y.pos))
    (_ : ∀ x ∈ S, 0 ≤ x.pos ∧ x.pos.toNat < L.length ∧ L.getD x.pos.toNat 0 = x.left) (_ : ∀ i, i < L.length → (∃ x ∈ S, x.pos = i) ∨ L.getD i 0 = 0) (_ : ∀ x ∈ S.take m, 0 < x.left) (_ : m ≤ S.length),
    refGive m P L = give P (S.take m)
  | 0, S, P, L, _, _, _, _, _, _ => by simp [refGive, give]
  | m + 1, [], P, L, _, _, _, _, _, hm => by simp at hm
  | m + 1, x :: t, P, L, h1, h2, h3, h4, h5, hm => by
    rw [List.pairwise_cons] at h1 h2
    obtain ⟨x0, x1, x2⟩ := h3 x (by simp)
    have hx : 0 < x.left := h5 x (by simp)
    have hb : bestN L L.length = x.pos.toNat := by
      refine best_is x1 (fun i hi => ?_) (fun i hi => ?_)
      · rw [x2]
        rcases h4 i hi with ⟨y, hy, he⟩ | h0
        · have := (h3 y hy).2.2
          rw [he] at this
          simp at this
          rw [show L.getD i 0 = y.left from by simpa using this]
          rcases List.mem_cons.1 hy with rfl | hy
          · omega
          · have := aheadQ_iff.1 (h1.1 y hy); omega
        · omega
      · rw [x2]
        rcases h4 i (by omega) with ⟨y, hy, he⟩ | h0
        · have := (h3 y hy).2.2
          rw [he] at this
          simp at this
          rw [show L.getD i 0 = y.left from by simpa using this]
          rcases List.mem_cons.1 hy with rfl | hy
          · omega
          · have := aheadQ_iff.1 (h1.1 y hy); omega
        · omega
    have ih := give_eq m t (addAt P x.pos.toNat) (L.set x.pos.toNat 0) h1.2 h2.2 (fun y hy => ?_) (fun i hi => ?_) (fun y hy => h5 y (by simp [hy])) (by simpa using hm)
    · rw [List.take_succ_cons]
      unfold refGive give
      rw [hb]
      exact ih
    · obtain ⟨y0, y1, y2⟩ := h3 y (by simp [hy])
      have hne := h2.1 y hy
      refine ⟨y0, by simpa using y1, ?_⟩
      rw [List.getD_eq_getElem?_getD, List.getElem?_set_ne (by omega), ← List.getD_eq_getElem?_getD]
      exact y2
    · rw [List.length_set] at hi
      by_cases hix : i = x.pos.toNat
      · right
        subst hix
        rw [List.getD_eq_getElem?_getD, List.getElem?_set_self x1]; rfl
      · rcases h4 i hi with ⟨y, hy, he⟩ | h0
        · rcases List.mem_cons.1 hy with rfl | hy
          · exact absurd (by omega) hix
          · exact .inl ⟨y, hy, he⟩
        · right
          rw [List.getD_eq_getElem?_getD, List.getElem?_set_ne (by omega), ← List.getD_eq_getElem?_getD]
          exact h0
end Go.Proofs.Ytenehpcliajdnaa

/- Shares, plain: the parts of a number by weights are one, in whatever way they are found; what they sum up to; who has more. -/
namespace Go.Proofs.Ytenehpcliajdnaa
open Go.RowKit
theorem quoF_mem {T S : Int} {x : Quo} : ∀ {l : List Int} {k : Nat} (_ : x ∈ quoF T S k l), ∃ (i : Nat) (h : i < l.length), x = ⟨(k + i : Nat), T * l[i] / S, T * l[i] % S⟩
  | [], k, h => by simp [quoF] at h
  | y :: t, k, h => by
    simp only [quoF, List.mem_cons] at h
    rcases h with rfl | h
    · exact ⟨0, by simp, by simp⟩
    · obtain ⟨i, hi, rfl⟩ := quoF_mem h
      exact ⟨i + 1, by simpa using hi, by simp only [List.getElem_cons_succ]; rw [show k + 1 + i = k + (i + 1) from by omega]⟩
theorem quoF_pos (T S : Int) : ∀ (l : List Int) (k : Nat), (quoF T S k l).Pairwise (fun x y => x.pos ≠ y.pos)
  | [], _ => List.Pairwise.nil
  | y :: t, k => by
    refine List.pairwise_cons.2 ⟨fun z hz => ?_, quoF_pos T S t (k + 1)⟩
    obtain ⟨i, hi, rfl⟩ := quoF_mem hz
    show ((k : Nat) : Int) ≠ ((k + 1 + i : Nat) : Int)
    omega
theorem pos_take {S : Int} (hS : 0 < S) : ∀ (R : Nat) (L : List Quo) (_ : L.Pairwise (fun x y => aheadQ x y = true)) (_ : ∀ x ∈ L, 0 ≤ x.left ∧ x.left < S) (_ : (R : Int) * S ≤ (L.map (·.left)).sum), (∀ x ∈ L.take R, 0 < x.left) ∧ R ≤ L.length
  | 0, L, _, _, _ => by simp
  | R + 1, [], _, _, h => by
    exfalso
    simp only [List.map_nil, List.sum_nil] at h
    have : 0 < ((R + 1 : Nat) : Int) * S := Int.mul_pos (by omega) hS
    omega
  | R + 1, x :: t, h1, h2, h => by
    rw [List.pairwise_cons] at h1
    simp only [List.map_cons, List.sum_cons] at h
    have hx := h2 x (by simp)
    have he : ((R + 1 : Nat) : Int) * S = (R : Int) * S + S := by rw [show ((R + 1 : Nat) : Int) = (R : Int) + 1 from by omega, Int.add_mul]; omega
    obtain ⟨i1, i2⟩ := pos_take hS R t h1.2 (fun y hy => h2 y (by simp [hy])) (by omega)
    refine ⟨fun y hy => ?_, by simp; omega⟩
    rw [List.take_succ_cons] at hy
    rcases List.mem_cons.1 hy with rfl | hy
    · rcases Int.lt_or_eq_of_le hx.1 with h0 | h0
      · exact h0
      · exfalso
        have hz : (t.map (·.left)).sum ≤ 0 := by
          have : ∀ (m : List Quo), (∀ z ∈ m, z.left ≤ 0) → (m.map (·.left)).sum ≤ 0 := by
            intro m
            induction m with
            | nil => simp
            | cons a m ih => intro hm; have := ih (fun z hz => hm z (by simp [hz])); have := hm a (by simp); simp only [List.map_cons, List.sum_cons]; omega
          exact this t fun z hz => by have := aheadQ_iff.1 (h1.1 z hz); omega
        have : 0 ≤ (R : Int) * S := Int.mul_nonneg (by omega) (by omega)
        omega
    · exact i1 y hy
theorem perm_sum {a b : List Int} (h : a.Perm b) : a.sum = b.sum := by
  induction h with
  | nil => rfl
  | cons x _ ih => simp only [List.sum_cons]; omega
  | swap x y l => simp only [List.sum_cons]; omega
  | trans _ _ i1 i2 => omega
/-- How many get one more. -/
def restN (T S : Int) (l : List Int) : Nat := (T - (partL T S l).sum).toNat
theorem rest_is {T S : Int} {l : List Int} (_hT : 0 ≤ T) (hS : 0 < S) (hs : l.sum = S) : 0 ≤ T - (partL T S l).sum ∧ (restN T S l : Int) = T - (partL T S l).sum ∧ (restN T S l : Int) * S = (leftL T S l).sum := by
  have h1 := quoF_all T S l
  rw [hs] at h1
  have h2 := sum_nonneg' fun z hz => (leftL_bound hS T l z hz).1
  have h3 : (T - (partL T S l).sum) * S = (leftL T S l).sum := by rw [Int.sub_mul]; omega
  have h4 : 0 ≤ T - (partL T S l).sum := by
    rcases (show T - (partL T S l).sum < 0 ∨ 0 ≤ T - (partL T S l).sum by omega) with h | h
    · have := Int.mul_neg_of_neg_of_pos h hS
      omega
    · exact h
  have h5 : (restN T S l : Int) = T - (partL T S l).sum := by unfold restN; omega
  exact ⟨h4, h5, by rw [h5]; exact h3⟩
/-- The parts, as the document finds them. -/
def spR (T S : Int) (l : List Int) : List Int := refGive (restN T S l) (partL T S l) (leftL T S l)
theorem perm_facts {T S : Int} {l : List Int} {L : List Quo} (hS : 0 < S) (hp : L.Perm (quoF T S 0 l)) (hsum : (restN T S l : Int) * S = (leftL T S l).sum) (hs : L.Pairwise (fun x y => aheadQ x y = true)) :
    L.Pairwise (fun x y => x.pos ≠ y.pos) ∧ (∀ x ∈ L, ∃ (i : Nat) (h : i < l.length), x = ⟨i, T * l[i] / S, T * l[i] % S⟩) ∧ (∀ x ∈ L.take (restN T S l), 0 < x.left) ∧ restN T S l ≤ L.length := by
  have hm : ∀ x ∈ L, ∃ (i : Nat) (h : i < l.length), x = ⟨i, T * l[i] / S, T * l[i] % S⟩ := fun x hx => by
    obtain ⟨i, h, e⟩ := quoF_mem (hp.mem_iff.1 hx)
    exact ⟨i, h, by simpa using e⟩
  have hsm : (L.map (·.left)).sum = (leftL T S l).sum := by
    rw [perm_sum (hp.map (·.left))]
    exact (quoF_sums T S l 0).1
  obtain ⟨h1, h2⟩ := pos_take hS (restN T S l) L hs (fun x hx => by
    obtain ⟨i, h, rfl⟩ := hm x hx
    exact ⟨Int.emod_nonneg _ (by omega), Int.emod_lt_of_pos _ hS⟩) (by rw [hsm, hsum]; exact Int.le_refl _)
  exact ⟨hp.symm.pairwise (quoF_pos T S l 0) (fun h => fun e => h e.symm), hm, h1, h2⟩
theorem split_is {T S : Int} {l : List Int} {L : List Quo} (hT : 0 ≤ T) (hS : 0 < S) (hsl : l.sum = S) (hp : L.Perm (quoF T S 0 l)) (hs : L.Pairwise (fun x y => aheadQ x y = true)) :
    give (partL T S l) (L.take (restN T S l)) = spR T S l := by
  obtain ⟨_, _, h3⟩ := rest_is hT hS hsl
  obtain ⟨f1, f2, f3, f4⟩ := perm_facts hS hp h3 hs
  unfold spR
  refine (give_eq _ L _ _ hs f1 (fun x hx => ?_) (fun i hi => ?_) f3 f4).symm
  · obtain ⟨i, h, rfl⟩ := f2 x hx
    refine ⟨by show (0 : Int) ≤ (i : Int); omega, ?_, ?_⟩
    · show ((i : Int)).toNat < (leftL T S l).length
      unfold leftL; rw [List.length_map]; simpa using h
    · show (leftL T S l).getD ((i : Int)).toNat 0 = T * l[i] % S
      unfold leftL
      rw [List.getD_eq_getElem?_getD, Int.toNat_natCast, List.getElem?_map, List.getElem?_eq_getElem h]; rfl
  · left
    have hil : i < l.length := by unfold leftL at hi; simpa using hi
    have := quoF_get T S l 0 i hil
    exact ⟨_, hp.mem_iff.2 (List.mem_of_getElem? this), by simp⟩
end Go.Proofs.Ytenehpcliajdnaa

/- Shares, plain: what the parts are: as many as weights, quotas or one more, in all the whole; who has the greater remainder is first. -/
namespace Go.Proofs.Ytenehpcliajdnaa
open Go.RowKit
theorem ahead_trans {x y z : Quo} (h : aheadQ x y = true) (k : aheadQ y z = true) : aheadQ x z = true := by
  rw [aheadQ_iff] at *; omega
theorem ahead_total {x y : Quo} (h : x.pos ≠ y.pos) : aheadQ x y = true ∨ aheadQ y x = true := by
  rw [aheadQ_iff, aheadQ_iff]; omega
theorem ins_ex (x : Quo) : ∀ (L : List Quo) (_ : L.Pairwise (fun x y => aheadQ x y = true)) (_ : ∀ y ∈ L, x.pos ≠ y.pos), ∃ M : List Quo, M.Perm (x :: L) ∧ M.Pairwise (fun x y => aheadQ x y = true)
  | [], _, _ => ⟨[x], List.Perm.refl _, by simp⟩
  | y :: t, h, hp => by
    have h' := h
    rw [List.pairwise_cons] at h
    rcases ahead_total (hp y (by simp)) with k | k
    · refine ⟨x :: y :: t, List.Perm.refl _, List.pairwise_cons.2 ⟨fun z hz => ?_, h'⟩⟩
      rcases List.mem_cons.1 hz with rfl | hz
      · exact k
      · exact ahead_trans k (h.1 z hz)
    · obtain ⟨M, m1, m2⟩ := ins_ex x t h.2 fun z hz => hp z (by simp [hz])
      refine ⟨y :: M, (m1.cons y).trans (List.Perm.swap x y t), List.pairwise_cons.2 ⟨fun z hz => ?_, m2⟩⟩
      rcases List.mem_cons.1 (m1.mem_iff.1 hz) with rfl | hz
      · exact k
      · exact h.1 z hz
theorem sort_ex : ∀ (q : List Quo) (_ : q.Pairwise (fun x y => x.pos ≠ y.pos)), ∃ L : List Quo, L.Perm q ∧ L.Pairwise (fun x y => aheadQ x y = true)
  | [], _ => ⟨[], List.Perm.refl _, List.Pairwise.nil⟩
  | x :: t, h => by
    rw [List.pairwise_cons] at h
    obtain ⟨L, l1, l2⟩ := sort_ex t h.2
    obtain ⟨M, m1, m2⟩ := ins_ex x L l2 fun y hy => h.1 y (l1.mem_iff.1 hy)
    exact ⟨M, m1.trans (l1.cons x), m2⟩
theorem addAt_len (P : List Int) (i : Nat) : (addAt P i).length = P.length := by unfold addAt; simp
theorem set_sum : ∀ (P : List Int) (i : Nat) (_ : i < P.length), (P.set i (P.getD i 0 + 1)).sum = P.sum + 1
  | x :: t, 0, _ => by simp; omega
  | x :: t, i + 1, h => by
    have := set_sum t i (by simpa using h)
    simp only [List.set_cons_succ, List.sum_cons, List.getD_cons_succ]
    omega
theorem give_len : ∀ (t : List Quo) (P : List Int), (give P t).length = P.length
  | [], P => rfl
  | x :: t, P => by unfold give; rw [give_len t, addAt_len]
theorem give_sum : ∀ (t : List Quo) (P : List Int) (_ : ∀ x ∈ t, x.pos.toNat < P.length), (give P t).sum = P.sum + t.length
  | [], P, _ => by simp [give]
  | x :: t, P, h => by
    unfold give
    rw [give_sum t (addAt P x.pos.toNat) (fun y hy => by rw [addAt_len]; exact h y (by simp [hy]))]
    unfold addAt
    rw [set_sum P _ (h x (by simp))]
    simp; omega
theorem give_none : ∀ (t : List Quo) (P : List Int) (i : Nat) (_ : ∀ x ∈ t, x.pos.toNat ≠ i), (give P t).getD i 0 = P.getD i 0
  | [], P, i, _ => rfl
  | x :: t, P, i, h => by
    unfold give
    rw [give_none t _ i (fun y hy => h y (by simp [hy]))]
    unfold addAt
    rw [List.getD_eq_getElem?_getD, List.getElem?_set_ne (h x (by simp)), ← List.getD_eq_getElem?_getD]
theorem give_some : ∀ (t : List Quo) (P : List Int) (i : Nat) (_ : t.Pairwise (fun x y => x.pos.toNat ≠ y.pos.toNat)) (_ : i < P.length) (_ : ∃ x ∈ t, x.pos.toNat = i), (give P t).getD i 0 = P.getD i 0 + 1
  | [], P, i, _, _, h => by obtain ⟨x, hx, _⟩ := h; simp at hx
  | x :: t, P, i, hp, hi, h => by
    rw [List.pairwise_cons] at hp
    unfold give
    by_cases hx : x.pos.toNat = i
    · subst hx
      rw [give_none t _ _ (fun y hy e => hp.1 y hy e.symm)]
      unfold addAt
      rw [List.getD_eq_getElem?_getD, List.getElem?_set_self hi]; rfl
    · obtain ⟨y, hy, he⟩ := h
      rcases List.mem_cons.1 hy with rfl | hy
      · exact absurd he hx
      · rw [give_some t _ i hp.2 (by rw [addAt_len]; exact hi) ⟨y, hy, he⟩]
        unfold addAt
        rw [List.getD_eq_getElem?_getD, List.getElem?_set_ne hx, ← List.getD_eq_getElem?_getD]
/-- What the parts are. -/
theorem sp_props {T S : Int} {l : List Int} (hT : 0 ≤ T) (hS : 0 < S) (hsl : l.sum = S) :
    (spR T S l).length = l.length ∧ (spR T S l).sum = T ∧
    (∀ i (h : i < l.length), (spR T S l).getD i 0 = T * l[i] / S ∨ ((spR T S l).getD i 0 = T * l[i] / S + 1 ∧ 0 < T * l[i] % S)) ∧
    (∀ i k (hi : i < l.length) (hk : k < l.length), (T * l[k] % S < T * l[i] % S ∨ (T * l[i] % S = T * l[k] % S ∧ i < k)) → (spR T S l).getD k 0 = T * l[k] / S + 1 → (spR T S l).getD i 0 = T * l[i] / S + 1) := by
  obtain ⟨L, hp, hs⟩ := sort_ex (quoF T S 0 l) (quoF_pos T S l 0)
  obtain ⟨r1, r2, r3⟩ := rest_is hT hS hsl
  obtain ⟨f1, f2, f3, f4⟩ := perm_facts hS hp r3 hs
  have he := split_is hT hS hsl hp hs
  have hpl : (partL T S l).length = l.length := by unfold partL; simp
  have hpg : ∀ i (h : i < l.length), (partL T S l).getD i 0 = T * l[i] / S := fun i h => by
    unfold partL
    rw [List.getD_eq_getElem?_getD, List.getElem?_map, List.getElem?_eq_getElem h]; rfl
  have hposn : ∀ x ∈ L, 0 ≤ x.pos ∧ x.pos.toNat < l.length := fun x hx => by
    obtain ⟨i, h, rfl⟩ := f2 x hx
    exact ⟨by show (0 : Int) ≤ (i : Int); omega, by simpa using h⟩
  have hpw : L.Pairwise (fun x y => x.pos.toNat ≠ y.pos.toNat) := by
    refine List.Pairwise.imp_of_mem (fun {a b} ha hb h => ?_) f1
    have := (hposn a ha).1
    have := (hposn b hb).1
    omega
  have hpt : (L.take (restN T S l)).Pairwise (fun x y => x.pos.toNat ≠ y.pos.toNat) := hpw.sublist (List.take_sublist _ _)
  have hat : ∀ i (h : i < l.length), ∃ x ∈ L, x.pos.toNat = i ∧ x.left = T * l[i] % S ∧ x.pos = i := fun i h => by
    have := quoF_get T S l 0 i h
    exact ⟨_, hp.mem_iff.2 (List.mem_of_getElem? this), by simp, rfl, by simp⟩
  have huniq : ∀ x ∈ L, ∀ y ∈ L, x.pos.toNat = y.pos.toNat → x = y := fun x hx y hy e => by
    obtain ⟨i, h, rfl⟩ := f2 x hx
    obtain ⟨j, g, rfl⟩ := f2 y hy
    simp at e
    subst e
    rfl
  rw [← he]
  refine ⟨by rw [give_len, hpl], ?_, fun i h => ?_, fun i k hi hk hord hkp => ?_⟩
  · rw [give_sum _ _ (fun x hx => by rw [hpl]; exact (hposn x (List.mem_of_mem_take hx)).2), List.length_take, Nat.min_eq_left f4, r2]
    omega
  · by_cases hx : ∃ x ∈ L.take (restN T S l), x.pos.toNat = i
    · right
      rw [give_some _ _ i hpt (by rw [hpl]; exact h) hx, hpg i h]
      refine ⟨rfl, ?_⟩
      obtain ⟨x, hx, e⟩ := hx
      obtain ⟨j, g, e2⟩ := f2 x (List.mem_of_mem_take hx)
      have := f3 x hx
      rw [e2] at this e
      simp at e
      subst e
      exact this
    · left
      rw [give_none _ _ i (fun x hx' e => hx ⟨x, hx', e⟩), hpg i h]
  · have hkx : ∃ x ∈ L.take (restN T S l), x.pos.toNat = k := by
      refine Classical.byContradiction fun hn => ?_
      rw [give_none _ _ k (fun x hx' e => hn ⟨x, hx', e⟩), hpg k hk] at hkp
      omega
    obtain ⟨x, hx, e⟩ := hkx
    obtain ⟨y, hy, ey, el, ep⟩ := hat i hi
    obtain ⟨z, hz, ez, el2, ep2⟩ := hat k hk
    have hxz := huniq x (List.mem_of_mem_take hx) z hz (by rw [e, ez])
    have hyx : aheadQ y x = true := by
      rw [aheadQ_iff, hxz, el, el2, ep, ep2]; omega
    have hyt : y ∈ L.take (restN T S l) := by
      obtain ⟨a, ha, ea⟩ := List.getElem_of_mem hy
      obtain ⟨b, hb, eb⟩ := List.getElem_of_mem hx
      rw [List.length_take] at hb
      rw [List.getElem_take] at eb
      rcases Nat.lt_or_ge a (restN T S l) with h | h
      · rw [← ea, List.mem_take_iff_getElem]
        exact ⟨a, by omega, rfl⟩
      · exfalso
        have := List.pairwise_iff_getElem.1 hs b a (by omega) ha (by omega)
        rw [ea, eb] at this
        rw [aheadQ_iff] at this hyx
        omega
    rw [give_some _ _ i hpt (by rw [hpl]; exact hi) ⟨y, hyt, ey⟩, hpg i hi]
end Go.Proofs.Ytenehpcliajdnaa

/- Plain lists: where the first is of which something holds. -/
namespace Go.Proofs.Ytenehpcliajdnaa
def idxOf {α : Type} (p : α → Bool) (l : List α) : Int := match l.findIdx? p with | some k => k | none => -1
theorem idx_hit {α : Type} {p : α → Bool} {l : List α} {k : Nat} (h : k < l.length) (hm : p l[k] = true) (hn : ∀ j (_ : j < l.length), j < k → p l[j] = false) : idxOf p l = k := by
  have : l.findIdx? p = some k := by
    rw [List.findIdx?_eq_some_iff_getElem]
    exact ⟨h, hm, fun j hj => by simp [hn j (by omega) hj]⟩
  simp [idxOf, this]
theorem idx_miss {α : Type} {p : α → Bool} {l : List α} (hn : ∀ j (_ : j < l.length), p l[j] = false) : idxOf p l = -1 := by
  have : l.findIdx? p = none := by
    rw [List.findIdx?_eq_none_iff]
    intro x hx
    obtain ⟨j, hj, rfl⟩ := List.mem_iff_getElem.1 hx
    exact hn j hj
  simp [idxOf, this]
end Go.Proofs.Ytenehpcliajdnaa

/- Shares: the contract of slices.SortFunc at quotas. -/
namespace Go.Proofs.Ytenehpcliajdnaa
open Go.RowKit
instance : Inhabited Quo := ⟨⟨0, 0, 0⟩⟩
theorem grow3 (w : World) (a b c : Obj) : (((w.alloc a).alloc b).alloc c).drew = Go.Sort.grow (w.drewN 1) (#[a] ++ #[b] ++ #[c]) := by
  rw [Go.Sort.alloc_eq_grow, Go.Sort.alloc_eq_grow, Go.Sort.alloc_eq_grow, Go.Sort.grow_grow, Go.Sort.grow_grow]
  rfl
def cfQ (q p : Quo) : Int := orOf (ord p.left q.left) (ord q.pos p.pos)
set_option maxHeartbeats 400000 in
theorem cmpQ64 (a b : Int) (w : World) :
    Calls Try.prog 86 #[.int .i64 a, .int .i64 b] w fun e w' => e = .returned (.int .i64 (ord a b)) ∧ w = w' := by
  go_enter Try.func86, Try.ntmps86
  go_wp2
  all_goals (go_ret; exact ⟨ret_int (by unfold ord; repeat' split <;> omega), rfl⟩)
set_option maxHeartbeats 400000 in
theorem cmpQi (a b : Int) (w : World) :
    Calls Try.prog 87 #[.int .i64 a, .int .i64 b] w fun e w' => e = .returned (.int .i64 (ord a b)) ∧ w = w' := by
  go_enter Try.func87, Try.ntmps87
  go_wp2
  all_goals (go_ret; exact ⟨ret_int (by unfold ord; repeat' split <;> omega), rfl⟩)
set_option maxRecDepth 100000 in
set_option maxHeartbeats 4000000 in
theorem shrAhead (x y : Quo) (w : World) : Calls Try.prog 64 #[.agg #[.int .i64 x.pos, .int .i64 x.part, .int .i64 x.left], .agg #[.int .i64 y.pos, .int .i64 y.part, .int .i64 y.left]] w fun e w' => e = .returned (.int .i64 (cfQ x y)) ∧ ∃ q os, w' = Go.Sort.grow (w.drewN q) os := by
  unfold cfQ
  generalize ho1 : ord y.left x.left = o1
  generalize ho2 : ord x.pos y.pos = o2
  have C1 := Lib.hid (fun W => show Calls Try.prog 86 #[.int .i64 y.left, .int .i64 x.left] W fun e w' => e = .returned (.int .i64 o1) ∧ W = w' from by rw [← ho1]; exact cmpQ64 _ _ _)
  have C2 := Lib.hid (fun W => show Calls Try.prog 87 #[.int .i64 x.pos, .int .i64 y.pos] W fun e w' => e = .returned (.int .i64 o2) ∧ W = w' from by rw [← ho2]; exact cmpQi _ _ _)
  clear ho1 ho2
  go_enter Try.func64, Try.ntmps64
  go_wp2_with fail
  go_region_held3 (fun w' => (w'.cell? ⟨w.heap.size, 0, none⟩ = some (.int .i64 x.pos) ∧ w'.cell? ⟨w.heap.size, 2, none⟩ = some (.int .i64 x.left)) ∧ w'.cell? ⟨w.heap.size + 1, 0, none⟩ = some (.int .i64 y.pos) ∧ w'.cell? ⟨w.heap.size + 1, 2, none⟩ = some (.int .i64 y.left)) (first | (simp [go_sem]; done) | (repeat' (first | (with_reducible assumption) | (with_reducible refine And.intro ?_ ?_) | (with_reducible refine cell_drew ?_) | (with_reducible refine cell_via (by with_reducible assumption) ?_ ?_) | (simp [*]; done) | (simp [go_sem]; done) | (with_reducible refine cell_alloc ?_ ?_) | (with_reducible refine cell_set_far ?_ ?_) | omega | (simp; omega)))) (first | (go_at_call 86; (with_reducible refine (C1.out _).mono ?_); rintro e w1 ⟨rfl, rfl⟩) | (go_at_call 87; (with_reducible refine (C2.out _).mono ?_); rintro e w2 ⟨rfl, rfl⟩) | (go_at_call 85; (with_reducible refine (cmpOr2 o1 o2 _ _ 0 _ ?_ ?_).mono ?_); (focus (simp [go_sem]; done)); (focus (simp [go_sem]; done)); rintro e w3 ⟨rfl, rfl⟩) | fail)
  all_goals
    go_wp2_with fail
    go_ret
    exact ⟨rfl, 1, _, grow3 _ _ _ _⟩
theorem shrLays (blk off size : Nat) (w : World) : CmpLays Try.prog 64 #[] encQuo 3 cfQ blk off size w :=
  fun _ _ _ _ x y => shrAhead x y _
theorem cfQ_lt (x y : Quo) : Go.Proofs.ltOf cfQ x y = aheadQ x y := by
  unfold Go.Proofs.ltOf cfQ orOf ord aheadQ
  rw [Bool.eq_iff_iff]
  simp
  repeat' split
  all_goals omega
theorem cfQ_swo : Go.Sort.SWO (Go.Proofs.ltOf cfQ) where
  irrefl x := by
    rw [cfQ_lt]
    cases h : aheadQ x x
    · rfl
    · rw [aheadQ_iff] at h; omega
  trans x y z h k := by rw [cfQ_lt] at *; rw [aheadQ_iff] at *; omega
  ntrans x y z h k := by
    rw [cfQ_lt] at *
    cases hh : aheadQ x z
    · rfl
    · have h' : ¬ (y.left < x.left ∨ (x.left = y.left ∧ x.pos < y.pos)) := fun e => by rw [aheadQ_iff.2 e] at h; cases h
      have k' : ¬ (z.left < y.left ∨ (y.left = z.left ∧ y.pos < z.pos)) := fun e => by rw [aheadQ_iff.2 e] at k; cases k
      rw [aheadQ_iff] at hh
      omega
end Go.Proofs.Ytenehpcliajdnaa

/- Contracts of wide.total's add and done. -/
namespace Go.Proofs.Ytenehpcliajdnaa
open Go.RowKit

/-- The cells of a sum of 192 bits. -/
def tot (s : Int) : Array Value := #[.int .i64 (s / 340282366920938463463374607431768211456), .int .i64 (whi (wrap128 s)), .int .u64 (wlo s)]
def InT (s : Int) : Prop := -1532495540865888858358347027150309183618739122183602176 ≤ s ∧ s ≤ 1532495540865888858358347027150309183618739122183602176
theorem shr63 (a : Int) (h : -9223372036854775808 ≤ a ∧ a ≤ 9223372036854775807) : a / 9223372036854775808 = if a < 0 then -1 else 0 := by split <;> omega
theorem word_hi (s : Int) : whi (wrap128 s) % 18446744073709551616 = (s % 340282366920938463463374607431768211456) / 18446744073709551616 := by unfold whi wrap128; omega
theorem word_lo (s : Int) : wlo s = (s % 340282366920938463463374607431768211456) % 18446744073709551616 := by unfold wlo; omega
theorem carry128 (a b : Int) : whi (a / 18446744073709551616 + b / 18446744073709551616 + whi (a % 18446744073709551616 + b % 18446744073709551616)) = (a + b) / 340282366920938463463374607431768211456 := by unfold whi; omega
theorem low128 (a b : Int) : (a / 18446744073709551616 + b / 18446744073709551616 + whi (a % 18446744073709551616 + b % 18446744073709551616)) = (a + b) / 18446744073709551616 := by unfold whi; omega
theorem whi_in (n : Int) (h : In128 n) : whi n = whi (wrap128 n) := by rw [wrap128_in h]
/-- The carry out of the second word. -/
theorem tot_carry (s n : Int) (hn : In128 n) : whi (IntKind.u64.wrap (whi (wrap128 s)) + IntKind.u64.wrap (whi n) + whi (wlo s + wlo n)) = (s % 340282366920938463463374607431768211456 + n % 340282366920938463463374607431768211456) / 340282366920938463463374607431768211456 := by
  rw [IntKind.wrap_u64, IntKind.wrap_u64, whi_in n hn, word_hi, word_hi, word_lo s, word_lo n]
  exact carry128 _ _
theorem tot_over (s n : Int) (hn : In128 n) : s / 340282366920938463463374607431768211456 + (whi n / 9223372036854775808 + whi (IntKind.u64.wrap (whi (wrap128 s)) + IntKind.u64.wrap (whi n) + whi (wlo s + wlo n))) = (s + n) / 340282366920938463463374607431768211456 := by
  rw [tot_carry s n hn]
  have : whi n / 9223372036854775808 = n / 340282366920938463463374607431768211456 := by unfold In128 at hn; unfold whi; omega
  rw [this]; clear this hn
  omega
theorem tot_hi (s n : Int) (hn : In128 n) : IntKind.i64.wrap (wlo (IntKind.u64.wrap (whi (wrap128 s)) + IntKind.u64.wrap (whi n) + whi (wlo s + wlo n))) = whi (wrap128 (s + n)) := by
  rw [IntKind.wrap_u64, IntKind.wrap_u64, whi_in n hn, word_hi, word_hi, word_lo s, word_lo n, low128, IntKind.wrap_i64]
  clear hn
  unfold wlo whi wrap128
  omega
set_option maxRecDepth 100000 in
set_option maxHeartbeats 1000000 in
theorem totalAdd (s n : Int) (g : Nat) (w : World) (hs : InT s) (hn : In128 n) (hg : Blk w g 139 (tot s)) :
    Calls Try.prog 91 #[.pointer (some ⟨g, 0, none⟩), (.agg #[.int .i64 (whi (n)), .int .u64 (wlo (n))])] w fun e w' => e = .returned (.tuple #[]) ∧ Blk w' g 139 (tot (s + n)) ∧ Only g w w' := by
  have c0 := hg.cell 0
  have c1 := hg.cell 1
  have c2 := hg.cell 2
  have z0 := hg.frozen 0
  have z1 := hg.frozen 1
  have z2 := hg.frozen 2
  have hlt := hg.lt
  simp [tot] at c0 c1 c2
  have h1 := whi_i hn
  have h2 := wlo_u n
  have h3 := wlo_u s
  have h4 := whi_i (wrap128_is s)
  have e1 := add64 (wlo s) (wlo n) 0 h3.1 h2.1 (by omega) (by omega)
  simp only [Int.add_zero] at e1
  have s1 : wlo (wlo s + wlo n) = wlo (s + n) := by unfold wlo; omega
  rw [s1] at e1
  have h5 : 0 ≤ whi (wlo s + wlo n) ∧ whi (wlo s + wlo n) ≤ 1 := by unfold whi; omega
  have h6 : 0 ≤ IntKind.u64.wrap (whi (wrap128 s)) ∧ IntKind.u64.wrap (whi (wrap128 s)) ≤ 18446744073709551615 := by rw [IntKind.wrap_u64]; omega
  have h7 : 0 ≤ IntKind.u64.wrap (whi n) ∧ IntKind.u64.wrap (whi n) ≤ 18446744073709551615 := by rw [IntKind.wrap_u64]; omega
  have e2 := add64 (IntKind.u64.wrap (whi (wrap128 s))) (IntKind.u64.wrap (whi n)) (whi (wlo s + wlo n)) h6.1 h7.1 h5.1 h5.2
  obtain ⟨c, hc⟩ : ∃ c, c = whi (wlo s + wlo n) := ⟨_, rfl⟩
  rw [← hc] at e1 e2 h5
  have s2 : IntKind.i64.wrap (wlo (IntKind.u64.wrap (whi (wrap128 s)) + IntKind.u64.wrap (whi n) + c)) = whi (wrap128 (s + n)) := by
    rw [hc]; exact tot_hi s n hn
  have h8 := wlo_u (IntKind.u64.wrap (whi (wrap128 s)) + IntKind.u64.wrap (whi n) + c)
  obtain ⟨d, hd⟩ : ∃ d, d = whi (IntKind.u64.wrap (whi (wrap128 s)) + IntKind.u64.wrap (whi n) + c) := ⟨_, rfl⟩
  have h9 : 0 ≤ d ∧ d ≤ 1 := by rw [hd]; rw [IntKind.wrap_u64, IntKind.wrap_u64]; unfold whi; omega
  have s3 : s / 340282366920938463463374607431768211456 + (whi n / 9223372036854775808 + d) = (s + n) / 340282366920938463463374607431768211456 := by
    rw [hd, hc]; exact tot_over s n hn
  have h10 : -9007199254740992 ≤ s / 340282366920938463463374607431768211456 ∧ s / 340282366920938463463374607431768211456 ≤ 9007199254740992 := by unfold InT at hs; omega
  rw [← hd] at e2
  obtain ⟨lo, hlo⟩ : ∃ lo, lo = wlo (IntKind.u64.wrap (whi (wrap128 s)) + IntKind.u64.wrap (whi n) + c) := ⟨_, rfl⟩
  rw [← hlo] at e2 s2 h8
  clear hlo hd hc s1
  have Hg := Lib.hid hg
  clear hg
  go_enter Try.func91, Try.ntmps91
  go_wp2
  go_region
  all_goals (go_wp2; go_region)
  all_goals (go_wp2; go_region)
  all_goals
    go_wp2
    go_end0
    exact ⟨rfl, by simpa [tot] using ((((Hg.out.set 0 _).set 1 _).set 2 _).alloc _).drew.drew.drew, (((((Only.refl g w).set (.inl rfl) _).set (.inl rfl) _).set (.inl rfl) _).alloc _).drew.drew.drew⟩
set_option maxRecDepth 100000 in
set_option maxHeartbeats 1000000 in
theorem totalDoneYes (s : Int) (g : Nat) (w : World) (hs : In128 s) (hg : Blk w g 139 (tot s)) :
    Calls Try.prog 92 #[.pointer (some ⟨g, 0, none⟩)] w fun e w' => e = .returned (.tuple #[(.agg #[.int .i64 (whi (s)), .int .u64 (wlo (s))]), .int .i64 0]) ∧ Below w.heap.size w w' := by
  have c0 := hg.cell 0
  have c1 := hg.cell 1
  have c2 := hg.cell 2
  have hlt := hg.lt
  simp [tot, wrap128_in hs] at c0 c1 c2
  have h1 := whi_i hs
  have e1 : (s / 340282366920938463463374607431768211456 == whi s / 9223372036854775808) = true := by
    rw [beq_iff_eq]; unfold In128 at hs; unfold whi; omega
  clear hg
  go_enter Try.func92, Try.ntmps92
  go_wp2
  go_region_held3 (fun w' => w'.cell? ⟨g, 0, none⟩ = some (.int .i64 (s / 340282366920938463463374607431768211456)) ∧ w'.cell? ⟨g, 1, none⟩ = some (.int .i64 (whi s)) ∧ w'.cell? ⟨g, 2, none⟩ = some (.int .u64 (wlo s))) (first | (simp [go_sem]; done) | (repeat' (first | (with_reducible assumption) | (with_reducible refine And.intro ?_ ?_) | (with_reducible refine cell_drew ?_) | (with_reducible refine cell_via (by with_reducible assumption) ?_ ?_) | (simp [*]; done) | (simp [go_sem]; done) | (with_reducible refine cell_alloc ?_ ?_) | (with_reducible refine cell_set_far ?_ ?_) | omega | (simp; omega)))) (first | (go_at_call 108; (with_reducible refine (wideRangedYes _ _).mono ?_); rintro e w1 ⟨rfl, hb1⟩; obtain ⟨fc1, fg1, hc1, hf1, hz1⟩ := bget hb1; try simp at hz1))
  go_wp2
  all_goals
    refine bodyPost_ret (by simp [*, results, Try.results92, go_sem]; try rfl) rfl ⟨rfl, ?_⟩
    (repeat' (first | (with_reducible exact Below.refl _ _) | (with_reducible assumption) | (with_reducible refine Below.alloc ?_ ?_ _) | (with_reducible refine Below.setCell ?_ ?_ _) | (with_reducible refine Below.drew ?_) | (with_reducible refine below_drewN ?_ _) | (with_reducible refine below_via ?_ (by with_reducible assumption) ?_) | omega | (simp; done) | (simp; omega)))
set_option maxRecDepth 100000 in
set_option maxHeartbeats 1000000 in
theorem totalDoneNo (s : Int) (g : Nat) (w : World) (hs : ¬ In128 s) (hg : Blk w g 139 (tot s)) :
    Calls Try.prog 92 #[.pointer (some ⟨g, 0, none⟩)] w fun e w' => e = .returned (.tuple #[.agg #[.int .i64 0, .int .u64 0], .int .i64 7]) ∧ Below w.heap.size w w' := by
  have c0 := hg.cell 0
  have c1 := hg.cell 1
  have c2 := hg.cell 2
  have hlt := hg.lt
  simp [tot] at c0 c1 c2
  have h1 := whi_i (wrap128_is s)
  have e1 : (s / 340282366920938463463374607431768211456 == whi (wrap128 s) / 9223372036854775808) = false := by
    rw [beq_eq_false_iff_ne]; unfold In128 at hs; unfold whi wrap128; omega
  clear hg hs
  go_enter Try.func92, Try.ntmps92
  go_wp2
  go_region_held3 (fun w' => w'.cell? ⟨g, 0, none⟩ = some (.int .i64 (s / 340282366920938463463374607431768211456)) ∧ w'.cell? ⟨g, 1, none⟩ = some (.int .i64 (whi (wrap128 s))) ∧ w'.cell? ⟨g, 2, none⟩ = some (.int .u64 (wlo s))) (first | (simp [go_sem]; done) | (repeat' (first | (with_reducible assumption) | (with_reducible refine And.intro ?_ ?_) | (with_reducible refine cell_drew ?_) | (with_reducible refine cell_via (by with_reducible assumption) ?_ ?_) | (simp [*]; done) | (simp [go_sem]; done) | (with_reducible refine cell_alloc ?_ ?_) | (with_reducible refine cell_set_far ?_ ?_) | omega | (simp; omega)))) (first | (go_at_call 108; (with_reducible refine (wideRangedNo _ _ _).mono ?_); rintro e w1 ⟨rfl, hb1⟩; obtain ⟨fc1, fg1, hc1, hf1, hz1⟩ := bget hb1; try simp at hz1))
  go_wp2
  all_goals
    refine bodyPost_ret (by simp [*, results, Try.results92, go_sem]; try rfl) rfl ⟨rfl, ?_⟩
    (repeat' (first | (with_reducible exact Below.refl _ _) | (with_reducible assumption) | (with_reducible refine Below.alloc ?_ ?_ _) | (with_reducible refine Below.setCell ?_ ?_ _) | (with_reducible refine Below.drew ?_) | (with_reducible refine below_drewN ?_ _) | (with_reducible refine below_via ?_ (by with_reducible assumption) ?_) | omega | (simp; done) | (simp; omega)))
end Go.Proofs.Ytenehpcliajdnaa

/- Contracts of wide.Sub, Add. -/
namespace Go.Proofs.Ytenehpcliajdnaa
open Go.RowKit
theorem tot_zero : tot 0 = #[.int .i64 0, .int .i64 0, .int .u64 0] := by simp [tot, whi, wlo, wrap128]
theorem not_u64 (x : Int) (h : 0 ≤ x) (h' : x ≤ 18446744073709551615) : bits .xor .u64 IntKind.u64.max x = 18446744073709551615 - x := by
  obtain ⟨x, rfl⟩ := Int.eq_ofNat_of_zero_le h
  show IntKind.u64.wrap ((BitVec.ofInt 64 IntKind.u64.max ^^^ BitVec.ofInt 64 (x : Int)).toNat : Int) = _
  have e : BitVec.ofInt 64 IntKind.u64.max = BitVec.allOnes 64 := by decide
  rw [e, BitVec.allOnes_xor, BitVec.toNat_not, BitVec.ofInt_natCast, BitVec.toNat_ofNat, IntKind.wrap_u64]
  omega
theorem not_i64 (x : Int) (h : -9223372036854775808 ≤ x) (h' : x ≤ 9223372036854775807) : bits .xor .i64 (-1) x = - x - 1 := by
  show IntKind.i64.wrap ((BitVec.ofInt 64 (-1) ^^^ BitVec.ofInt 64 x).toNat : Int) = _
  have e : BitVec.ofInt 64 (-1) = BitVec.allOnes 64 := by decide
  rw [e, BitVec.allOnes_xor, BitVec.toNat_not, BitVec.toNat_ofInt, IntKind.wrap_i64]
  omega
theorem not_hi (b : Int) (hb : In128 b) : bits .xor .i64 (-1) (whi b) = whi (- b - 1) := by
  have h := whi_i hb
  rw [not_i64 _ h.1 h.2]; unfold whi; omega
theorem not_lo (b : Int) : bits .xor .u64 IntKind.u64.max (wlo b) = wlo (- b - 1) := by
  have h := wlo_u b
  rw [not_u64 _ h.1 h.2]; unfold wlo; omega
set_option maxRecDepth 100000 in
set_option maxHeartbeats 1000000 in
theorem wideSubYes (a b : Int) (w : World) (ha : In128 a) (hb : In128 b) (hab : In128 (a - b)) :
    Calls Try.prog 107 #[(.agg #[.int .i64 (whi (a)), .int .u64 (wlo (a))]), (.agg #[.int .i64 (whi (b)), .int .u64 (wlo (b))])] w fun e w' => e = .returned (.tuple #[(.agg #[.int .i64 (whi (a - b)), .int .u64 (wlo (a - b))]), .int .i64 0]) ∧ Below w.heap.size w w' := by
  have h3 := whi_i hb
  have h4 := wlo_u b
  have x1 := not_hi b hb
  have x2 := not_lo b
  have hb' : In128 (- b - 1) := by unfold In128 at hb ⊢; omega
  have q1 : 0 + a + (- b - 1) + 1 = a - b := by omega
  have i1 : IntKind.i64.signed = true := rfl
  have i2 : IntKind.u64.signed = false := rfl
  go_enter Try.func107, Try.ntmps107
  go_wp2_with fail
  refine (totalAdd 0 a (w.heap.size + 1 + 1 + 1) _ (by unfold InT; omega) ha (by rw [tot_zero]; (repeat' (first | (with_reducible assumption) | (with_reducible refine Blk.drew ?_) | (with_reducible refine Blk.here ?_) | (with_reducible refine Blk.alloc ?_ _) | (with_reducible refine Blk.far ?_ ?_ _) | (with_reducible refine Blk.below ?_ (by with_reducible assumption) ?_) | omega | (simp; done) | (simp; omega))))).mono ?_
  rintro e w1 ⟨rfl, hk1, ho1⟩
  obtain ⟨fc1, fg1, hc1, hf1, hz1⟩ := oget ho1
  simp at hz1
  have Hk1 := Lib.hid hk1
  have Ho1 := Lib.hid ho1
  clear hk1 ho1
  go_wp2_with fail
  refine (totalAdd (0 + a) (- b - 1) (w.heap.size + 1 + 1 + 1) _ (by unfold In128 at ha; unfold InT; omega) hb' Hk1.out).mono ?_
  rintro e w2 ⟨rfl, hk2, ho2⟩
  obtain ⟨fc2, fg2, hc2, hf2, hz2⟩ := oget ho2
  have Hk2 := Lib.hid hk2
  have Ho2 := Lib.hid ho2
  clear hk2 ho2
  go_wp2_with fail
  refine (wideOf 1 _ (by unfold In64; omega)).mono ?_
  rintro e w3 ⟨rfl, hb3⟩
  obtain ⟨fc3, fg3, hc3, hf3, hz3⟩ := bget hb3
  go_wp2_with fail
  refine (totalAdd (0 + a + (- b - 1)) 1 (w.heap.size + 1 + 1 + 1) _ (by unfold In128 at ha hb; unfold InT; omega) (by unfold In128; omega) (Hk2.out.below hb3 (by omega))).mono ?_
  rintro e w4 ⟨rfl, hk4, ho4⟩
  obtain ⟨fc4, fg4, hc4, hf4, hz4⟩ := oget ho4
  rw [q1] at hk4
  have Hk4 := Lib.hid hk4
  have Ho4 := Lib.hid ho4
  clear hk4 ho4 q1
  go_wp2_with fail
  refine (totalDoneYes (a - b) (w.heap.size + 1 + 1 + 1) _ hab Hk4.out).mono ?_
  rintro e w5 ⟨rfl, hb5⟩
  obtain ⟨fc5, fg5, hc5, hf5, hz5⟩ := bget hb5
  go_wp2
  all_goals
    refine bodyPost_ret (by simp [*, results, Try.results107, go_sem, ↓IntWalk.iteOmega]; try rfl) rfl ⟨rfl, ?_⟩
    refine Below.setCell (Below.setCell (below_via (below_only (below_via (below_only (below_only ?_ Ho1.out ?_ ?_) Ho2.out ?_ ?_) hb3 ?_) Ho4.out ?_ ?_) hb5 ?_) ?_ _) ?_ _ <;> first | (simp; omega) | (repeat' (first | (with_reducible exact Below.refl _ _) | (with_reducible assumption) | (with_reducible refine Below.alloc ?_ ?_ _) | (with_reducible refine Below.setCell ?_ ?_ _) | (with_reducible refine Below.drew ?_) | (with_reducible refine below_drewN ?_ _) | (with_reducible refine below_via ?_ (by with_reducible assumption) ?_) | omega | (simp; done) | (simp; omega)))
set_option maxRecDepth 100000 in
set_option maxHeartbeats 1000000 in
theorem wideSubNo (a b : Int) (w : World) (ha : In128 a) (hb : In128 b) (hab : ¬ In128 (a - b)) :
    Calls Try.prog 107 #[(.agg #[.int .i64 (whi (a)), .int .u64 (wlo (a))]), (.agg #[.int .i64 (whi (b)), .int .u64 (wlo (b))])] w fun e w' => e = .returned (.tuple #[.agg #[.int .i64 0, .int .u64 0], .int .i64 7]) ∧ Below w.heap.size w w' := by
  have h3 := whi_i hb
  have h4 := wlo_u b
  have x1 := not_hi b hb
  have x2 := not_lo b
  have hb' : In128 (- b - 1) := by unfold In128 at hb ⊢; omega
  have q1 : 0 + a + (- b - 1) + 1 = a - b := by omega
  have i1 : IntKind.i64.signed = true := rfl
  have i2 : IntKind.u64.signed = false := rfl
  go_enter Try.func107, Try.ntmps107
  go_wp2_with fail
  refine (totalAdd 0 a (w.heap.size + 1 + 1 + 1) _ (by unfold InT; omega) ha (by rw [tot_zero]; (repeat' (first | (with_reducible assumption) | (with_reducible refine Blk.drew ?_) | (with_reducible refine Blk.here ?_) | (with_reducible refine Blk.alloc ?_ _) | (with_reducible refine Blk.far ?_ ?_ _) | (with_reducible refine Blk.below ?_ (by with_reducible assumption) ?_) | omega | (simp; done) | (simp; omega))))).mono ?_
  rintro e w1 ⟨rfl, hk1, ho1⟩
  obtain ⟨fc1, fg1, hc1, hf1, hz1⟩ := oget ho1
  simp at hz1
  have Hk1 := Lib.hid hk1
  have Ho1 := Lib.hid ho1
  clear hk1 ho1
  go_wp2_with fail
  refine (totalAdd (0 + a) (- b - 1) (w.heap.size + 1 + 1 + 1) _ (by unfold In128 at ha; unfold InT; omega) hb' Hk1.out).mono ?_
  rintro e w2 ⟨rfl, hk2, ho2⟩
  obtain ⟨fc2, fg2, hc2, hf2, hz2⟩ := oget ho2
  have Hk2 := Lib.hid hk2
  have Ho2 := Lib.hid ho2
  clear hk2 ho2
  go_wp2_with fail
  refine (wideOf 1 _ (by unfold In64; omega)).mono ?_
  rintro e w3 ⟨rfl, hb3⟩
  obtain ⟨fc3, fg3, hc3, hf3, hz3⟩ := bget hb3
  go_wp2_with fail
  refine (totalAdd (0 + a + (- b - 1)) 1 (w.heap.size + 1 + 1 + 1) _ (by unfold In128 at ha hb; unfold InT; omega) (by unfold In128; omega) (Hk2.out.below hb3 (by omega))).mono ?_
  rintro e w4 ⟨rfl, hk4, ho4⟩
  obtain ⟨fc4, fg4, hc4, hf4, hz4⟩ := oget ho4
  rw [q1] at hk4
  have Hk4 := Lib.hid hk4
  have Ho4 := Lib.hid ho4
  clear hk4 ho4 q1
  go_wp2_with fail
  refine (totalDoneNo (a - b) (w.heap.size + 1 + 1 + 1) _ hab Hk4.out).mono ?_
  rintro e w5 ⟨rfl, hb5⟩
  obtain ⟨fc5, fg5, hc5, hf5, hz5⟩ := bget hb5
  go_wp2
  all_goals
    refine bodyPost_ret (by simp [*, results, Try.results107, go_sem, ↓IntWalk.iteOmega]; try rfl) rfl ⟨rfl, ?_⟩
    refine Below.setCell (Below.setCell (below_via (below_only (below_via (below_only (below_only ?_ Ho1.out ?_ ?_) Ho2.out ?_ ?_) hb3 ?_) Ho4.out ?_ ?_) hb5 ?_) ?_ _) ?_ _ <;> first | (simp; omega) | (repeat' (first | (with_reducible exact Below.refl _ _) | (with_reducible assumption) | (with_reducible refine Below.alloc ?_ ?_ _) | (with_reducible refine Below.setCell ?_ ?_ _) | (with_reducible refine Below.drew ?_) | (with_reducible refine below_drewN ?_ _) | (with_reducible refine below_via ?_ (by with_reducible assumption) ?_) | omega | (simp; done) | (simp; omega)))
end Go.Proofs.Ytenehpcliajdnaa

/- Contracts of fix.narrow, Sub, Abs, Least, Most, Clip. -/
namespace Go.Proofs.Ytenehpcliajdnaa
open Go.RowKit
set_option maxHeartbeats 400000 in
theorem narrowYes (n : Int) (w : World) (h : In64 n) :
    Calls Try.prog 80 #[(.agg #[.int .i64 (whi (n)), .int .u64 (wlo (n))]), .int .i64 0] w fun e w' => e = .returned (.tuple #[.int .i64 n, .int .i64 0]) ∧ Below w.heap.size w w' := by
  go_enter Try.func80, Try.ntmps80
  go_wp2_with (go_at_call 45; (with_reducible refine (wideIntYes _ _ h).mono ?_); rintro e w1 ⟨rfl, hb1⟩; obtain ⟨fc1, fg1, hc1, hf1, hz1⟩ := bget hb1; try simp at hz1)
  go_ret2
  exact ⟨rfl, by (repeat' (first | (with_reducible exact Below.refl _ _) | (with_reducible assumption) | (with_reducible refine Below.alloc ?_ ?_ _) | (with_reducible refine Below.setCell ?_ ?_ _) | (with_reducible refine Below.drew ?_) | (with_reducible refine below_drewN ?_ _) | (with_reducible refine below_via ?_ (by with_reducible assumption) ?_) | omega | (simp; done) | (simp; omega)))⟩
set_option maxHeartbeats 400000 in
theorem narrowNo (n : Int) (w : World) (h : In128 n) (h' : ¬ In64 n) :
    Calls Try.prog 80 #[(.agg #[.int .i64 (whi (n)), .int .u64 (wlo (n))]), .int .i64 0] w fun e w' => e = .returned (.tuple #[.int .i64 0, .int .i64 7]) ∧ Below w.heap.size w w' := by
  go_enter Try.func80, Try.ntmps80
  go_wp2_with (go_at_call 45; (with_reducible refine (wideIntNo _ _ h h').mono ?_); rintro e w1 ⟨rfl, hb1⟩; obtain ⟨fc1, fg1, hc1, hf1, hz1⟩ := bget hb1; try simp at hz1)
  go_ret2
  exact ⟨rfl, by (repeat' (first | (with_reducible exact Below.refl _ _) | (with_reducible assumption) | (with_reducible refine Below.alloc ?_ ?_ _) | (with_reducible refine Below.setCell ?_ ?_ _) | (with_reducible refine Below.drew ?_) | (with_reducible refine below_drewN ?_ _) | (with_reducible refine below_via ?_ (by with_reducible assumption) ?_) | omega | (simp; done) | (simp; omega)))⟩
set_option maxHeartbeats 400000 in
theorem narrowErr (a b e : Int) (w : World) (h : (e != 0) = true) :
    Calls Try.prog 80 #[.agg #[.int .i64 a, .int .u64 b], .int .i64 e] w fun e' w' => e' = .returned (.tuple #[.int .i64 0, .int .i64 e]) ∧ Below w.heap.size w w' := by
  go_enter Try.func80, Try.ntmps80
  go_wp2
  go_ret2
  exact ⟨rfl, by (repeat' (first | (with_reducible exact Below.refl _ _) | (with_reducible assumption) | (with_reducible refine Below.alloc ?_ ?_ _) | (with_reducible refine Below.setCell ?_ ?_ _) | (with_reducible refine Below.drew ?_) | (with_reducible refine below_drewN ?_ _) | (with_reducible refine below_via ?_ (by with_reducible assumption) ?_) | omega | (simp; done) | (simp; omega)))⟩
set_option maxHeartbeats 400000 in
theorem fixSubYes (a b : Int) (w : World) (ha : In64 a) (hb : In64 b) (h : In64 (a - b)) :
    Calls Try.prog 89 #[.int .i64 a, .int .i64 b] w fun e w' => e = .returned (.tuple #[.int .i64 (a - b), .int .i64 0]) ∧ Below w.heap.size w w' := by
  have a1 := in128_of64 ha
  have b1 := in128_of64 hb
  have c1 := in128_of64 h
  go_enter Try.func89, Try.ntmps89
  go_wp2_with (first | (go_at_call 76; (with_reducible refine (wideOf a _ ha).mono ?_); rintro e w1 ⟨rfl, hb1⟩; obtain ⟨fc1, fg1, hc1, hf1, hz1⟩ := bget hb1; try simp at hz1) | (go_at_call 76; (with_reducible refine (wideOf b _ hb).mono ?_); rintro e w1 ⟨rfl, hb1⟩; obtain ⟨fc1, fg1, hc1, hf1, hz1⟩ := bget hb1; try simp at hz1) | (go_at_call 107; (with_reducible refine (wideSubYes a b _ a1 b1 c1).mono ?_); rintro e w1 ⟨rfl, hb1⟩; obtain ⟨fc1, fg1, hc1, hf1, hz1⟩ := bget hb1; try simp at hz1) | (go_at_call 80; (with_reducible refine (narrowYes _ _ h).mono ?_); rintro e w1 ⟨rfl, hb1⟩; obtain ⟨fc1, fg1, hc1, hf1, hz1⟩ := bget hb1; try simp at hz1))
  go_ret2
  exact ⟨rfl, by (repeat' (first | (with_reducible exact Below.refl _ _) | (with_reducible assumption) | (with_reducible refine Below.alloc ?_ ?_ _) | (with_reducible refine Below.setCell ?_ ?_ _) | (with_reducible refine Below.drew ?_) | (with_reducible refine below_drewN ?_ _) | (with_reducible refine below_via ?_ (by with_reducible assumption) ?_) | omega | (simp; done) | (simp; omega)))⟩
set_option maxHeartbeats 400000 in
theorem fixSubNo (a b : Int) (w : World) (ha : In64 a) (hb : In64 b) (h : ¬ In64 (a - b)) :
    Calls Try.prog 89 #[.int .i64 a, .int .i64 b] w fun e w' => e = .returned (.tuple #[.int .i64 0, .int .i64 7]) ∧ Below w.heap.size w w' := by
  have a1 := in128_of64 ha
  have b1 := in128_of64 hb
  have c1 : In128 (a - b) := by unfold In64 at ha hb; unfold In128; omega
  go_enter Try.func89, Try.ntmps89
  go_wp2_with (first | (go_at_call 76; (with_reducible refine (wideOf a _ ha).mono ?_); rintro e w1 ⟨rfl, hb1⟩; obtain ⟨fc1, fg1, hc1, hf1, hz1⟩ := bget hb1; try simp at hz1) | (go_at_call 76; (with_reducible refine (wideOf b _ hb).mono ?_); rintro e w1 ⟨rfl, hb1⟩; obtain ⟨fc1, fg1, hc1, hf1, hz1⟩ := bget hb1; try simp at hz1) | (go_at_call 107; (with_reducible refine (wideSubYes a b _ a1 b1 c1).mono ?_); rintro e w1 ⟨rfl, hb1⟩; obtain ⟨fc1, fg1, hc1, hf1, hz1⟩ := bget hb1; try simp at hz1) | (go_at_call 80; (with_reducible refine (narrowNo _ _ c1 h).mono ?_); rintro e w1 ⟨rfl, hb1⟩; obtain ⟨fc1, fg1, hc1, hf1, hz1⟩ := bget hb1; try simp at hz1))
  go_ret2
  exact ⟨rfl, by (repeat' (first | (with_reducible exact Below.refl _ _) | (with_reducible assumption) | (with_reducible refine Below.alloc ?_ ?_ _) | (with_reducible refine Below.setCell ?_ ?_ _) | (with_reducible refine Below.drew ?_) | (with_reducible refine below_drewN ?_ _) | (with_reducible refine below_via ?_ (by with_reducible assumption) ?_) | omega | (simp; done) | (simp; omega)))⟩
set_option maxHeartbeats 400000 in
theorem fixAbsYes (a : Int) (w : World) (ha : In64 a) (h : In64 (iabs a)) :
    Calls Try.prog 68 #[.int .i64 a] w fun e w' => e = .returned (.tuple #[.int .i64 (iabs a), .int .i64 0]) ∧ Below w.heap.size w w' := by
  by_cases hn : a < 0
  · have e1 : iabs a = 0 - a := by rw [iabs_neg hn]; omega
    rw [e1] at h ⊢
    clear e1
    have z64 : In64 0 := by unfold In64; omega
    go_enter Try.func68, Try.ntmps68
    go_wp2_with (go_at_call 89; (with_reducible refine (fixSubYes 0 a _ z64 ha h).mono ?_); rintro e w1 ⟨rfl, hb1⟩; obtain ⟨fc1, fg1, hc1, hf1, hz1⟩ := bget hb1; try simp at hz1)
    go_ret2
    exact ⟨by simp, by (repeat' (first | (with_reducible exact Below.refl _ _) | (with_reducible assumption) | (with_reducible refine Below.alloc ?_ ?_ _) | (with_reducible refine Below.setCell ?_ ?_ _) | (with_reducible refine Below.drew ?_) | (with_reducible refine below_drewN ?_ _) | (with_reducible refine below_via ?_ (by with_reducible assumption) ?_) | omega | (simp; done) | (simp; omega)))⟩
  · rw [iabs_pos (by omega)]
    go_enter Try.func68, Try.ntmps68
    go_wp2
    go_ret2
    exact ⟨rfl, by (repeat' (first | (with_reducible exact Below.refl _ _) | (with_reducible assumption) | (with_reducible refine Below.alloc ?_ ?_ _) | (with_reducible refine Below.setCell ?_ ?_ _) | (with_reducible refine Below.drew ?_) | (with_reducible refine below_drewN ?_ _) | (with_reducible refine below_via ?_ (by with_reducible assumption) ?_) | omega | (simp; done) | (simp; omega)))⟩
set_option maxHeartbeats 400000 in
theorem fixAbsNo (a : Int) (w : World) (ha : In64 a) (h : ¬ In64 (iabs a)) :
    Calls Try.prog 68 #[.int .i64 a] w fun e w' => e = .returned (.tuple #[.int .i64 0, .int .i64 7]) ∧ Below w.heap.size w w' := by
  by_cases hn : a < 0
  · have e1 : iabs a = 0 - a := by rw [iabs_neg hn]; omega
    rw [e1] at h
    clear e1
    have z64 : In64 0 := by unfold In64; omega
    go_enter Try.func68, Try.ntmps68
    go_wp2_with (go_at_call 89; (with_reducible refine (fixSubNo 0 a _ z64 ha h).mono ?_); rintro e w1 ⟨rfl, hb1⟩; obtain ⟨fc1, fg1, hc1, hf1, hz1⟩ := bget hb1; try simp at hz1)
    go_ret2
    exact ⟨rfl, by (repeat' (first | (with_reducible exact Below.refl _ _) | (with_reducible assumption) | (with_reducible refine Below.alloc ?_ ?_ _) | (with_reducible refine Below.setCell ?_ ?_ _) | (with_reducible refine Below.drew ?_) | (with_reducible refine below_drewN ?_ _) | (with_reducible refine below_via ?_ (by with_reducible assumption) ?_) | omega | (simp; done) | (simp; omega)))⟩
  · rw [iabs_pos (by omega)] at h
    exact absurd ha h

def minL (a : Int) (l : List Int) : Int := l.foldl min a
def maxL (a : Int) (l : List Int) : Int := l.foldl max a
theorem foldl_take (f : Int → Int → Int) (a : Int) (l : List Int) (k : Nat) (h : k < l.length) : (l.take (k + 1)).foldl f a = f ((l.take k).foldl f a) l[k] := by
  rw [List.take_succ_eq_append_getElem h, List.foldl_append]; rfl
set_option maxHeartbeats 400000 in
theorem fixLeast (a : Int) (l : List Int) (A : Option Addr) (c : Nat) (w : World) (hl : l.length ≤ 4503599627370496) (hr : Rd w A 1 (l.map encI)) :
    Calls Try.prog 81 #[.int .i64 a, .slice A l.length c] w fun e w' => e = .returned (.int .i64 (minL a l)) ∧ w = w' := by
  have Hr := Lib.hid hr
  clear hr
  go_enter Try.func81, Try.ntmps81
  go_wp2_with fail
  go_loop [0, 9] (fun m i => ∃ k : Nat, k ≤ l.length ∧ i = .int .i64 k ∧ m = .int .i64 (minL a (l.take k))) (fun _ i => l.length - (intOf i).toNat)
  case atStart => exact ⟨0, Nat.zero_le _, rfl, rfl⟩
  case round =>
    obtain ⟨k, hk, rfl, rfl⟩ := hrel
    by_cases hlt : k < l.length
    · obtain ⟨b, o, rfl, hb, hc⟩ := Hr.out k (encI l[k]) (by simp [hlt])
      have c0 := hc 0 _ rfl
      simp only [Nat.add_zero, Nat.mul_one] at c0
      clear hc
      have Hs := Lib.hid (foldl_take min a l k hlt)
      go_wp2
      go_round
      case rel => exact ⟨k + 1, by omega, by go_num, by (unfold minL; rw [Hs.out]; try (congr 1; split <;> omega))⟩
      case measure => simp [intOf]; omega
    · obtain rfl : k = l.length := by omega
      go_wp2
      go_ret
      exact ⟨ret_int (by simp), rfl⟩
def clip (a lo hi : Int) : Int := max lo (min a hi)
theorem maxL_one (a b : Int) : maxL a [b] = max a b := rfl
theorem minL_one (a b : Int) : minL a [b] = min a b := rfl
theorem rd_int1 {w : World} {g o : Nat} {b : Int} (hg : g < w.heap.size) (h0 : w.cell? ⟨g, o, none⟩ = some (.int .i64 b)) : Rd w (some ⟨g, o, none⟩) 1 ([b].map encI) := by
  intro i r hr
  match i, hr with
  | 0, hr =>
    simp at hr
    subst hr
    refine ⟨g, o, rfl, hg, fun j v hv => ?_⟩
    match j, hv with
    | 0, hv => simp [encI] at hv; subst hv; simpa using h0
theorem fixLeast1 (a b : Int) (g o c : Nat) (w : World) (hg : g < w.heap.size) (h0 : w.cell? ⟨g, o, none⟩ = some (.int .i64 b)) :
    Calls Try.prog 81 #[.int .i64 a, .slice (some ⟨g, o, none⟩) 1 c] w fun e w' => e = .returned (.int .i64 (min a b)) ∧ w = w' := fixLeast a [b] _ c w (by simp) (rd_int1 hg h0)
end Go.Proofs.Ytenehpcliajdnaa
