/- Joined: GrdP, Fst, NedP, PurP, HoP, CvE, AsF, Lot1. -/
import Derived.Test.YtalgfpegaobacaaGreatKz9
import Derived.Test.YtalgfpegaobacaaGreatKz10
import Derived.Test.YtalgfpegaobacaaGreatKz8
import Derived.Test.YtalgfpegaobacaaGreatKz7
import Derived.Test.YtalgfpegaobacaaGreatKz5
import Derived.Test.YtalgfpegaobacaaGreatKz6
import Derived.Test.YtalgfpegaobacaaGreatRows
import Derived.Deep.RegionLaw
import Derived.Outline
/- Layer 24, plain: what a vector loses in a scenario, and in the worst one; two as one, twice one. No program in sight. -/
namespace Go.Proofs.YtalgfpegaobacaaGreat
open Go.RowKit
/-- What a leg makes in a scenario. -/
def legS (t : List InstV) (s : Int) (x : Leg) : Int := shockI (lgI (findInstV t x.inst).1) x.qty s
def known (t : List InstV) (l : List Leg) : Bool := l.all fun x => (findInstV t x.inst).2
def gnN (t : List InstV) (l : List Leg) (s : Int) : Int := (l.map (legS t s)).sum
def lossC (t : List InstV) (l : List Leg) : Int := if isV l then (if known t l then 0 else 11) else 3
def lossN (t : List InstV) (l : List Leg) (s : Int) : Int := if isV l && known t l then - gnN t l s else 0
/-- The greatest of 0 and the first n losses, and where it is first. -/
def mostN (f : Int → Int) : Nat → Int × Int
  | 0 => (0, -1)
  | k + 1 => if (mostN f k).1 < f k then (f k, k) else mostN f k
def marginN (t : List InstV) (l : List Leg) : Int := if lossC t l = 0 then (if in64 (mostN (lossN t l) 8).1 then (mostN (lossN t l) 8).1 else 0) else 0
def marginC (t : List InstV) (l : List Leg) : Int := if lossC t l = 0 then (if in64 (mostN (lossN t l) 8).1 then 0 else 7) else lossC t l
/-- The greatest number of a leg's move: bounds. -/
theorem legS_bound {t : List InstV} {x : Leg} {s : Int} (h : In64 x.qty) : -1298074214633706907132624082305024 ≤ legS t s x ∧ legS t s x ≤ 1298074214633706907132624082305024 := by
  unfold legS
  generalize lgI (findInstV t x.inst).1 = y
  by_cases hs : okS y s
  · obtain ⟨k, rfl, hk⟩ := okS_nat hs
    rw [shock_yes hs.1 hk]
    have hmv := okI_move hs.1 hk
    have hm := hs.1.2.2
    have e1 := mul_le_of (a := y.moves[k]) (b := y.mult) (A := 2147483647) (B := 65536) (by omega) (by omega) 140737488289792 (by omega)
    have e2 := mul_le_of (a := y.moves[k] * y.mult) (b := x.qty) (A := 140737488355328) (B := 9223372036854775808) (by omega) (by unfold In64 at h; omega) 1298074214633706907132624082305024 (by omega)
    omega
  · rw [shock_no hs]; omega
theorem gain_bound {t : List InstV} {s : Int} : ∀ {l : List Leg} (_ : Legs64 l), -(l.length * 1298074214633706907132624082305024 : Int) ≤ gnN t l s ∧ gnN t l s ≤ l.length * 1298074214633706907132624082305024
  | [], _ => by simp [gnN]
  | x :: l, h => by
    have h1 := gain_bound (t := t) (s := s) (l := l) fun y hy => h y (by simp [hy])
    have h2 := legS_bound (t := t) (s := s) (h x (by simp))
    unfold gnN at h1 ⊢
    simp only [List.map_cons, List.sum_cons, List.length_cons]
    omega
theorem legS_in {t : List InstV} {x : Leg} {s : Int} (h : In64 x.qty) : In128 (legS t s x) := by
  have := legS_bound (t := t) (s := s) h
  unfold In128; omega
theorem gain_in {t : List InstV} {l : List Leg} {s : Int} (h : Legs64 l) (hl : l.length ≤ 1000) : In128 (gnN t l s) ∧ In128 (- gnN t l s) := by
  have := gain_bound (t := t) (s := s) h
  unfold In128; omega
theorem loss_in {t : List InstV} {l : List Leg} {s : Int} (h : Legs64 l) (hl : l.length ≤ 1000) : In128 (lossN t l s) := by
  unfold lossN
  split
  · exact (gain_in h hl).2
  · unfold In128; omega
theorem loss_no {t : List InstV} {l : List Leg} (h : lossC t l ≠ 0) : ∀ s, lossN t l s = 0 := by
  intro s
  unfold lossN
  rw [if_neg]
  intro h1
  rw [Bool.and_eq_true] at h1
  apply h
  unfold lossC
  rw [if_pos h1.1, if_pos h1.2]
theorem most_zero {f : Int → Int} (h : ∀ s, f s = 0) : ∀ n, mostN f n = (0, -1)
  | 0 => rfl
  | n + 1 => by unfold mostN; rw [most_zero h n, h]; rfl
theorem most_nonneg (f : Int → Int) : ∀ n, 0 ≤ (mostN f n).1
  | 0 => by simp [mostN]
  | n + 1 => by have := most_nonneg f n; unfold mostN; split <;> (try simp only []) <;> omega
theorem most_is (f : Int → Int) : ∀ n, (mostN f n).1 = 0 ∨ ∃ k, k < n ∧ (mostN f n).1 = f (k : Nat)
  | 0 => .inl rfl
  | n + 1 => by
    unfold mostN
    split
    · exact .inr ⟨n, by omega, rfl⟩
    · rcases most_is f n with h | ⟨k, hk, h⟩
      · exact .inl h
      · exact .inr ⟨k, by omega, h⟩
theorem most_in {f : Int → Int} (h : ∀ s, In128 (f s)) (n : Nat) : In128 (mostN f n).1 := by
  rcases most_is f n with h1 | ⟨k, _, h1⟩
  · rw [h1]; unfold In128; omega
  · rw [h1]; exact h k
theorem known_mem {t : List InstV} {l : List Leg} (h : known t l = true) {x : Leg} (hx : x ∈ l) : (findInstV t x.inst).2 = true := by
  unfold known at h
  exact List.all_eq_true.1 h x hx
theorem margin_pos (t : List InstV) (l : List Leg) : 0 ≤ marginN t l := by
  unfold marginN
  have := most_nonneg (lossN t l) 8
  split
  · split <;> omega
  · omega
theorem margin_in (t : List InstV) (l : List Leg) : In64 (marginN t l) := by
  unfold marginN
  split
  · split
    · rename_i h; exact in64_iff.1 h
    · unfold In64; omega
  · unfold In64; omega
end Go.Proofs.YtalgfpegaobacaaGreat

/- The code of the first of some units that has none. No program in sight. -/
namespace Go.Proofs.YtalgfpegaobacaaGreat
open Go.RowKit
/-- The code of the first of some units that has none, or 0. -/
def firstC (f : Un → Int) : List Un → Int
  | [] => 0
  | u :: us => if f u = 0 then firstC f us else f u
theorem firstC_step {f : Un → Int} {u : Un} {us : List Un} (h : f u = 0) : firstC f (u :: us) = firstC f us := by
  show (if f u = 0 then firstC f us else f u) = _
  rw [if_pos h]
theorem firstC_stop {f : Un → Int} {u : Un} {us : List Un} (h : f u ≠ 0) : firstC f (u :: us) = f u := by
  show (if f u = 0 then firstC f us else f u) = _
  rw [if_neg h]
theorem firstC_all {f : Un → Int} : ∀ {us : List Un} (_ : firstC f us = 0), ∀ u ∈ us, f u = 0
  | [], _, u, hu => by simp at hu
  | v :: us, h, u, hu => by
    by_cases h0 : f v = 0
    · rw [firstC_step h0] at h
      rcases List.mem_cons.1 hu with rfl | hu
      · exact h0
      · exact firstC_all h u hu
    · rw [firstC_stop h0] at h; exact absurd h h0
end Go.Proofs.YtalgfpegaobacaaGreat

/- Margin units, plain: which an account has, of which units they consist, of which one a unit is a part, what they must have. No program in sight. -/
namespace Go.Proofs.YtalgfpegaobacaaGreat
open Go.RowKit
def unitsN (x : Acct) : List Un := if x.kind = 2 then [⟨x.id, 0⟩] else unitsA x
def partsN (x : Acct) (u : Un) : List Un := if u ∈ unitsN x then (if x.kind = 2 then unitsA x else [u]) else []
theorem unitsN_len (x : Acct) : (unitsN x).length ≤ x.clients.length + 1 := by
  unfold unitsN unitsA
  split
  · simp
  · split <;> simp
theorem partsN_len (x : Acct) (u : Un) : (partsN x u).length ≤ x.clients.length + 1 := by
  unfold partsN unitsA
  split
  · split
    · split <;> simp
    · simp
  · simp
/-- What units have together. -/
def netC (L : List (Row Leg)) (us : List Un) : Int := if isK isV L then addC (us.map (ofK L)) else 3
def netL (L : List (Row Leg)) (us : List Un) : List Leg := if isK isV L then addL (us.map (ofK L)) else []
/-- What a margin unit must have, or why not. -/
def nofC (t : List InstV) (L : List (Row Leg)) (x : Acct) (u : Un) : Int :=
  if isK isV L then (if u ∈ unitsN x then (if netC L (partsN x u) = 0 then marginC t (netL L (partsN x u)) else netC L (partsN x u)) else 11) else 3
def nofN (t : List InstV) (L : List (Row Leg)) (x : Acct) (u : Un) : Int :=
  if isK isV L then (if u ∈ unitsN x then (if netC L (partsN x u) = 0 then marginN t (netL L (partsN x u)) else 0) else 0) else 0
theorem nofN_no {t : List InstV} {L : List (Row Leg)} {x : Acct} {u : Un} (h : nofC t L x u ≠ 0) : nofN t L x u = 0 := by
  unfold nofC at h
  unfold nofN
  split
  · rename_i h1
    rw [if_pos h1] at h
    split
    · rename_i h2
      rw [if_pos h2] at h
      split
      · rename_i h3
        rw [if_pos h3] at h
        unfold marginC at h
        unfold marginN
        split
        · rename_i h4
          rw [if_pos h4] at h
          split
          · rename_i h5
            rw [if_pos h5] at h
            exact absurd rfl h
          · rfl
        · rfl
      · rfl
    · rfl
  · rfl
theorem nofN_pos (t : List InstV) (L : List (Row Leg)) (x : Acct) (u : Un) : 0 ≤ nofN t L x u ∧ In64 (nofN t L x u) := by
  unfold nofN
  have h0 : In64 0 := by unfold In64; omega
  split
  · split
    · split
      · exact ⟨margin_pos _ _, margin_in _ _⟩
      · exact ⟨Int.le_refl _, h0⟩
    · exact ⟨Int.le_refl _, h0⟩
  · exact ⟨Int.le_refl _, h0⟩
theorem netL_len (L : List (Row Leg)) (us : List Un) : (netL L us).length ≤ 8 := by
  unfold netL
  split
  · exact addL_len _
  · simp
theorem netL64 (L : List (Row Leg)) (us : List Un) : Legs64 (netL L us) := by
  unfold netL
  split
  · exact addL64B _
  · exact fun x hx => by simp at hx
end Go.Proofs.YtalgfpegaobacaaGreat

/- Purses, plain: which flows are one, what each unit has, which units are named, what any purse is behind any flows. No program in sight. -/
namespace Go.Proofs.YtalgfpegaobacaaGreat
open Go.RowKit
structure Flow where
  unit : Un
  amount : Int
  deriving DecidableEq
def encFlow (x : Flow) : List Value := [.int .i64 x.unit.acc, .int .i64 x.unit.cli, .int .i64 x.amount]
def okFlow (x : Flow) : Prop := In64 x.unit.acc ∧ In64 x.unit.cli ∧ In64 x.amount
theorem rowsFlow (l : List Flow) : ∀ r ∈ l.map encFlow, r.length = 3 ∧ ∀ u ∈ r, u.oneCell' = true := by
  intro r hr
  obtain ⟨m, _, rfl⟩ := List.mem_map.1 hr
  refine ⟨rfl, ?_⟩
  simp only [encFlow, List.mem_cons, List.not_mem_nil, or_false, forall_eq_or_imp, forall_eq]
  exact ⟨rfl, rfl, rfl⟩
def okP (r : List Int) : Bool := !(r.headD 0 == 0)
def lgF (x : Flow) : Row Int := ⟨x.unit, [x.amount]⟩
def isPu (l : List Flow) : Bool := isK okP (l.map lgF)
def getPu (l : List Flow) (u : Un) : Int := (ofK (l.map lgF) u).headD 0
def sumPu (l : List Flow) (u : Un) : Int := ((l.filter fun x => decide (x.unit = u)).map (·.amount)).sum
theorem getPu_hit {x : Flow} {t : List Flow} {u : Un} (h : x.unit = u) : getPu (x :: t) u = x.amount := by
  unfold getPu
  rw [List.map_cons, ofK, if_pos (show (lgF x).unit = u from h)]; rfl
theorem getPu_miss {x : Flow} {t : List Flow} {u : Un} (h : x.unit ≠ u) : getPu (x :: t) u = getPu t u := by
  unfold getPu
  rw [List.map_cons, ofK, if_neg (show ¬ (lgF x).unit = u from h)]
theorem sumPu_hit {x : Flow} {t : List Flow} {u : Un} (h : x.unit = u) : sumPu (x :: t) u = x.amount + sumPu t u := by
  unfold sumPu
  rw [List.filter_cons_of_pos (by simpa using h), List.map_cons, List.sum_cons]
theorem sumPu_miss {x : Flow} {t : List Flow} {u : Un} (h : x.unit ≠ u) : sumPu (x :: t) u = sumPu t u := by
  unfold sumPu
  rw [List.filter_cons_of_neg (by simpa using h)]
theorem sumPu_app (l m : List Flow) (u : Un) : sumPu (l ++ m) u = sumPu l u + sumPu m u := by
  unfold sumPu; rw [List.filter_append, List.map_append, List.sum_append]
theorem sumPu_none {l : List Flow} {u : Un} (h : ∀ f ∈ l, f.unit ≠ u) : sumPu l u = 0 := by
  unfold sumPu
  rw [List.filter_eq_nil_iff.2 (fun f hf => by simpa using h f hf)]; rfl
theorem sum_get0 : ∀ {l : List Flow} (_ : SortK (l.map lgF)) (u : Un), sumPu l u = getPu l u
  | [], _, _ => rfl
  | x :: t, hs, u => by
    rw [List.map_cons] at hs
    unfold SortK at hs
    rw [List.pairwise_cons] at hs
    by_cases h : x.unit = u
    · rw [sumPu_hit h, getPu_hit h, sumPu_none fun f hf e => ?_]
      · omega
      · have h1 := hs.1 (lgF f) (List.mem_map.2 ⟨f, hf, rfl⟩)
        have h2 : lessU x.unit f.unit = true := h1
        rw [h, e, lessU_irr] at h2
        cases h2
    · rw [sumPu_miss h, getPu_miss h, sum_get0 hs.2 u]
theorem sum_get {l : List Flow} (h : isPu l = true) (u : Un) : sumPu l u = getPu l u := sum_get0 (isK_facts h).1 u
/-- Where a unit stands, or would. -/
def plU (o : List Un) (u : Un) : Nat := (o.takeWhile fun x => lessU x u).length
def insU (o : List Un) (u : Un) : List Un := if u ∈ o then o else o.take (plU o u) ++ u :: o.drop (plU o u)
def unitsP (l : List Flow) : List Un := l.foldl (fun o f => insU o f.unit) []
def SortU (o : List Un) : Prop := o.Pairwise (fun a b => lessU a b = true)
theorem plU_le (o : List Un) (u : Un) : plU o u ≤ o.length := (List.takeWhile_prefix _).length_le
theorem pl_lt : ∀ {o : List Un} {u : Un} {k : Nat} (hk : k < o.length), k < plU o u → lessU o[k] u = true
  | a :: o, u, k, hk, h => by
    unfold plU at h
    cases ha : lessU a u
    · rw [List.takeWhile_cons_of_neg (by rw [ha]; simp)] at h; simp at h
    · rw [List.takeWhile_cons_of_pos (p := fun x => lessU x u) ha, List.length_cons] at h
      match k with
      | 0 => exact ha
      | k + 1 => exact pl_lt (o := o) (by simpa using hk) (show k < plU o u by unfold plU; omega)
theorem pl_ge : ∀ {o : List Un} {u : Un} {k : Nat} (_ : SortU o) (hk : k < o.length), plU o u ≤ k → lessU o[k] u = false
  | a :: o, u, k, hs, hk, h => by
    unfold SortU at hs
    rw [List.pairwise_cons] at hs
    unfold plU at h
    cases ha : lessU a u
    · match k with
      | 0 => exact ha
      | k + 1 =>
        have h1 := hs.1 (o[k]'(by simpa using hk)) (List.getElem_mem _)
        show lessU (o[k]'(by simpa using hk)) u = false
        cases h2 : lessU (o[k]'(by simpa using hk)) u
        · rfl
        · rw [lessU_trans h1 h2] at ha; cases ha
    · rw [List.takeWhile_cons_of_pos (p := fun x => lessU x u) ha, List.length_cons] at h
      match k with
      | 0 => omega
      | k + 1 => exact pl_ge (o := o) hs.2 (by simpa using hk) (show plU o u ≤ k by unfold plU; omega)
theorem insU_mem {o : List Un} {u v : Un} : v ∈ insU o u ↔ v ∈ o ∨ v = u := by
  unfold insU
  split
  · rename_i h
    exact ⟨fun h1 => .inl h1, fun h1 => h1.elim id fun e => e ▸ h⟩
  · rw [List.mem_append, List.mem_cons]
    constructor
    · rintro (h | h | h)
      · exact .inl (List.mem_of_mem_take h)
      · exact .inr h
      · exact .inl (List.mem_of_mem_drop h)
    · rintro (h | h)
      · rw [← List.take_append_drop (plU o u) o, List.mem_append] at h
        exact h.elim .inl fun h => .inr (.inr h)
      · exact .inr (.inl h)
theorem insU_sort {o : List Un} {u : Un} (hs : SortU o) : SortU (insU o u) := by
  unfold insU
  split
  · exact hs
  · rename_i hn
    have h1 : ∀ a ∈ o.take (plU o u), lessU a u = true := fun a ha => by
      obtain ⟨i, hi, rfl⟩ := List.mem_iff_getElem.1 ha
      rw [List.length_take] at hi
      rw [List.getElem_take]
      exact pl_lt _ (by omega)
    have h2 : ∀ b ∈ o.drop (plU o u), lessU u b = true := fun b hb => by
      obtain ⟨i, hi, rfl⟩ := List.mem_iff_getElem.1 hb
      rw [List.getElem_drop]
      have h3 := pl_ge hs (u := u) (k := plU o u + i) (by rw [List.length_drop] at hi; omega) (by omega)
      rcases lessU_tri (o[plU o u + i]'(by rw [List.length_drop] at hi; omega)) u with h | h | h
      · rw [h3] at h; cases h
      · exact absurd (h ▸ List.getElem_mem _) hn
      · exact h
    unfold SortU at hs ⊢
    rw [List.pairwise_append, List.pairwise_cons]
    refine ⟨hs.sublist (List.take_sublist _ _), ⟨h2, hs.sublist (List.drop_sublist _ _)⟩, fun a ha b hb => ?_⟩
    rcases List.mem_cons.1 hb with rfl | hb
    · exact h1 a ha
    · exact lessU_trans (h1 a ha) (h2 b hb)
theorem insU_len (o : List Un) (u : Un) : (insU o u).length ≤ o.length + 1 := by
  unfold insU
  split
  · omega
  · rw [List.length_append, List.length_cons, List.length_take, List.length_drop]; omega
theorem unitsP_snoc {l : List Flow} {k : Nat} (h : k < l.length) : unitsP (l.take (k + 1)) = insU (unitsP (l.take k)) l[k].unit := by
  unfold unitsP
  rw [List.take_succ_eq_append_getElem h, List.foldl_append]; rfl
theorem unitsP_facts (l : List Flow) : ∀ k, k ≤ l.length → SortU (unitsP (l.take k)) ∧ (unitsP (l.take k)).length ≤ k ∧ ∀ v, v ∈ unitsP (l.take k) ↔ ∃ f ∈ l.take k, f.unit = v
  | 0, _ => ⟨List.Pairwise.nil, Nat.le_refl _, fun v => by simp [unitsP]⟩
  | k + 1, hk => by
    obtain ⟨h1, h2, h3⟩ := unitsP_facts l k (by omega)
    have h : k < l.length := hk
    rw [unitsP_snoc h]
    refine ⟨insU_sort h1, by have := insU_len (unitsP (l.take k)) l[k].unit; omega, fun v => ?_⟩
    rw [insU_mem, h3, List.take_succ_eq_append_getElem h]
    constructor
    · rintro (⟨f, hf, e⟩ | e)
      · exact ⟨f, List.mem_append.2 (.inl hf), e⟩
      · exact ⟨l[k], List.mem_append.2 (.inr (List.mem_singleton.2 rfl)), e.symm⟩
    · rintro ⟨f, hf, e⟩
      rcases List.mem_append.1 hf with hf | hf
      · exact .inl ⟨f, hf, e⟩
      · rw [List.mem_singleton] at hf
        exact .inr (by rw [← e, hf])
theorem unitsP_mem {l : List Flow} {v : Un} : v ∈ unitsP l ↔ ∃ f ∈ l, f.unit = v := by
  have h := (unitsP_facts l l.length (Nat.le_refl _)).2.2 v
  rwa [List.take_length] at h
theorem unitsP_len (l : List Flow) : (unitsP l).length ≤ l.length := by
  have h := (unitsP_facts l l.length (Nat.le_refl _)).2.1
  rwa [List.take_length] at h
/-- A purse behind some flows. -/
def payF (l : List Flow) (u : Un) : Int := if in64 (sumPu l u) then 0 else 7
def payC (L fs : List Flow) : Int := if isPu L then firstC (payF (L ++ fs)) (unitsP (L ++ fs)) else 3
def rowPu (l : List Flow) (u : Un) : List Flow := if sumPu l u = 0 then [] else [⟨u, sumPu l u⟩]
def rowsPu (l : List Flow) : List Un → List Flow
  | [] => []
  | u :: us => rowPu l u ++ rowsPu l us
def payL (L fs : List Flow) : List Flow := if payC L fs = 0 then rowsPu (L ++ fs) (unitsP (L ++ fs)) else []
theorem rowsPu_snoc (l : List Flow) : ∀ {us : List Un} {k : Nat} (h : k < us.length), rowsPu l (us.take (k + 1)) = rowsPu l (us.take k) ++ rowPu l us[k]
  | u :: us, 0, _ => by simp [rowsPu]
  | u :: us, k + 1, h => by
    have := rowsPu_snoc l (us := us) (k := k) (by simpa using h)
    simp only [List.take_succ_cons, rowsPu, List.getElem_cons_succ]
    rw [this, List.append_assoc]
theorem rowsPu_len (l : List Flow) : ∀ us : List Un, (rowsPu l us).length ≤ us.length
  | [] => Nat.le_refl _
  | u :: us => by
    have := rowsPu_len l us
    simp only [rowsPu, List.length_append, List.length_cons]
    have h1 : (rowPu l u).length ≤ 1 := by unfold rowPu; split <;> simp
    omega
theorem rowsPu_get (l : List Flow) (v : Un) : ∀ us : List Un, getPu (rowsPu l us) v = if v ∈ us then sumPu l v else 0
  | [] => rfl
  | u :: us => by
    have ih := rowsPu_get l v us
    by_cases h0 : sumPu l u = 0
    · have e : rowsPu l (u :: us) = rowsPu l us := by show rowPu l u ++ _ = _; unfold rowPu; rw [if_pos h0]; rfl
      rw [e, ih]
      by_cases hv : v = u
      · subst hv
        rw [if_pos (List.mem_cons_self ..), h0]
        split <;> rfl
      · by_cases hm : v ∈ us
        · rw [if_pos hm, if_pos (List.mem_cons_of_mem _ hm)]
        · rw [if_neg hm, if_neg (fun h => (List.mem_cons.1 h).elim hv hm)]
    · have e : rowsPu l (u :: us) = ⟨u, sumPu l u⟩ :: rowsPu l us := by show rowPu l u ++ _ = _; unfold rowPu; rw [if_neg h0]; rfl
      rw [e]
      by_cases hv : v = u
      · subst hv
        rw [getPu_hit rfl, if_pos (List.mem_cons_self ..)]
      · rw [getPu_miss (fun h => hv h.symm), ih]
        by_cases hm : v ∈ us
        · rw [if_pos hm, if_pos (List.mem_cons_of_mem _ hm)]
        · rw [if_neg hm, if_neg (fun h => (List.mem_cons.1 h).elim hv hm)]
theorem pay_facts {L fs : List Flow} (h : payC L fs = 0) : isPu L = true ∧ (∀ v, getPu (payL L fs) v = getPu L v + sumPu fs v) ∧ (∀ x ∈ payL L fs, In64 x.amount) ∧ (payL L fs).length ≤ L.length + fs.length := by
  have hL : payL L fs = rowsPu (L ++ fs) (unitsP (L ++ fs)) := if_pos h
  unfold payC at h
  cases hi : isPu L
  · rw [hi] at h; simp at h
  rw [hi, if_pos rfl] at h
  refine ⟨rfl, fun v => ?_, fun x hx => ?_, ?_⟩
  · rw [hL, rowsPu_get, ← sum_get hi, ← sumPu_app]
    split
    · rfl
    · rename_i hv
      exact (sumPu_none fun f hf e => hv (unitsP_mem.2 ⟨f, hf, e⟩)).symm
  · rw [hL] at hx
    have key : ∀ us : List Un, (∀ u ∈ us, payF (L ++ fs) u = 0) → ∀ x ∈ rowsPu (L ++ fs) us, In64 x.amount := by
      intro us
      induction us with
      | nil => intro _ x hx; simp [rowsPu] at hx
      | cons u us ih =>
        intro hu x hx
        simp only [rowsPu, List.mem_append] at hx
        rcases hx with hx | hx
        · unfold rowPu at hx
          split at hx
          · simp at hx
          · rw [List.mem_singleton] at hx
            subst hx
            have h1 := hu u (List.mem_cons_self ..)
            unfold payF at h1
            split at h1
            · rename_i h2; exact in64_iff.1 h2
            · cases h1
        · exact ih (fun v hv => hu v (List.mem_cons_of_mem _ hv)) x hx
    exact key _ (firstC_all h) x hx
  · rw [hL]
    have h1 := rowsPu_len (L ++ fs) (unitsP (L ++ fs))
    have h2 := unitsP_len (L ++ fs)
    rw [List.length_append] at h2
    omega
theorem getPu_in {l : List Flow} (h : ∀ x ∈ l, In64 x.amount) (u : Un) : In64 (getPu l u) := by
  induction l with
  | nil => simp [getPu, ofK, In64]
  | cons x t ih =>
    by_cases hx : x.unit = u
    · rw [getPu_hit hx]; exact h x (List.mem_cons_self ..)
    · rw [getPu_miss hx]; exact ih fun y hy => h y (List.mem_cons_of_mem _ hy)
end Go.Proofs.YtalgfpegaobacaaGreat

/- Holds, plain: what any are when a unit has a lot more, less of one, just some; when all of one, or some of a lot, goes to another one. No program in sight. -/
namespace Go.Proofs.YtalgfpegaobacaaGreat
open Go.RowKit
def ptC (L : List (Row Lot)) (u : Un) (x : Lot) : Int := if isK isL L then putLC (ofK L u) x else 3
def ptL (L : List (Row Lot)) (u : Un) (x : Lot) : List (Row Lot) := if ptC L u x = 0 then withK L u (putLL (ofK L u) x) else []
end Go.Proofs.YtalgfpegaobacaaGreat

/- What a margin unit has more than it must, plain; that what is given makes it no less. No program in sight. -/
namespace Go.Proofs.YtalgfpegaobacaaGreat
open Go.RowKit
/-- What a clearing house has on its books. -/
structure SideL where
  ats : List Asset
  ins : List InstV
  bk : List (Row Leg)
  pu : List Flow
  ho : List (Row Lot)
def partC (S : SideL) (v : Un) : Int := valC S.ats (ofK S.ho v) (getPu S.pu v)
def partN (S : SideL) (v : Un) : Int := valN S.ats (ofK S.ho v) (getPu S.pu v)
def rightS (S : SideL) : Bool := isK isV S.bk && (isPu S.pu && isK isL S.ho)
def excL (S : SideL) (x : Acct) (u : Un) : List Int := -(nofN S.ins S.bk x u) :: (partsN x u).map (partN S)
def excC (S : SideL) (x : Acct) (u : Un) : Int := if rightS S then (if nofC S.ins S.bk x u = 0 then (if firstC (partC S) (partsN x u) = 0 then sum64C (excL S x u) else firstC (partC S) (partsN x u)) else nofC S.ins S.bk x u) else 3
def excN (S : SideL) (x : Acct) (u : Un) : Int := if rightS S then (if nofC S.ins S.bk x u = 0 then (if firstC (partC S) (partsN x u) = 0 then sum64N (excL S x u) else 0) else 0) else 0
theorem sum64_no {l : List Int} (h : sum64C l ≠ 0) : sum64N l = 0 := by
  unfold sum64C at h
  unfold sum64N
  split
  · rename_i h1; rw [if_pos h1] at h; exact absurd rfl h
  · rfl
theorem sum64_yes {l : List Int} (h : sum64C l = 0) : sum64N l = l.sum := by
  unfold sum64C at h
  unfold sum64N
  split
  · rfl
  · rename_i h1; rw [if_neg h1] at h; cases h
theorem excN_no {S : SideL} {x : Acct} {u : Un} (h : excC S x u ≠ 0) : excN S x u = 0 := by
  unfold excC at h
  unfold excN
  split
  · rename_i h1
    rw [if_pos h1] at h
    split
    · rename_i h2
      rw [if_pos h2] at h
      split
      · rename_i h3
        rw [if_pos h3] at h
        exact sum64_no h
      · rfl
    · rfl
  · rfl
theorem exc_ok {S : SideL} {x : Acct} {u : Un} (h : excC S x u = 0) : rightS S = true ∧ nofC S.ins S.bk x u = 0 ∧ (∀ v ∈ partsN x u, partC S v = 0) ∧ excN S x u = (excL S x u).sum := by
  unfold excC at h
  cases hr : rightS S
  · rw [hr] at h; simp at h
  rw [hr, if_pos rfl] at h
  by_cases hn : nofC S.ins S.bk x u = 0
  · rw [if_pos hn] at h
    by_cases hp : firstC (partC S) (partsN x u) = 0
    · rw [if_pos hp] at h
      refine ⟨rfl, hn, firstC_all hp, ?_⟩
      unfold excN
      rw [hr, if_pos rfl, if_pos hn, if_pos hp, sum64_yes h]
    · rw [if_neg hp] at h; exact absurd h hp
  · rw [if_neg hn] at h; exact absurd h hn
theorem sum_le_map {f g : Un → Int} : ∀ {us : List Un} (_ : ∀ u ∈ us, f u ≤ g u), (us.map f).sum ≤ (us.map g).sum
  | [], _ => Int.le_refl _
  | u :: us, h => by
    have h1 := h u (List.mem_cons_self ..)
    have h2 := sum_le_map (us := us) fun v hv => h v (List.mem_cons_of_mem _ hv)
    simp only [List.map_cons, List.sum_cons]
    omega
/-- What is given makes the excess no less. -/
theorem exc_more {S T : SideL} {x : Acct} {u : Un} (hi : T.ins = S.ins) (hb : T.bk = S.bk) (h : excC S x u = 0) (k : excC T x u = 0)
    (hv : ∀ v, partC S v = 0 → partC T v = 0 → partN S v ≤ partN T v) : excN S x u ≤ excN T x u := by
  obtain ⟨_, _, h3, h4⟩ := exc_ok h
  obtain ⟨_, _, k3, k4⟩ := exc_ok k
  rw [h4, k4]
  have := sum_le_map (us := partsN x u) (f := partN S) (g := partN T) fun v hm => hv v (h3 v hm) (k3 v hm)
  unfold excL
  rw [hi, hb]
  simp only [List.sum_cons]
  omega
theorem vC_all {E : Asset → Int → Int} {ats : List Asset} : ∀ {l : List Lot} (_ : vC E ats l = 0), ∀ y ∈ l, E (findAsset ats y.asset).1 y.qty = 0
  | [], _, y, hy => by simp at hy
  | x :: t, h, y, hy => by
    cases hf : (findAsset ats x.asset).2
    · rw [vC_none hf] at h; cases h
    · by_cases h0 : E (findAsset ats x.asset).1 x.qty = 0
      · rw [vC_step hf h0] at h
        rcases List.mem_cons.1 hy with rfl | hy
        · exact h0
        · exact vC_all h y hy
      · rw [vC_bad hf h0] at h; exact absurd h h0
theorem countN_pos (x : Asset) (q : Int) : 0 ≤ countN x q := by
  unfold countN
  split
  · rename_i h; exact (count_le h.1 h.2.1).1
  · exact Int.le_refl _
theorem countN_more {x : Asset} {q r : Int} (h : countE x r = 0) (hr : 0 ≤ r) (hqr : q ≤ r) : countN x q ≤ countN x r := by
  have ho : okA x := by
    unfold countE at h
    split at h
    · assumption
    · cases h
  have hin : in64 (r * x.price) = true := by
    unfold countE at h
    rw [if_pos ho, if_neg (by omega)] at h
    exact okE_zero h
  have e : countN x r = countA x r := by unfold countN; rw [if_pos ⟨ho, hr, hin⟩]
  rw [e]
  unfold countN
  split
  · exact count_mono ho hqr
  · exact (count_le ho hr).1
theorem sum_set {g : Lot → Int} : ∀ {l : List Lot} {i : Nat} (h : i < l.length) (y : Lot), ((l.set i y).map g).sum = (l.map g).sum - g l[i] + g y
  | a :: l, 0, _, y => by simp only [List.set_cons_zero, List.map_cons, List.sum_cons, List.getElem_cons_zero]; omega
  | a :: l, i + 1, h, y => by
    have := sum_set (g := g) (l := l) (i := i) (by simpa using h) y
    simp only [List.set_cons_succ, List.map_cons, List.sum_cons, List.getElem_cons_succ]
    omega
theorem putLC_ok {l : List Lot} {x : Lot} (h : putLC l x = 0) : isL l = true ∧ rightL x = true := by
  unfold putLC at h
  by_cases hc : codeL l x = 0
  · unfold codeL at hc
    cases h1 : isL l
    · rw [h1] at hc; simp at hc
    · cases h2 : rightL x
      · rw [h1, h2] at hc; simp at hc
      · exact ⟨rfl, rfl⟩
  · rw [if_neg hc] at h; exact absurd h hc
theorem val_put {ats : List Asset} {l : List Lot} {x : Lot} {c d : Int} (hp : putLC l x = 0) (h : valC ats l c = 0) (k : valC ats (putLL l x) d = 0) (hcd : c ≤ d) : valN ats l c ≤ valN ats (putLL l x) d := by
  obtain ⟨hl, hx⟩ := putLC_ok hp
  have hxq := (rightL_iff.1 hx).2.2.2.2
  have hlq := fun y hy => (rightL_iff.1 ((isL_sort hl).2.1 y hy)).2.2.2.2
  have vz : ∀ {m : List Lot} {e : Int}, valC ats m e = 0 → vaC countE ats m = 0 ∧ valN ats m e = (vL countN ats m).sum + e := by
    intro m e hm
    unfold valC at hm
    by_cases h0 : vaC countE ats m = 0
    · rw [if_pos h0] at hm
      refine ⟨h0, ?_⟩
      unfold valN
      rw [if_pos h0, sum64_yes hm, List.sum_append]
      simp
    · rw [if_neg h0] at hm; exact absurd hm h0
  obtain ⟨h1, h2⟩ := vz h
  obtain ⟨k1, k2⟩ := vz k
  rw [h2, k2]
  have hv : vC countE ats (putLL l x) = 0 := by
    unfold vaC at k1
    split at k1
    · exact k1
    · cases k1
  have hall := vC_all hv
  have hpl : putLL l x = if thL l x then l.set (plL l x) ⟨x.asset, x.tag, (l.getD (plL l x) ⟨0, 0, 0⟩).qty + x.qty⟩ else l.take (plL l x) ++ x :: l.drop (plL l x) := by unfold putLL; rw [if_pos hp]
  rw [hpl] at hall ⊢
  cases ht : thL l x
  · rw [ht] at hall
    simp only [Bool.false_eq_true, if_false] at hall ⊢
    have e : (vL countN ats (l.take (plL l x) ++ x :: l.drop (plL l x))).sum = (vL countN ats l).sum + countN (findAsset ats x.asset).1 x.qty := by
      have e1 : (vL countN ats l).sum = (vL countN ats (l.take (plL l x))).sum + (vL countN ats (l.drop (plL l x))).sum := by
        rw [← List.sum_append]
        unfold vL
        rw [← List.map_append, List.take_append_drop]
      rw [e1]
      unfold vL
      rw [List.map_append, List.sum_append, List.map_cons, List.sum_cons]
      omega
    have := countN_pos (findAsset ats x.asset).1 x.qty
    rw [e]; omega
  · have hi := thL_lt ht
    have he := thL_eq ht
    rw [ht] at hall
    simp only [if_true] at hall ⊢
    rw [getD_at hi] at hall ⊢
    have hy := hall _ (List.mem_set hi _)
    have h5 := countN_more (q := (l[plL l x]).qty) hy (by have := hlq _ (List.getElem_mem hi); show 0 ≤ (l[plL l x]).qty + x.qty; omega) (show (l[plL l x]).qty ≤ (l[plL l x]).qty + x.qty by omega)
    unfold vL
    rw [sum_set (g := fun y => countN (findAsset ats y.asset).1 y.qty) hi, he.1]
    dsimp only at h5 ⊢
    omega
theorem val_cash {ats : List Asset} {l : List Lot} {c d : Int} (h : valC ats l c = 0) (k : valC ats l d = 0) (hcd : c ≤ d) : valN ats l c ≤ valN ats l d := by
  unfold valC at h k
  unfold valN
  by_cases h0 : vaC countE ats l = 0
  · rw [if_pos h0] at h k
    rw [if_pos h0, if_pos h0, sum64_yes h, sum64_yes k, List.sum_append, List.sum_append]
    simp; omega
  · rw [if_neg h0] at h; exact absurd h h0
/-- A side with a lot more, with cash more, for a unit: where it may be. -/
def moreS (S : SideL) (u : Un) (x : Lot) (cash : Int) : SideL := { S with pu := if payC S.pu [⟨u, cash⟩] = 0 then payL S.pu [⟨u, cash⟩] else S.pu, ho := if ptC S.ho u x = 0 then ptL S.ho u x else S.ho }
theorem more_ok {S : SideL} {y : Acct} {u w : Un} {x : Lot} {cash : Int} (hc : 0 ≤ cash) (h : excC S y w = 0) (k : excC (moreS S u x cash) y w = 0) : excN S y w ≤ excN (moreS S u x cash) y w := by
  refine exc_more (T := moreS S u x cash) rfl rfl h k fun v h1 k1 => ?_
  have hg : getPu S.pu v ≤ getPu (moreS S u x cash).pu v := by
    show _ ≤ getPu (if payC S.pu [⟨u, cash⟩] = 0 then payL S.pu [⟨u, cash⟩] else S.pu) v
    split
    · rename_i hp
      rw [(pay_facts hp).2.1 v]
      by_cases hv : u = v
      · rw [sumPu_hit (show (⟨u, cash⟩ : Flow).unit = v from hv)]
        show _ ≤ _ + (cash + 0)
        omega
      · rw [sumPu_miss (show (⟨u, cash⟩ : Flow).unit ≠ v from hv)]
        show _ ≤ _ + 0
        omega
    · exact Int.le_refl _
  have hl : ofK (moreS S u x cash).ho v = ofK S.ho v ∨ (putLC (ofK S.ho v) x = 0 ∧ ofK (moreS S u x cash).ho v = putLL (ofK S.ho v) x) := by
    show ofK (if ptC S.ho u x = 0 then ptL S.ho u x else S.ho) v = _ ∨ (_ ∧ ofK (if ptC S.ho u x = 0 then ptL S.ho u x else S.ho) v = _)
    by_cases hp : ptC S.ho u x = 0
    · rw [if_pos hp]
      have e : ptL S.ho u x = withK S.ho u (putLL (ofK S.ho u) x) := if_pos hp
      rw [e, of_with]
      by_cases hv : v = u
      · subst hv
        rw [if_pos rfl]
        refine .inr ⟨?_, rfl⟩
        unfold ptC at hp
        cases hi : isK isL S.ho
        · rw [hi] at hp; simp at hp
        · rw [hi, if_pos rfl] at hp; exact hp
      · rw [if_neg hv]; exact .inl rfl
    · rw [if_neg hp]; exact .inl rfl
  unfold partC at h1 k1
  unfold partN
  have ha : (moreS S u x cash).ats = S.ats := rfl
  rw [ha] at k1 ⊢
  rcases hl with hl | ⟨hp, hl⟩
  · rw [hl] at k1 ⊢
    exact val_cash h1 k1 hg
  · rw [hl] at k1 ⊢
    exact val_put hp h1 k1 hg
end Go.Proofs.YtalgfpegaobacaaGreat

/- Assets: contract of asset.Find. -/
namespace Go.Proofs.YtalgfpegaobacaaGreat
open Go.RowKit
set_option maxRecDepth 100000 in
set_option maxHeartbeats 2000000 in
theorem assetFind (l : List Asset) (id : Int) (A : Option Addr) (c : Nat) (w : World) (hl : l.length ≤ 1099511627776) (hr : Rd w A 3 (l.map encAsset)) :
    Calls Tryz.prog 75 #[.slice A l.length c, .int .i64 id] w fun e w' => e = .returned (.tuple #[.agg #[.int .i64 (findAsset l id).1.id, .int .i64 (findAsset l id).1.price, .int .i64 (findAsset l id).1.hair], .bool (findAsset l id).2]) ∧ Below w.heap.size w w' := by
  have Hr := Lib.hid hr
  clear hr
  go_enter Tryz.func75, Tryz.ntmps75
  go_wp2_with fail
  go_loopw [10] (fun i wr => ∃ k : Nat, k ≤ l.length ∧ i = .int .i64 k ∧ Below w.heap.size w wr ∧ w.heap.size < wr.heap.size ∧ (wr.cell? ⟨w.heap.size, 0, none⟩ = some (.int .i64 0) ∧ wr.cell? ⟨w.heap.size, 1, none⟩ = some (.int .i64 0) ∧ wr.cell? ⟨w.heap.size, 2, none⟩ = some (.int .i64 0) ∧ wr.frozen? ⟨w.heap.size, 0, none⟩ = false ∧ wr.frozen? ⟨w.heap.size, 1, none⟩ = false ∧ wr.frozen? ⟨w.heap.size, 2, none⟩ = false) ∧ ∀ j (_ : j < l.length), j < k → (l[j].id == id) = false) (fun i _ => l.length - (intOf i).toNat)
  case atStart => exact ⟨0, Nat.zero_le _, rfl, by (repeat' (first | (with_reducible exact Below.refl _ _) | (with_reducible assumption) | (with_reducible refine Below.alloc ?_ ?_ _) | (with_reducible refine Below.setCell ?_ ?_ _) | (with_reducible refine Below.drew ?_) | (with_reducible refine below_drewN ?_ _) | (with_reducible refine below_via ?_ (by with_reducible assumption) ?_) | omega | (simp; done) | (simp; omega))), by simp, by simp [go_sem], fun j _ h => absurd h (by omega)⟩
  case round =>
    obtain ⟨k, hk, rfl, hbl, hsz, ⟨g0, g1, g2, f0, f1, f2⟩, hno⟩ := hrel
    have Hbl := Lib.hid hbl
    have Hno := Lib.hid hno
    have hz := hbl.size
    clear hbl hno
    by_cases hlt : k < l.length
    · have hki : (k : Int) < (l.length : Int) := by omega
      have dl : decide ((k : Int) < (l.length : Int)) = true := by simpa using hlt
      obtain ⟨b, o, rfl, hb, hc⟩ := Hr.out k (encAsset l[k]) (by simp [hlt])
      have c0 := (Hbl.out.cell (p := ⟨b, o + k * 3 + 0, none⟩) hb).trans (hc 0 _ rfl)
      have c1 := (Hbl.out.cell (p := ⟨b, o + k * 3 + 1, none⟩) hb).trans (hc 1 _ rfl)
      have c2 := (Hbl.out.cell (p := ⟨b, o + k * 3 + 2, none⟩) hb).trans (hc 2 _ rfl)
      simp only [Nat.add_zero] at c0
      clear hc
      cases hm : (l[k].id == id)
      · have Hm := Lib.hid hm
        go_wp2_with fail
        go_roundw
        case rel => exact ⟨k + 1, by omega, by go_num, by have hbl := Hbl.out; (repeat' (first | (with_reducible exact Below.refl _ _) | (with_reducible assumption) | (with_reducible refine Below.alloc ?_ ?_ _) | (with_reducible refine Below.setCell ?_ ?_ _) | (with_reducible refine Below.drew ?_) | (with_reducible refine below_drewN ?_ _) | (with_reducible refine below_via ?_ (by with_reducible assumption) ?_) | omega | (simp; done) | (simp; omega))), by simp; omega, by simp [go_sem, g0, g1, g2, f0, f1, f2, ↓IntWalk.iteOmega], fun j hj h => by
          rcases Nat.lt_or_ge j k with h1 | h1
          · exact Hno.out j hj h1
          · obtain rfl : j = k := by omega
            exact Hm.out⟩
        case measure => simp [intOf]; omega
      · have hi := findAsset_hit hlt hm Hno.out
        have Hi := Lib.hid hi
        clear hi
        go_wp2_with fail
        rw [Hi.out]
        have hbl := Hbl.out
        refine bodyPost_ret (by simp [results, Tryz.results75, go_sem, g0, g1, g2]; try rfl) rfl ⟨rfl, ?_⟩
        (repeat' (first | (with_reducible exact Below.refl _ _) | (with_reducible assumption) | (with_reducible refine Below.alloc ?_ ?_ _) | (with_reducible refine Below.setCell ?_ ?_ _) | (with_reducible refine Below.drew ?_) | (with_reducible refine below_drewN ?_ _) | (with_reducible refine below_via ?_ (by with_reducible assumption) ?_) | omega | (simp; done) | (simp; omega)))
    · have dl : decide ((k : Int) < (l.length : Int)) = false := by simpa using hlt
      have hi := findAsset_miss (l := l) (fun j hj => Hno.out j hj (by omega))
      have Hi := Lib.hid hi
      clear hi
      go_wp2_with fail
      rw [Hi.out]
      have hbl := Hbl.out
      refine bodyPost_ret (by simp [results, Tryz.results75, go_sem, g0, g1, g2]; try rfl) rfl ⟨rfl, ?_⟩
      (repeat' (first | (with_reducible exact Below.refl _ _) | (with_reducible assumption) | (with_reducible refine Below.alloc ?_ ?_ _) | (with_reducible refine Below.setCell ?_ ?_ _) | (with_reducible refine Below.drew ?_) | (with_reducible refine below_drewN ?_ _) | (with_reducible refine below_via ?_ (by with_reducible assumption) ?_) | omega | (simp; done) | (simp; omega)))
end Go.Proofs.YtalgfpegaobacaaGreat

/- Lots: contracts of lots.right, order, Is, Get, checked; the search. -/
namespace Go.Proofs.YtalgfpegaobacaaGreat
open Go.RowKit
theorem elLot : Elem Tryz.prog 65 33 3 24 := elem_of Tryz.underlying65 (z := .agg #[.int .i64 0, .int .i64 0, .int .i64 0]) (by kernel_rfl) rfl (by omega)
set_option maxRecDepth 100000 in
set_option maxHeartbeats 2000000 in
theorem lotRight (x : Lot) (w : World) : Calls Tryz.prog 92 #[.agg #[.int .i64 x.asset, .int .i64 x.tag, .int .i64 x.qty]] w fun e w' => e = .returned (.bool (rightL x)) ∧ Below w.heap.size w w' := by
  by_cases t0 : 1 ≤ x.asset
  rotate_left
  · have d0 := decide_eq_false t0
    have HN := Lib.hid (rightL_no (x := x) (by omega))
    go_enter Tryz.func92, Tryz.ntmps92
    go_wp2_with fail
    go_ret
    exact ⟨by rw [HN.out]; first | done | rfl, by (repeat' (first | (with_reducible exact Below.refl _ _) | (with_reducible assumption) | (with_reducible refine Below.alloc ?_ ?_ _) | (with_reducible refine Below.setCell ?_ ?_ _) | (with_reducible refine Below.drew ?_) | (with_reducible refine below_drewN ?_ _) | (with_reducible refine below_via ?_ (by with_reducible assumption) ?_) | omega | (simp; done) | (simp; omega)))⟩
  have d0 := decide_eq_true t0
  by_cases t1 : x.asset ≤ 4
  rotate_left
  · have d1 := decide_eq_false t1
    have HN := Lib.hid (rightL_no (x := x) (by omega))
    go_enter Tryz.func92, Tryz.ntmps92
    go_wp2_with fail
    go_ret
    exact ⟨by rw [HN.out]; first | done | rfl, by (repeat' (first | (with_reducible exact Below.refl _ _) | (with_reducible assumption) | (with_reducible refine Below.alloc ?_ ?_ _) | (with_reducible refine Below.setCell ?_ ?_ _) | (with_reducible refine Below.drew ?_) | (with_reducible refine below_drewN ?_ _) | (with_reducible refine below_via ?_ (by with_reducible assumption) ?_) | omega | (simp; done) | (simp; omega)))⟩
  have d1 := decide_eq_true t1
  by_cases t2 : 0 ≤ x.tag
  rotate_left
  · have d2 := decide_eq_false t2
    have HN := Lib.hid (rightL_no (x := x) (by omega))
    go_enter Tryz.func92, Tryz.ntmps92
    go_wp2_with fail
    go_ret
    exact ⟨by rw [HN.out]; first | done | rfl, by (repeat' (first | (with_reducible exact Below.refl _ _) | (with_reducible assumption) | (with_reducible refine Below.alloc ?_ ?_ _) | (with_reducible refine Below.setCell ?_ ?_ _) | (with_reducible refine Below.drew ?_) | (with_reducible refine below_drewN ?_ _) | (with_reducible refine below_via ?_ (by with_reducible assumption) ?_) | omega | (simp; done) | (simp; omega)))⟩
  have d2 := decide_eq_true t2
  by_cases t3 : x.tag ≤ 255
  rotate_left
  · have d3 := decide_eq_false t3
    have HN := Lib.hid (rightL_no (x := x) (by omega))
    go_enter Tryz.func92, Tryz.ntmps92
    go_wp2_with fail
    go_ret
    exact ⟨by rw [HN.out]; first | done | rfl, by (repeat' (first | (with_reducible exact Below.refl _ _) | (with_reducible assumption) | (with_reducible refine Below.alloc ?_ ?_ _) | (with_reducible refine Below.setCell ?_ ?_ _) | (with_reducible refine Below.drew ?_) | (with_reducible refine below_drewN ?_ _) | (with_reducible refine below_via ?_ (by with_reducible assumption) ?_) | omega | (simp; done) | (simp; omega)))⟩
  have d3 := decide_eq_true t3
  by_cases t4 : 0 < x.qty
  rotate_left
  · have d4 := decide_eq_false t4
    have HN := Lib.hid (rightL_no (x := x) (by omega))
    go_enter Tryz.func92, Tryz.ntmps92
    go_wp2_with fail
    go_ret
    exact ⟨by rw [HN.out]; first | done | rfl, by (repeat' (first | (with_reducible exact Below.refl _ _) | (with_reducible assumption) | (with_reducible refine Below.alloc ?_ ?_ _) | (with_reducible refine Below.setCell ?_ ?_ _) | (with_reducible refine Below.drew ?_) | (with_reducible refine below_drewN ?_ _) | (with_reducible refine below_via ?_ (by with_reducible assumption) ?_) | omega | (simp; done) | (simp; omega)))⟩
  have d4 := decide_eq_true t4
  have HN := Lib.hid (rightL_iff (x := x).2 ⟨by omega, by omega, by omega, by omega, by omega⟩)
  go_enter Tryz.func92, Tryz.ntmps92
  go_wp2_with fail
  go_ret
  exact ⟨by rw [HN.out]; first | done | rfl, by (repeat' (first | (with_reducible exact Below.refl _ _) | (with_reducible assumption) | (with_reducible refine Below.alloc ?_ ?_ _) | (with_reducible refine Below.setCell ?_ ?_ _) | (with_reducible refine Below.drew ?_) | (with_reducible refine below_drewN ?_ _) | (with_reducible refine below_via ?_ (by with_reducible assumption) ?_) | omega | (simp; done) | (simp; omega)))⟩
set_option maxHeartbeats 400000 in
theorem cmpInt (a b : Int) (w : World) :
    Calls Tryz.prog 107 #[.int .i64 a, .int .i64 b] w fun e w' => e = .returned (.int .i64 (ord a b)) ∧ w = w' := by
  go_enter Tryz.func107, Tryz.ntmps107
  go_wp2
  all_goals (go_ret; exact ⟨ret_int (by unfold ord; repeat' split <;> omega), rfl⟩)
set_option maxRecDepth 100000 in
set_option maxHeartbeats 4000000 in
theorem lotOrder (a b : Lot) (w : World) : Calls Tryz.prog 93 #[.agg #[.int .i64 a.asset, .int .i64 a.tag, .int .i64 a.qty], .agg #[.int .i64 b.asset, .int .i64 b.tag, .int .i64 b.qty]] w fun e w' => e = .returned (.int .i64 (ordL a b)) ∧ Below w.heap.size w w' := by
  unfold ordL
  generalize ho1 : ord a.asset b.asset = o1
  generalize ho2 : ord a.tag b.tag = o2
  have C1 := Lib.hid (fun W => show Calls Tryz.prog 107 #[.int .i64 a.asset, .int .i64 b.asset] W fun e w' => e = .returned (.int .i64 o1) ∧ W = w' from by rw [← ho1]; exact cmpInt _ _ _)
  have C2 := Lib.hid (fun W => show Calls Tryz.prog 107 #[.int .i64 a.tag, .int .i64 b.tag] W fun e w' => e = .returned (.int .i64 o2) ∧ W = w' from by rw [← ho2]; exact cmpInt _ _ _)
  clear ho1 ho2
  go_enter Tryz.func93, Tryz.ntmps93
  go_wp2_with fail
  go_region_held3 (fun w' => (w'.cell? ⟨w.heap.size, 0, none⟩ = some (.int .i64 a.asset) ∧ w'.cell? ⟨w.heap.size, 1, none⟩ = some (.int .i64 a.tag)) ∧ w'.cell? ⟨w.heap.size + 1, 0, none⟩ = some (.int .i64 b.asset) ∧ w'.cell? ⟨w.heap.size + 1, 1, none⟩ = some (.int .i64 b.tag)) (first | (simp [go_sem]; done) | (repeat' (first | (with_reducible assumption) | (with_reducible refine And.intro ?_ ?_) | (with_reducible refine cell_drew ?_) | (with_reducible refine cell_via (by with_reducible assumption) ?_ ?_) | (simp [*]; done) | (simp [go_sem]; done) | (with_reducible refine cell_alloc ?_ ?_) | (with_reducible refine cell_set_far ?_ ?_) | omega | (simp; omega)))) (first | (go_at_call 107; (with_reducible refine (C1.out _).mono ?_); rintro e w1 ⟨rfl, rfl⟩) | (go_at_call 107; (with_reducible refine (C2.out _).mono ?_); rintro e w2 ⟨rfl, rfl⟩) | (go_at_call 106; (with_reducible refine (cmpOr2 o1 o2 _ _ 0 _ ?_ ?_).mono ?_); (focus (simp [go_sem]; done)); (focus (simp [go_sem]; done)); rintro e w3 ⟨rfl, rfl⟩) | fail)
  all_goals
    go_wp2_with fail
    go_ret
    exact ⟨rfl, by (repeat' (first | (with_reducible exact Below.refl _ _) | (with_reducible assumption) | (with_reducible refine Below.alloc ?_ ?_ _) | (with_reducible refine Below.setCell ?_ ?_ _) | (with_reducible refine Below.drew ?_) | (with_reducible refine below_drewN ?_ _) | (with_reducible refine below_via ?_ (by with_reducible assumption) ?_) | omega | (simp; done) | (simp; omega)))⟩
end Go.Proofs.YtalgfpegaobacaaGreat
