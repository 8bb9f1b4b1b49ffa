/- Joined: GrdP, NedP, Acct1, Acct2, Ned1. -/
import Derived.Test.YtiidplinmempcaaJb4
import Derived.Test.YtiidplinmempcaaJb5
import Derived.Test.YtiidplinmempcaaJb2
import Derived.Test.YtiidplinmempcaaJb1
import Derived.Test.YtiidplinmempcaaJb3
import Derived.Test.YtiidplinmempcaaJz2
import Derived.Test.YtiidplinmempcaaJz7
import Derived.Outline
import Derived.Test.YtiidplinmempcaaRows
import Derived.WalkKit
import Derived.WalkSpells
import Derived.WalkLawsBesides
import Derived.BigQuiet
import Derived.Deep.RegionHeld3
import Derived.Deep.RegionLaw
import Derived.Handy
/- Layer 24, plain: what a vector loses in a scenario, and in the worst one; two as one, twice one. No program in sight. -/
namespace Go.Proofs.Ytiidplinmempcaa
open Go.RowKit
/-- What a leg makes in a scenario. -/
def legS (t : List InstV) (s : Int) (x : Leg) : Int := shockI (lgI (findInstV t x.inst).1) x.qty s
def known (t : List InstV) (l : List Leg) : Bool := l.all fun x => (findInstV t x.inst).2
def gnN (t : List InstV) (l : List Leg) (s : Int) : Int := (l.map (legS t s)).sum
def lossC (t : List InstV) (l : List Leg) : Int := if isV l then (if known t l then 0 else 11) else 3
def lossN (t : List InstV) (l : List Leg) (s : Int) : Int := if isV l && known t l then - gnN t l s else 0
/-- The greatest of 0 and the first n losses, and where it is first. -/
def mostN (f : Int → Int) : Nat → Int × Int
  | 0 => (0, -1)
  | k + 1 => if (mostN f k).1 < f k then (f k, k) else mostN f k
def marginN (t : List InstV) (l : List Leg) : Int := if lossC t l = 0 then (if in64 (mostN (lossN t l) 8).1 then (mostN (lossN t l) 8).1 else 0) else 0
def marginC (t : List InstV) (l : List Leg) : Int := if lossC t l = 0 then (if in64 (mostN (lossN t l) 8).1 then 0 else 7) else lossC t l
/-- The greatest number of a leg's move: bounds. -/
theorem legS_bound {t : List InstV} {x : Leg} {s : Int} (h : In64 x.qty) : -1298074214633706907132624082305024 ≤ legS t s x ∧ legS t s x ≤ 1298074214633706907132624082305024 := by
  unfold legS
  generalize lgI (findInstV t x.inst).1 = y
  by_cases hs : okS y s
  · obtain ⟨k, rfl, hk⟩ := okS_nat hs
    rw [shock_yes hs.1 hk]
    have hmv := okI_move hs.1 hk
    have hm := hs.1.2.2
    have e1 := mul_le_of (a := y.moves[k]) (b := y.mult) (A := 2147483647) (B := 65536) (by omega) (by omega) 140737488289792 (by omega)
    have e2 := mul_le_of (a := y.moves[k] * y.mult) (b := x.qty) (A := 140737488355328) (B := 9223372036854775808) (by omega) (by unfold In64 at h; omega) 1298074214633706907132624082305024 (by omega)
    omega
  · rw [shock_no hs]; omega
theorem gain_bound {t : List InstV} {s : Int} : ∀ {l : List Leg} (_ : Legs64 l), -(l.length * 1298074214633706907132624082305024 : Int) ≤ gnN t l s ∧ gnN t l s ≤ l.length * 1298074214633706907132624082305024
  | [], _ => by simp [gnN]
  | x :: l, h => by
    have h1 := gain_bound (t := t) (s := s) (l := l) fun y hy => h y (by simp [hy])
    have h2 := legS_bound (t := t) (s := s) (h x (by simp))
    unfold gnN at h1 ⊢
    simp only [List.map_cons, List.sum_cons, List.length_cons]
    omega
theorem legS_in {t : List InstV} {x : Leg} {s : Int} (h : In64 x.qty) : In128 (legS t s x) := by
  have := legS_bound (t := t) (s := s) h
  unfold In128; omega
theorem gain_in {t : List InstV} {l : List Leg} {s : Int} (h : Legs64 l) (hl : l.length ≤ 1000) : In128 (gnN t l s) ∧ In128 (- gnN t l s) := by
  have := gain_bound (t := t) (s := s) h
  unfold In128; omega
theorem loss_in {t : List InstV} {l : List Leg} {s : Int} (h : Legs64 l) (hl : l.length ≤ 1000) : In128 (lossN t l s) := by
  unfold lossN
  split
  · exact (gain_in h hl).2
  · unfold In128; omega
theorem loss_ok {t : List InstV} {l : List Leg} (h : lossC t l = 0) : isV l = true ∧ known t l = true ∧ ∀ s, lossN t l s = - gnN t l s := by
  unfold lossC at h
  split at h
  · rename_i h1
    split at h
    · rename_i h2; exact ⟨h1, h2, fun s => by unfold lossN; rw [h1, h2]; rfl⟩
    · cases h
  · cases h
theorem loss_no {t : List InstV} {l : List Leg} (h : lossC t l ≠ 0) : ∀ s, lossN t l s = 0 := by
  intro s
  unfold lossN
  rw [if_neg]
  intro h1
  rw [Bool.and_eq_true] at h1
  apply h
  unfold lossC
  rw [if_pos h1.1, if_pos h1.2]
theorem most_zero {f : Int → Int} (h : ∀ s, f s = 0) : ∀ n, mostN f n = (0, -1)
  | 0 => rfl
  | n + 1 => by unfold mostN; rw [most_zero h n, h]; rfl
theorem most_nonneg (f : Int → Int) : ∀ n, 0 ≤ (mostN f n).1
  | 0 => by simp [mostN]
  | n + 1 => by have := most_nonneg f n; unfold mostN; split <;> (try simp only []) <;> omega
theorem most_ge (f : Int → Int) : ∀ (n k : Nat), k < n → f k ≤ (mostN f n).1
  | n + 1, k, h => by
    unfold mostN
    rcases Nat.lt_or_ge k n with h1 | h1
    · have := most_ge f n k h1; split <;> (try simp only []) <;> omega
    · obtain rfl : k = n := by omega
      split <;> (try simp only []) <;> omega
theorem most_is (f : Int → Int) : ∀ n, (mostN f n).1 = 0 ∨ ∃ k, k < n ∧ (mostN f n).1 = f (k : Nat)
  | 0 => .inl rfl
  | n + 1 => by
    unfold mostN
    split
    · exact .inr ⟨n, by omega, rfl⟩
    · rcases most_is f n with h | ⟨k, hk, h⟩
      · exact .inl h
      · exact .inr ⟨k, by omega, h⟩
theorem most_in {f : Int → Int} (h : ∀ s, In128 (f s)) (n : Nat) : In128 (mostN f n).1 := by
  rcases most_is f n with h1 | ⟨k, _, h1⟩
  · rw [h1]; unfold In128; omega
  · rw [h1]; exact h k
theorem most_add {f g h : Int → Int} (he : ∀ s, h s = f s + g s) (n : Nat) : (mostN h n).1 ≤ (mostN f n).1 + (mostN g n).1 := by
  rcases most_is h n with h1 | ⟨k, hk, h1⟩
  · rw [h1]; have := most_nonneg f n; have := most_nonneg g n; omega
  · rw [h1, he]; have := most_ge f n k hk; have := most_ge g n k hk; omega
theorem most_twice {f h : Int → Int} (he : ∀ s, h s = f s + f s) : ∀ n, (mostN h n).1 = (mostN f n).1 + (mostN f n).1
  | 0 => rfl
  | n + 1 => by
    have ih := most_twice he n
    unfold mostN
    rw [he]
    by_cases h1 : (mostN f n).1 < f n
    · rw [if_pos h1, if_pos (by omega)]
    · rw [if_neg h1, if_neg (by omega)]; exact ih
/-- The sum of f 1 .. f n. -/
def upTo (f : Int → Int) : Nat → Int
  | 0 => 0
  | n + 1 => upTo f n + f ((n : Int) + 1)
theorem upTo_add (f g : Int → Int) : ∀ n, upTo (fun i => f i + g i) n = upTo f n + upTo g n
  | 0 => rfl
  | n + 1 => by simp only [upTo]; rw [upTo_add f g n]; omega
theorem upTo_congr {f g : Int → Int} : ∀ {n : Nat} (_ : ∀ i : Int, 1 ≤ i → i ≤ n → f i = g i), upTo f n = upTo g n
  | 0, _ => rfl
  | n + 1, h => by simp only [upTo]; rw [upTo_congr (n := n) fun i h1 h2 => h i h1 (by omega), h _ (by omega) (by omega)]
theorem upTo_one (j c : Int) : ∀ n : Nat, upTo (fun i => if j = i then c else 0) n = if 1 ≤ j ∧ j ≤ n then c else 0
  | 0 => by simp only [upTo]; rw [if_neg (by omega)]
  | n + 1 => by
    simp only [upTo]
    rw [upTo_one j c n]
    by_cases h : j = (n : Int) + 1
    · rw [if_neg (by omega), if_pos h, if_pos (by omega)]; omega
    · rw [if_neg h]
      by_cases h1 : 1 ≤ j ∧ j ≤ n
      · rw [if_pos h1, if_pos (by omega)]; omega
      · rw [if_neg h1, if_neg (by omega)]; omega
/-- What one contract of an instrument makes. -/
def unitS (t : List InstV) (s i : Int) : Int := shockI (lgI (findInstV t i).1) 1 s
theorem shock_lin (y : Inst) (q s : Int) : shockI y q s = q * shockI y 1 s := by
  unfold shockI
  split
  · rw [Int.one_mul, Int.mul_assoc]
  · simp
theorem gain_upTo (t : List InstV) (s : Int) : ∀ {l : List Leg} {a : Int}, 0 ≤ a → isF a l = true → gnN t l s = upTo (fun i => getF i l * unitS t s i) 8
  | [], _, _, _ => by simp [gnN, getF, upTo]
  | x :: l, a, ha, h => by
    obtain ⟨h1, h2, _, h4⟩ := isF_cons.1 h
    have ih := gain_upTo t s (l := l) (a := x.inst) (by omega) h4
    have e : ∀ i : Int, 1 ≤ i → i ≤ (8 : Nat) → getF i (x :: l) * unitS t s i = (if x.inst = i then x.qty * unitS t s x.inst else 0) + getF i l * unitS t s i := by
      intro i _ _
      simp only [getF]
      by_cases hi : x.inst = i
      · rw [if_pos hi, if_pos hi, ← hi, getF_low h4 (Int.le_refl _)]; simp
      · rw [if_neg hi, if_neg hi]; simp
    rw [upTo_congr e, upTo_add, ← ih, upTo_one, if_pos (by omega)]
    unfold gnN legS unitS
    rw [List.map_cons, List.sum_cons, shock_lin _ x.qty]
theorem addL_get {ls : List (List Leg)} (h : addC ls = 0) {i : Int} (h1 : 1 ≤ i) (h2 : i ≤ 8) : getF i (addL ls) = sumG ls i := by
  unfold addC vecC at h
  split at h
  · rename_i ha
    split at h
    · rename_i hf
      unfold addL vecL
      rw [if_pos ha, if_pos hf]
      exact getF_sums _ i h1 8 (by omega)
    · cases h
  · cases h
theorem known_mem {t : List InstV} {l : List Leg} (h : known t l = true) {x : Leg} (hx : x ∈ l) : (findInstV t x.inst).2 = true := by
  unfold known at h
  exact List.all_eq_true.1 h x hx
theorem known_add {t : List InstV} {a b : List Leg} (hc : addC [a, b] = 0) (ha : known t a = true) (hb : known t b = true) : known t (addL [a, b]) = true := by
  unfold known
  rw [List.all_eq_true]
  intro y hy
  have hv := isV_addL [a, b]
  obtain ⟨g1, g2, g3⟩ := getF_of_mem hv hy
  have g4 := addL_get hc (i := y.inst) (by omega) g3
  have hq : y.qty ≠ 0 := by
    have : ∀ {l : List Leg} {c : Int}, isF c l = true → y ∈ l → y.qty ≠ 0 := by
      intro l
      induction l with
      | nil => intro c _ h; cases h
      | cons z l ih =>
        intro c h h5
        obtain ⟨_, _, k3, k4⟩ := isF_cons.1 h
        rcases List.mem_cons.1 h5 with rfl | h5
        · exact k3
        · exact ih k4 h5
    exact this hv hy
  have e : sumG [a, b] y.inst = getF y.inst a + getF y.inst b := by simp [sumG]
  rcases getF_mem (l := a) (i := y.inst) with h1 | ⟨x, hx, h1, _⟩
  · rcases getF_mem (l := b) (i := y.inst) with h2 | ⟨x, hx, h2, _⟩
    · omega
    · rw [← h2]; exact known_mem hb hx
  · rw [← h1]; exact known_mem ha hx
theorem gain_add {t : List InstV} {a b : List Leg} (hc : addC [a, b] = 0) (ha : isV a = true) (hb : isV b = true) (s : Int) : gnN t (addL [a, b]) s = gnN t a s + gnN t b s := by
  rw [gain_upTo t s (Int.le_refl 0) (isV_addL [a, b]), gain_upTo t s (Int.le_refl 0) ha, gain_upTo t s (Int.le_refl 0) hb, ← upTo_add]
  refine upTo_congr fun i h1 h2 => ?_
  rw [addL_get hc h1 (by omega), ← Int.add_mul]
  simp [sumG]
/-- Two as one: what can be reckoned, and what it loses. -/
theorem loss_add {t : List InstV} {a b : List Leg} (hc : addC [a, b] = 0) (ha : lossC t a = 0) (hb : lossC t b = 0) : lossC t (addL [a, b]) = 0 ∧ ∀ s, lossN t (addL [a, b]) s = lossN t a s + lossN t b s := by
  obtain ⟨a1, a2, a3⟩ := loss_ok ha
  obtain ⟨b1, b2, b3⟩ := loss_ok hb
  have h0 : lossC t (addL [a, b]) = 0 := by
    unfold lossC
    rw [if_pos (isV_addL _), if_pos (known_add hc a2 b2)]
  refine ⟨h0, fun s => ?_⟩
  obtain ⟨_, _, c3⟩ := loss_ok h0
  rw [c3, a3, b3, gain_add hc a1 b1]
  omega
theorem margin_ok {t : List InstV} {l : List Leg} (h : marginC t l = 0) : lossC t l = 0 ∧ marginN t l = (mostN (lossN t l) 8).1 ∧ In64 (mostN (lossN t l) 8).1 := by
  unfold marginC at h
  split at h
  · rename_i h1
    split at h
    · rename_i h2
      exact ⟨h1, by unfold marginN; rw [if_pos h1, if_pos h2], in64_iff.1 h2⟩
    · cases h
  · exact absurd h (by assumption)
theorem margin_pos (t : List InstV) (l : List Leg) : 0 ≤ marginN t l := by
  unfold marginN
  have := most_nonneg (lossN t l) 8
  split
  · split <;> omega
  · omega
theorem margin_in (t : List InstV) (l : List Leg) : In64 (marginN t l) := by
  unfold marginN
  split
  · split
    · rename_i h; exact in64_iff.1 h
    · unfold In64; omega
  · unfold In64; omega
/-- Netting never asks for more. -/
theorem margin_net {t : List InstV} {a b : List Leg} (hc : addC [a, b] = 0) (ha : marginC t a = 0) (hb : marginC t b = 0) :
    (marginC t (addL [a, b]) = 7 ∧ 9223372036854775807 < marginN t a + marginN t b) ∨ (marginC t (addL [a, b]) = 0 ∧ marginN t (addL [a, b]) ≤ marginN t a + marginN t b) := by
  obtain ⟨a1, a2, a3⟩ := margin_ok ha
  obtain ⟨b1, b2, b3⟩ := margin_ok hb
  obtain ⟨c1, c2⟩ := loss_add hc a1 b1
  have h1 := most_add c2 8
  have h2 := most_nonneg (lossN t (addL [a, b])) 8
  cases hq : in64 (mostN (lossN t (addL [a, b])) 8).1
  · left
    have h3 := in64_no hq
    refine ⟨by unfold marginC; rw [if_pos c1, hq]; rfl, ?_⟩
    rw [a2, b2]
    unfold In64 at h3
    omega
  · right
    refine ⟨by unfold marginC; rw [if_pos c1, hq]; rfl, ?_⟩
    unfold marginN at a2 b2 ⊢
    rw [a2, b2, if_pos c1, hq, if_pos rfl]
    exact h1
/-- Twice a vector asks for twice as much. -/
theorem margin_twice {t : List InstV} {a : List Leg} (hc : addC [a, a] = 0) (ha : marginC t a = 0) :
    if in64 (marginN t a + marginN t a) then marginC t (addL [a, a]) = 0 ∧ marginN t (addL [a, a]) = marginN t a + marginN t a else marginC t (addL [a, a]) = 7 ∧ marginN t (addL [a, a]) = 0 := by
  obtain ⟨a1, a2, a3⟩ := margin_ok ha
  obtain ⟨c1, c2⟩ := loss_add hc a1 a1
  have h1 := most_twice c2 8
  rw [a2, ← h1]
  unfold marginC marginN
  rw [if_pos c1, if_pos c1]
  cases in64 (mostN (lossN t (addL [a, a])) 8).1 <;> simp
end Go.Proofs.Ytiidplinmempcaa

/- Margin units, plain: which an account has, of which units they consist, of which one a unit is a part, what they must have. No program in sight. -/
namespace Go.Proofs.Ytiidplinmempcaa
open Go.RowKit
def unitsN (x : Acct) : List Un := if x.kind = 2 then [⟨x.id, 0⟩] else unitsA x
def partsN (x : Acct) (u : Un) : List Un := if u ∈ unitsN x then (if x.kind = 2 then unitsA x else [u]) else []
def unitN (x : Acct) (u : Un) : Un := if hasA x u then (if x.kind = 2 then ⟨x.id, 0⟩ else u) else ⟨0, 0⟩
theorem unitsN_len (x : Acct) : (unitsN x).length ≤ x.clients.length + 1 := by
  unfold unitsN unitsA
  split
  · simp
  · split <;> simp
theorem partsN_len (x : Acct) (u : Un) : (partsN x u).length ≤ x.clients.length + 1 := by
  unfold partsN unitsA
  split
  · split
    · split <;> simp
    · simp
  · simp
/-- What units have together. -/
def netC (L : List (Row Leg)) (us : List Un) : Int := if isK isV L then addC (us.map (ofK L)) else 3
def netL (L : List (Row Leg)) (us : List Un) : List Leg := if isK isV L then addL (us.map (ofK L)) else []
/-- What a margin unit must have, or why not. -/
def nofC (t : List InstV) (L : List (Row Leg)) (x : Acct) (u : Un) : Int :=
  if isK isV L then (if u ∈ unitsN x then (if netC L (partsN x u) = 0 then marginC t (netL L (partsN x u)) else netC L (partsN x u)) else 11) else 3
def nofN (t : List InstV) (L : List (Row Leg)) (x : Acct) (u : Un) : Int :=
  if isK isV L then (if u ∈ unitsN x then (if netC L (partsN x u) = 0 then marginN t (netL L (partsN x u)) else 0) else 0) else 0
theorem nofN_no {t : List InstV} {L : List (Row Leg)} {x : Acct} {u : Un} (h : nofC t L x u ≠ 0) : nofN t L x u = 0 := by
  unfold nofC at h
  unfold nofN
  split
  · rename_i h1
    rw [if_pos h1] at h
    split
    · rename_i h2
      rw [if_pos h2] at h
      split
      · rename_i h3
        rw [if_pos h3] at h
        unfold marginC at h
        unfold marginN
        split
        · rename_i h4
          rw [if_pos h4] at h
          split
          · rename_i h5
            rw [if_pos h5] at h
            exact absurd rfl h
          · rfl
        · rfl
      · rfl
    · rfl
  · rfl
theorem nofN_pos (t : List InstV) (L : List (Row Leg)) (x : Acct) (u : Un) : 0 ≤ nofN t L x u ∧ In64 (nofN t L x u) := by
  unfold nofN
  have h0 : In64 0 := by unfold In64; omega
  split
  · split
    · split
      · exact ⟨margin_pos _ _, margin_in _ _⟩
      · exact ⟨Int.le_refl _, h0⟩
    · exact ⟨Int.le_refl _, h0⟩
  · exact ⟨Int.le_refl _, h0⟩
theorem netL_len (L : List (Row Leg)) (us : List Un) : (netL L us).length ≤ 8 := by
  unfold netL
  split
  · exact addL_len _
  · simp
theorem netL64 (L : List (Row Leg)) (us : List Un) : Legs64 (netL L us) := by
  unfold netL
  split
  · exact addL64B _
  · exact fun x hx => by simp at hx
/-- The code of the first of some margin units that has none, or 0; what they must have. -/
def firstC (f : Un → Int) : List Un → Int
  | [] => 0
  | u :: us => if f u = 0 then firstC f us else f u
def sum64C (l : List Int) : Int := if in64 l.sum then 0 else 7
def sum64N (l : List Int) : Int := if in64 l.sum then l.sum else 0
def nallC (t : List InstV) (L : List (Row Leg)) (x : Acct) : Int := if firstC (nofC t L x) (unitsN x) = 0 then sum64C ((unitsN x).map (nofN t L x)) else firstC (nofC t L x) (unitsN x)
def nallN (t : List InstV) (L : List (Row Leg)) (x : Acct) : Int := if firstC (nofC t L x) (unitsN x) = 0 then sum64N ((unitsN x).map (nofN t L x)) else 0
theorem firstC_step {f : Un → Int} {u : Un} {us : List Un} (h : f u = 0) : firstC f (u :: us) = firstC f us := by
  show (if f u = 0 then firstC f us else f u) = _
  rw [if_pos h]
theorem firstC_stop {f : Un → Int} {u : Un} {us : List Un} (h : f u ≠ 0) : firstC f (u :: us) = f u := by
  show (if f u = 0 then firstC f us else f u) = _
  rw [if_neg h]
/-- Each unit once. -/
theorem units_nodup {x : Acct} (h : okAAc x) : (unitsA x).Nodup := by
  unfold unitsA
  split
  · simp
  · have hp := (risC_pair h.2.2.2.2).1
    unfold List.Nodup
    rw [List.pairwise_map]
    exact hp.imp fun hab he => by
      injection he with _ h2
      omega
theorem part_of {x : Acct} {u m : Un} (hu : u ∈ unitsA x) (hm : m ∈ unitsN x) (h : u ∈ partsN x m) : m = unitN x u := by
  have hh : hasA x u = true := decide_eq_true hu
  unfold unitN
  rw [if_pos hh]
  unfold partsN at h
  rw [if_pos hm] at h
  unfold unitsN at hm
  split
  · rename_i h2
    rw [if_pos h2] at hm
    simpa using hm
  · rename_i h2
    rw [if_neg h2] at h
    simp at h
    exact h.symm
def cntU (l : List Un) (u : Un) : Nat := (l.filter fun v => decide (v = u)).length
theorem cntU_app (l m : List Un) (u : Un) : cntU (l ++ m) u = cntU l u + cntU m u := by unfold cntU; rw [List.filter_append, List.length_append]
theorem cntU_snoc {l : List Un} {k : Nat} (h : k < l.length) (u : Un) : cntU (l.take (k + 1)) u = cntU (l.take k) u + (if l[k] = u then 1 else 0) := by
  rw [List.take_succ_eq_append_getElem h, cntU_app]
  unfold cntU
  by_cases hk : l[k] = u
  · rw [if_pos hk]; simp [hk]
  · rw [if_neg hk]; simp [hk]
theorem cntU_none {l : List Un} {u : Un} (h : u ∉ l) : cntU l u = 0 := by
  unfold cntU
  rw [List.length_eq_zero_iff, List.filter_eq_nil_iff]
  intro v hv
  simp only [decide_eq_true_eq]
  intro e
  exact h (e ▸ hv)
theorem cntU_one : ∀ {l : List Un} {u : Un} (_ : l.Nodup) (_ : u ∈ l), cntU l u = 1
  | [], u, _, h => by simp at h
  | a :: l, u, hn, h => by
    rw [List.nodup_cons] at hn
    by_cases ha : a = u
    · have h0 := cntU_none (l := l) (u := u) (fun hu => hn.1 (ha ▸ hu))
      unfold cntU at *
      rw [List.filter_cons_of_pos (by simpa using ha), List.length_cons, h0]
    · have h1 := cntU_one hn.2 (u := u) (by
        rcases List.mem_cons.1 h with e | e
        · exact absurd e.symm ha
        · exact e)
      unfold cntU at *
      rw [List.filter_cons_of_neg (by simpa using ha), h1]
/-- How often a unit stands in the parts of some margin units. -/
def inAll (x : Acct) (u : Un) : List Un → Nat
  | [] => 0
  | m :: ms => cntU (partsN x m) u + inAll x u ms
theorem inAll_snoc {x : Acct} {u : Un} {ms : List Un} {k : Nat} (h : k < ms.length) : inAll x u (ms.take (k + 1)) = inAll x u (ms.take k) + cntU (partsN x ms[k]) u := by
  rw [List.take_succ_eq_append_getElem h]
  generalize ms.take k = l
  induction l with
  | nil => simp [inAll]
  | cons a l ih => simp only [List.cons_append, inAll]; rw [ih]; omega
theorem inAll_self (x : Acct) (hk : ¬ x.kind = 2) (u : Un) : ∀ (ms : List Un), (∀ m ∈ ms, m ∈ unitsN x) → inAll x u ms = cntU ms u
  | [], _ => rfl
  | m :: ms, h => by
    have h1 := inAll_self x hk u ms fun m hm => h m (List.mem_cons_of_mem _ hm)
    have hp : partsN x m = [m] := by unfold partsN; rw [if_pos (h m (List.mem_cons_self ..)), if_neg hk]
    show cntU (partsN x m) u + inAll x u ms = cntU (m :: ms) u
    rw [h1, hp, show m :: ms = [m] ++ ms from rfl, cntU_app]
theorem in_once {x : Acct} {u : Un} (h : okAAc x) (hu : u ∈ unitsA x) : inAll x u (unitsN x) = 1 := by
  by_cases hk : x.kind = 2
  · have hn : unitsN x = [⟨x.id, 0⟩] := if_pos hk
    have hp : partsN x ⟨x.id, 0⟩ = unitsA x := by unfold partsN; rw [if_pos (by rw [hn]; simp), if_pos hk]
    rw [hn]
    show cntU (partsN x ⟨x.id, 0⟩) u + inAll x u [] = 1
    rw [hp, cntU_one (units_nodup h) hu]
    rfl
  · rw [inAll_self x hk u _ fun m hm => hm]
    have hn : unitsN x = unitsA x := if_neg hk
    rw [hn]
    exact cntU_one (units_nodup h) hu
theorem inAll_le (x : Acct) (u : Un) : ∀ (ms : List Un) (k : Nat), inAll x u (ms.take k) ≤ inAll x u ms
  | [], k => by simp
  | m :: ms, 0 => by simp [inAll]
  | m :: ms, k + 1 => by
    have := inAll_le x u ms k
    simp only [List.take_succ_cons, inAll]
    omega
theorem cntU_le (l : List Un) (u : Un) : cntU l u ≤ l.length := List.length_filter_le _ _
theorem shortA_ok (x : Acct) (n : Nat) : (({ x with clients := x.clients.take n } : Acct)).clients.length ≤ n := by
  show (x.clients.take n).length ≤ n
  rw [List.length_take]; omega
end Go.Proofs.Ytiidplinmempcaa

/- Accounts: contracts of acct.most, Check, Units, Has, Less. -/
namespace Go.Proofs.Ytiidplinmempcaa
open Go.RowKit
theorem elUn : Elem Try.prog 92 60 2 16 := elem_of Try.underlying92 (z := .agg #[.int .i64 0, .int .i64 0]) (by kernel_rfl) rfl (by omega)
theorem elN : Elem Try.prog 87 3 1 8 := elem_of Try.underlying87 (z := .int .i64 0) (by kernel_rfl) rfl (by omega)
theorem rd_lit {w : World} {b : Nat} {u v : Value} (hb : b < w.heap.size) (h0 : w.cell? ⟨b, 0, none⟩ = some u) (h1 : w.cell? ⟨b, 1, none⟩ = some v) : Rs w 2 [[u, v]] (some ⟨b, 0, none⟩) 1 := by
  refine ⟨fun i r hr => ?_, by simp, by unfold maxLen; omega, fun h => by cases h⟩
  match i, hr with
  | 0, hr =>
    simp at hr
    subst hr
    refine ⟨b, 0, rfl, hb, fun j z hz => ?_⟩
    match j with
    | 0 => simp at hz; subst hz; simpa using h0
    | 1 => simp at hz; subst hz; simpa using h1
    | j + 2 => simp at hz
set_option maxRecDepth 100000 in
set_option maxHeartbeats 8000000 in
theorem acctUnits (x : Acct) (A : Option Addr) (c : Nat) (w : World) (hl : x.clients.length ≤ 1048576) (hr : Rd w A 1 (x.clients.map encI)) :
    Calls Try.prog 108 #[.agg #[.int .i64 x.id, .int .i64 x.member, .int .i64 x.kind, .slice A x.clients.length c]] w fun e w' => ∃ v, e = .returned v ∧ IsSl 2 encUn w' v (unitsA x) ∧ Below w.heap.size w w' := by
  have HR := Lib.hid hr
  clear hr
  by_cases hk1 : x.kind = 1
  · have b1 : (x.kind == 1) = true := by simpa using hk1
    have HU := Lib.hid (show unitsA x = [⟨x.id, 0⟩] from if_pos hk1)
    clear hk1
    go_enter Try.func108, Try.ntmps108
    go_wp2_with (fail)
    go_ret
    refine ⟨_, rfl, ?_, by (repeat' (first | (with_reducible exact Below.refl _ _) | (with_reducible assumption) | (with_reducible refine Below.alloc ?_ ?_ _) | (with_reducible refine Below.setCell ?_ ?_ _) | (with_reducible refine Below.drew ?_) | (with_reducible refine below_drewN ?_ _) | (with_reducible refine below_via ?_ (by with_reducible assumption) ?_) | omega | (simp; done) | (simp; omega)))⟩
    rw [HU.out]
    exact ⟨_, _, rfl, rd_lit (by simp) (by simp [go_sem]) (by simp [go_sem])⟩
  · have b1 : (x.kind == 1) = false := by simpa using hk1
    have HU := Lib.hid (show unitsA x = x.clients.map (fun c => ⟨x.id, c⟩) from if_neg hk1)
    clear hk1
    go_enter Try.func108, Try.ntmps108
    go_wp2_with (fail)
    go_loopw [3, 16] (fun v i wr => ∃ k : Nat, k ≤ x.clients.length ∧ i = .int .i64 k ∧ Own wr (w.heap.size + 1) 60 2 v (((x.clients.take k).map (fun c => (⟨x.id, c⟩ : Un))).map encUn) ∧ Below w.heap.size w wr ∧ w.heap.size < wr.heap.size ∧ wr.cell? ⟨w.heap.size, 0, none⟩ = some (.int .i64 x.id)) (fun _ i _ => x.clients.length - (intOf i).toNat)
    case atStart => exact ⟨0, Nat.zero_le _, rfl, Own.nil _ _ _ _, by (repeat' (first | (with_reducible exact Below.refl _ _) | (with_reducible assumption) | (with_reducible refine Below.alloc ?_ ?_ _) | (with_reducible refine Below.setCell ?_ ?_ _) | (with_reducible refine Below.drew ?_) | (with_reducible refine below_drewN ?_ _) | (with_reducible refine below_via ?_ (by with_reducible assumption) ?_) | omega | (simp; done) | (simp; omega))), by simp, by simp [go_sem]⟩
    case round =>
      obtain ⟨k, hk, rfl, hown, hbl, hsz, h0⟩ := hrel
      have Hown := Lib.hid hown
      have Hbl := Lib.hid hbl
      have hz := hbl.size
      clear hown hbl
      by_cases hlt : k < x.clients.length
      · have kl : (k : Int) < (x.clients.length : Int) := by omega
        have dl : decide ((k : Int) < (x.clients.length : Int)) = true := by simpa using hlt
        obtain ⟨b, o, rfl, hb, hc⟩ := HR.out k (encI x.clients[k]) (by simp [hlt])
        have e0 := (Hbl.out.cell (p := ⟨b, o + k * 1 + 0, none⟩) hb).trans (hc 0 _ rfl)
        simp only [Nat.add_zero, Nat.mul_one] at e0
        have HS := Lib.hid (map_snoc hlt (fun c => (⟨x.id, c⟩ : Un)))
        clear hc
        go_wp2_with (first | (at_builtin; refine wpList_app rfl _ _ _ rfl elUn (w.heap.size + 1) _ _ rfl (Hown.out.alloc _) (some ⟨_, 0, none⟩) 1 1 rfl [encUn ⟨x.id, x.clients[k]⟩] rfl (fun h => by cases h) (rd_oneN (by simp)) (rowsUn [⟨x.id, x.clients[k]⟩]) (by unfold maxLen; first | (simp; done) | omega | (simp; omega)) (by first | (simp; done) | omega | (simp; omega)) (by first | omega | (simp; done) | (simp; omega)) ?_; intro v3 w3 hown3 hb3) | fail)
        go_roundw
        case rel => exact ⟨k + 1, by omega, by go_num, by rw [HS.out, List.map_append]; exact hown3, (Hbl.out.alloc hz _).trans (hb3.mono (by omega)), by have := hb3.size; simp at this; omega, by rw [hb3.cell (p := ⟨w.heap.size, 0, none⟩) (by simp)]; simp [go_sem, h0, hsz]⟩
        case measure => simp [intOf]; omega
      · have dl : decide ((k : Int) < (x.clients.length : Int)) = false := by simpa using hlt
        have HT := Lib.hid (show x.clients.take k = x.clients from List.take_of_length_le (by omega))
        go_wp2_with (fail)
        go_ret
        refine ⟨_, rfl, ?_, Hbl.out⟩
        rw [HU.out]
        have := Hown.out
        rw [HT.out] at this
        exact this.isSl
end Go.Proofs.Ytiidplinmempcaa

/- Accounts: contracts of acct.Has, slices.Index, BinarySearch of whole numbers, Clone, Insert. -/
namespace Go.Proofs.Ytiidplinmempcaa
open Go.RowKit
theorem un_test {x u : Un} : x = u ∨ ((x.acc == u.acc) = false) ∨ ((x.cli == u.cli) = false) := by
  by_cases h : x = u
  · exact .inl h
  · exact .inr (neqUn h)
set_option maxRecDepth 100000 in
set_option maxHeartbeats 4000000 in
theorem unIndex (l : List Un) (u : Un) (A : Option Addr) (c : Nat) (w : World) (hl : l.length ≤ 1099511627776) (hr : Rd w A 2 (l.map encUn)) :
    Calls Try.prog 144 #[.slice A l.length c, .agg #[.int .i64 u.acc, .int .i64 u.cli]] w fun e w' => e = .returned (.int .i64 (idxOf (fun x : Un => decide (u = x)) l)) ∧ Below w.heap.size w w' := by
  have HR := Lib.hid hr
  clear hr
  go_enter Try.func144, Try.ntmps144
  go_wp2_with fail
  go_loopw [8] (fun i wr => ∃ k : Nat, k ≤ l.length ∧ i = .int .i64 k ∧ Below w.heap.size w wr ∧ w.heap.size < wr.heap.size ∧ (wr.cell? ⟨w.heap.size, 0, none⟩ = some (.int .i64 u.acc) ∧ wr.cell? ⟨w.heap.size, 1, none⟩ = some (.int .i64 u.cli)) ∧ ∀ j (_ : j < l.length), j < k → (fun x : Un => decide (u = x)) l[j] = false) (fun i _ => l.length - (intOf i).toNat)
  case atStart => exact ⟨0, Nat.zero_le _, rfl, by (repeat' (first | (with_reducible exact Below.refl _ _) | (with_reducible assumption) | (with_reducible refine Below.alloc ?_ ?_ _) | (with_reducible refine Below.setCell ?_ ?_ _) | (with_reducible refine Below.drew ?_) | (with_reducible refine below_drewN ?_ _) | (with_reducible refine below_via ?_ (by with_reducible assumption) ?_) | omega | (simp; done) | (simp; omega))), by simp, by simp [go_sem], fun j _ h => absurd h (by omega)⟩
  case round =>
    obtain ⟨k, hk, rfl, hbl, hsz, ⟨g0, g1⟩, hno⟩ := hrel
    have Hbl := Lib.hid hbl
    have Hno := Lib.hid hno
    have hz := hbl.size
    clear hbl hno
    by_cases hlt : k < l.length
    · have kl : (k : Int) < (l.length : Int) := by omega
      have dl : decide ((k : Int) < (l.length : Int)) = true := by simpa using hlt
      obtain ⟨b, o, rfl, hb, hc⟩ := HR.out k (encUn l[k]) (by simp [hlt])
      have c0 := (Hbl.out.cell (p := ⟨b, o + k * 2 + 0, none⟩) hb).trans (hc 0 _ rfl)
      have c1 := (Hbl.out.cell (p := ⟨b, o + k * 2 + 1, none⟩) hb).trans (hc 1 _ rfl)
      simp only [Nat.add_zero] at c0
      clear hc
      rcases un_test (x := u) (u := l[k]) with he | he | he
      · have hi := idx_hit (p := fun x : Un => decide (u = x)) hlt (by simpa using he) Hno.out
        have Hi := Lib.hid hi
        rw [← he] at c0 c1
        clear hi he
        go_wp2_with fail
        go_quiet (fail)
        go_wp2_with fail
        go_ret
        exact ⟨by rw [Hi.out]; rfl, by have hbl := Hbl.out; (repeat' (first | (with_reducible exact Below.refl _ _) | (with_reducible assumption) | (with_reducible refine Below.alloc ?_ ?_ _) | (with_reducible refine Below.setCell ?_ ?_ _) | (with_reducible refine Below.drew ?_) | (with_reducible refine below_drewN ?_ _) | (with_reducible refine below_via ?_ (by with_reducible assumption) ?_) | omega | (simp; done) | (simp; omega)))⟩
      all_goals
        have Hm := Lib.hid (decide_eq_false (show ¬ u = l[k] from by intro e; rw [e] at he; simp at he))
        go_wp2_with fail
        go_quiet (fail)
        go_wp2_with fail
        go_roundw
        case rel => exact ⟨k + 1, by omega, by go_num, by have hbl := Hbl.out; (repeat' (first | (with_reducible exact Below.refl _ _) | (with_reducible assumption) | (with_reducible refine Below.alloc ?_ ?_ _) | (with_reducible refine Below.setCell ?_ ?_ _) | (with_reducible refine Below.drew ?_) | (with_reducible refine below_drewN ?_ _) | (with_reducible refine below_via ?_ (by with_reducible assumption) ?_) | omega | (simp; done) | (simp; omega))), by simpa using hsz, by simp [go_sem, g0, g1], fun j hj h => by
          rcases Nat.lt_or_ge j k with h1 | h1
          · exact Hno.out j hj h1
          · obtain rfl : j = k := by omega
            exact Hm.out⟩
        case measure => simp [intOf]; omega
    · have dl : decide ((k : Int) < (l.length : Int)) = false := by simpa using hlt
      have hi := idx_miss (p := fun x : Un => decide (u = x)) (l := l) (fun j hj => Hno.out j hj (by omega))
      have Hi := Lib.hid hi
      clear hi
      go_wp2_with fail
      go_ret
      exact ⟨by rw [Hi.out]; rfl, Hbl.out⟩
theorem idx_un (l : List Un) (u : Un) : decide (0 ≤ idxOf (fun x : Un => decide (u = x)) l) = decide (u ∈ l) := by
  unfold idxOf
  cases h : l.findIdx? (fun x : Un => decide (u = x)) with
  | none =>
    rw [List.findIdx?_eq_none_iff] at h
    have : ¬ u ∈ l := fun hu => by have := h u hu; simp at this
    simp [this]
  | some k =>
    rw [List.findIdx?_eq_some_iff_getElem] at h
    obtain ⟨hk, h1, _⟩ := h
    have : u ∈ l := by have e : u = l[k] := by simpa using h1
                       rw [e]; exact List.getElem_mem hk
    simp [this]
set_option maxRecDepth 100000 in
set_option maxHeartbeats 1000000 in
theorem unContains (l : List Un) (u : Un) (A : Option Addr) (c : Nat) (w : World) (hl : l.length ≤ 1099511627776) (hr : Rd w A 2 (l.map encUn)) :
    Calls Try.prog 110 #[.slice A l.length c, .agg #[.int .i64 u.acc, .int .i64 u.cli]] w fun e w' => e = .returned (.bool (decide (u ∈ l))) ∧ Below w.heap.size w w' := by
  have HR := Lib.hid hr
  have HI := Lib.hid (idx_un l u)
  clear hr
  go_enter Try.func110, Try.ntmps110
  go_wp2_with (go_at_call 144; (with_reducible refine (unIndex l u A c _ hl (HR.out.keep (by (repeat' (first | (with_reducible exact Below.refl _ _) | (with_reducible assumption) | (with_reducible refine Below.alloc ?_ ?_ _) | (with_reducible refine Below.setCell ?_ ?_ _) | (with_reducible refine Below.drew ?_) | (with_reducible refine below_drewN ?_ _) | (with_reducible refine below_via ?_ (by with_reducible assumption) ?_) | omega | (simp; done) | (simp; omega)))))).mono ?_); rintro e w1 ⟨rfl, hb1⟩; obtain ⟨fc1, fg1, hc1, hf1, hz1⟩ := bget hb1; try simp at hz1)
  go_ret
  exact ⟨by rw [← HI.out]; rfl, by (repeat' (first | (with_reducible exact Below.refl _ _) | (with_reducible assumption) | (with_reducible refine Below.alloc ?_ ?_ _) | (with_reducible refine Below.setCell ?_ ?_ _) | (with_reducible refine Below.drew ?_) | (with_reducible refine below_drewN ?_ _) | (with_reducible refine below_via ?_ (by with_reducible assumption) ?_) | omega | (simp; done) | (simp; omega)))⟩
theorem units_len (x : Acct) : (unitsA x).length ≤ x.clients.length + 1 := by
  unfold unitsA; split <;> simp
set_option maxRecDepth 100000 in
set_option maxHeartbeats 4000000 in
theorem acctHas (x : Acct) (u : Un) (A : Option Addr) (c : Nat) (w : World) (hl : x.clients.length ≤ 1000000) (hr : Rd w A 1 (x.clients.map encI)) :
    Calls Try.prog 109 #[.agg #[.int .i64 x.id, .int .i64 x.member, .int .i64 x.kind, .slice A x.clients.length c], .agg #[.int .i64 u.acc, .int .i64 u.cli]] w fun e w' => e = .returned (.bool (hasA x u)) ∧ Below w.heap.size w w' := by
  have HR := Lib.hid hr
  have hul := units_len x
  have C1 := Lib.hid (fun W h => acctUnits x A c W (by omega) h)
  have C2 := Lib.hid (fun A c W h => unContains (unitsA x) u A c W (by omega) h)
  have HU : hasA x u = decide (u ∈ unitsA x) := rfl
  rw [HU]
  clear hr HU
  generalize unitsA x = l at *
  go_enter Try.func109, Try.ntmps109
  go_wp2_with fail
  go_region_held3 (fun w' => (w'.cell? ⟨w.heap.size, 0, none⟩ = some (.int .i64 x.id) ∧ w'.cell? ⟨w.heap.size, 1, none⟩ = some (.int .i64 x.member) ∧ w'.cell? ⟨w.heap.size, 2, none⟩ = some (.int .i64 x.kind) ∧ w'.cell? ⟨w.heap.size, 3, none⟩ = some (.slice A x.clients.length c)) ∧ w'.cell? ⟨w.heap.size + 1, 0, none⟩ = some (.int .i64 u.acc) ∧ w'.cell? ⟨w.heap.size + 1, 1, none⟩ = some (.int .i64 u.cli)) (first | (simp [go_sem]; done) | (repeat' (first | (with_reducible assumption) | (with_reducible refine And.intro ?_ ?_) | (with_reducible refine cell_drew ?_) | (with_reducible refine cell_via (by with_reducible assumption) ?_ ?_) | (simp [*]; done) | (simp [go_sem]; done) | (with_reducible refine cell_alloc ?_ ?_) | (with_reducible refine cell_set_far ?_ ?_) | omega | (simp; omega)))) (first | (go_at_call 108; (with_reducible refine (C1.out _ (HR.out.keep (by (repeat' (first | (with_reducible exact Below.refl _ _) | (with_reducible assumption) | (with_reducible refine Below.alloc ?_ ?_ _) | (with_reducible refine Below.setCell ?_ ?_ _) | (with_reducible refine Below.drew ?_) | (with_reducible refine below_drewN ?_ _) | (with_reducible refine below_via ?_ (by with_reducible assumption) ?_) | omega | (simp; done) | (simp; omega)))))).mono ?_); rintro e w1 ⟨_, rfl, ⟨A1, c1, rfl, hrs1⟩, hb1⟩; have HS1 := Lib.hid hrs1.rd; clear hrs1; obtain ⟨fc1, fg1, hc1, hf1, hz1⟩ := bget hb1; (try simp at hz1)) | (go_at_call 110; (with_reducible refine (C2.out _ _ _ (HS1.out.keep (by (repeat' (first | (with_reducible exact Below.refl _ _) | (with_reducible assumption) | (with_reducible refine Below.alloc ?_ ?_ _) | (with_reducible refine Below.setCell ?_ ?_ _) | (with_reducible refine Below.drew ?_) | (with_reducible refine below_drewN ?_ _) | (with_reducible refine below_via ?_ (by with_reducible assumption) ?_) | omega | (simp; done) | (simp; omega)))))).mono ?_); rintro e w2 ⟨rfl, hb2⟩; obtain ⟨fc2, fg2, hc2, hf2, hz2⟩ := bget hb2; (try simp at hz2)) | fail)
  all_goals
    go_wp2_with fail
    go_ret
    exact ⟨rfl, by (repeat' (first | (with_reducible exact Below.refl _ _) | (with_reducible assumption) | (with_reducible refine Below.alloc ?_ ?_ _) | (with_reducible refine Below.setCell ?_ ?_ _) | (with_reducible refine Below.drew ?_) | (with_reducible refine below_drewN ?_ _) | (with_reducible refine below_via ?_ (by with_reducible assumption) ?_) | omega | (simp; done) | (simp; omega)))⟩
end Go.Proofs.Ytiidplinmempcaa

/- Margin units: contracts of need.whole, Units, Parts, Unit; the law's Short. -/
namespace Go.Proofs.Ytiidplinmempcaa
open Go.RowKit
theorem acctUnitsN (x : AcctV) (w : World) (hl : x.clients.val.length ≤ 1048576) (hg : GoodA w x) :
    Calls Try.prog 108 #[.agg #[.int .i64 x.id, .int .i64 x.member, .int .i64 x.kind, .slice x.clients.A x.clients.val.length x.clients.c]] w fun e w' => ∃ A c, e = .returned (.slice A (unitsA (lgA x)).length c) ∧ Rs w' 2 ((unitsA (lgA x)).map encUn) A c ∧ Below w.heap.size w w' :=
  (acctUnits (lgA x) x.clients.A x.clients.c w hl hg.rd).mono fun e w' ⟨v, h1, ⟨A, c, h2, h3⟩, h4⟩ => ⟨A, c, by rw [h1, h2], h3, h4⟩
theorem acctHasN (x : AcctV) (u : Un) (w : World) (hl : x.clients.val.length ≤ 1000000) (hg : GoodA w x) :
    Calls Try.prog 109 #[.agg #[.int .i64 x.id, .int .i64 x.member, .int .i64 x.kind, .slice x.clients.A x.clients.val.length x.clients.c], .agg #[.int .i64 u.acc, .int .i64 u.cli]] w fun e w' => e = .returned (.bool (hasA (lgA x) u)) ∧ Below w.heap.size w w' :=
  acctHas (lgA x) u x.clients.A x.clients.c w hl hg.rd
set_option maxRecDepth 100000 in
set_option maxHeartbeats 1000000 in
theorem needWhole (x : AcctV) (w : World) :
    Calls Try.prog 107 #[.agg #[.int .i64 x.id, .int .i64 x.member, .int .i64 x.kind, .slice x.clients.A x.clients.val.length x.clients.c]] w fun e w' => e = .returned (.agg #[.int .i64 x.id, .int .i64 0]) ∧ Below w.heap.size w w' := by
  go_enter Try.func107, Try.ntmps107
  go_wp2_with fail
  refine bodyPost_ret (by simp [results, Try.results107, go_sem, ]; try rfl) rfl ⟨rfl, ?_⟩
  (repeat' (first | (with_reducible exact Below.refl _ _) | (with_reducible assumption) | (with_reducible refine Below.alloc ?_ ?_ _) | (with_reducible refine Below.setCell ?_ ?_ _) | (with_reducible refine Below.drew ?_) | (with_reducible refine below_drewN ?_ _) | (with_reducible refine below_via ?_ (by with_reducible assumption) ?_) | omega | (simp; done) | (simp; omega)))
set_option maxRecDepth 100000 in
set_option maxHeartbeats 4000000 in
theorem needUnits (x : AcctV) (w : World) (hl : x.clients.val.length ≤ 1000000) (hg : GoodA w x) :
    Calls Try.prog 53 #[.agg #[.int .i64 x.id, .int .i64 x.member, .int .i64 x.kind, .slice x.clients.A x.clients.val.length x.clients.c]] w fun e w' => ∃ A c, e = .returned (.slice A (unitsN (lgA x)).length c) ∧ Rs w' 2 ((unitsN (lgA x)).map encUn) A c ∧ Below w.heap.size w w' := by
  have HG := Lib.hid hg
  clear hg
  by_cases hk : x.kind = 2
  · have b1 : (x.kind == 2) = true := by simpa using hk
    have HU := Lib.hid (show unitsN (lgA x) = [⟨x.id, 0⟩] from if_pos hk)
    rw [HU.out]
    clear hk
    go_enter Try.func53, Try.ntmps53
    go_wp2_with (first | (go_at_call 107; (with_reducible refine (needWhole x _).mono ?_); rintro e w1 ⟨rfl, hb1⟩; obtain ⟨fc1, fg1, hc1, hf1, hz1⟩ := bget hb1; (try simp at hz1)) | fail)
    go_ret
    exact ⟨_, _, rfl, rd_lit (by simp) (by simp [go_sem]) (by simp [go_sem]), by (repeat' (first | (with_reducible exact Below.refl _ _) | (with_reducible assumption) | (with_reducible refine Below.alloc ?_ ?_ _) | (with_reducible refine Below.setCell ?_ ?_ _) | (with_reducible refine Below.drew ?_) | (with_reducible refine below_drewN ?_ _) | (with_reducible refine below_via ?_ (by with_reducible assumption) ?_) | omega | (simp; done) | (simp; omega)))⟩
  · have b1 : (x.kind == 2) = false := by simpa using hk
    have HU := Lib.hid (show unitsN (lgA x) = unitsA (lgA x) from if_neg hk)
    rw [HU.out]
    clear hk
    go_enter Try.func53, Try.ntmps53
    go_wp2_with (first | (go_at_call 108; (with_reducible refine (acctUnitsN x _ (by omega) (HG.out.keep (by (repeat' (first | (with_reducible exact Below.refl _ _) | (with_reducible assumption) | (with_reducible refine Below.alloc ?_ ?_ _) | (with_reducible refine Below.setCell ?_ ?_ _) | (with_reducible refine Below.drew ?_) | (with_reducible refine below_drewN ?_ _) | (with_reducible refine below_via ?_ (by with_reducible assumption) ?_) | omega | (simp; done) | (simp; omega)))))).mono ?_); rintro e w1 ⟨A1, c1, rfl, hrs1, hb1⟩; have HS1 := Lib.hid hrs1; clear hrs1; obtain ⟨fc1, fg1, hc1, hf1, hz1⟩ := bget hb1; (try simp at hz1)) | fail)
    go_ret
    exact ⟨_, _, rfl, HS1.out, by (repeat' (first | (with_reducible exact Below.refl _ _) | (with_reducible assumption) | (with_reducible refine Below.alloc ?_ ?_ _) | (with_reducible refine Below.setCell ?_ ?_ _) | (with_reducible refine Below.drew ?_) | (with_reducible refine below_drewN ?_ _) | (with_reducible refine below_via ?_ (by with_reducible assumption) ?_) | omega | (simp; done) | (simp; omega)))⟩
set_option maxRecDepth 100000 in
set_option maxHeartbeats 8000000 in
theorem needParts (x : AcctV) (u : Un) (w : World) (hl : x.clients.val.length ≤ 1000000) (hg : GoodA w x) :
    Calls Try.prog 55 #[.agg #[.int .i64 x.id, .int .i64 x.member, .int .i64 x.kind, .slice x.clients.A x.clients.val.length x.clients.c], .agg #[.int .i64 u.acc, .int .i64 u.cli]] w fun e w' => ∃ A c, e = .returned (.slice A (partsN (lgA x) u).length c) ∧ Rs w' 2 ((partsN (lgA x) u).map encUn) A c ∧ Below w.heap.size w w' := by
  have HG := Lib.hid hg
  have hul := unitsN_len (lgA x)
  have hul2 : (lgA x).clients.length ≤ 1000000 := hl
  clear hg
  by_cases hin : u ∈ unitsN (lgA x)
  · have HIN := Lib.hid (decide_eq_true hin)
    by_cases hk : x.kind = 2
    · have b1 : (x.kind == 2) = true := by simpa using hk
      have HU := Lib.hid (show partsN (lgA x) u = unitsA (lgA x) from by unfold partsN; rw [if_pos hin, if_pos (show (lgA x).kind = 2 from hk)])
      rw [HU.out]
      clear hk hin
      go_enter Try.func55, Try.ntmps55
      go_wp2_with fail
      go_region_held3 (fun w' => ((w'.cell? ⟨w.heap.size, 0, none⟩ = some (.int .i64 x.id) ∧ w'.cell? ⟨w.heap.size, 1, none⟩ = some (.int .i64 x.member) ∧ w'.cell? ⟨w.heap.size, 2, none⟩ = some (.int .i64 x.kind) ∧ w'.cell? ⟨w.heap.size, 3, none⟩ = some (.slice x.clients.A x.clients.val.length x.clients.c)) ∧ w'.cell? ⟨w.heap.size + 1, 0, none⟩ = some (.int .i64 u.acc) ∧ w'.cell? ⟨w.heap.size + 1, 1, none⟩ = some (.int .i64 u.cli))) (first | (simp [go_sem]; done) | (repeat' (first | (with_reducible assumption) | (with_reducible refine And.intro ?_ ?_) | (with_reducible refine cell_drew ?_) | (with_reducible refine cell_via (by with_reducible assumption) ?_ ?_) | (simp [*]; done) | (simp [go_sem]; done) | (with_reducible refine cell_alloc ?_ ?_) | (with_reducible refine cell_set_far ?_ ?_) | omega | (simp; omega)))) (first | (go_at_call 53; (with_reducible refine (needUnits x _ hl (HG.out.keep (by (repeat' (first | (with_reducible exact Below.refl _ _) | (with_reducible assumption) | (with_reducible refine Below.alloc ?_ ?_ _) | (with_reducible refine Below.setCell ?_ ?_ _) | (with_reducible refine Below.drew ?_) | (with_reducible refine below_drewN ?_ _) | (with_reducible refine below_via ?_ (by with_reducible assumption) ?_) | omega | (simp; done) | (simp; omega)))))).mono ?_); rintro e w1 ⟨A1, c1, rfl, hrs1, hb1⟩; have HS1 := Lib.hid hrs1.rd; clear hrs1; obtain ⟨fc1, fg1, hc1, hf1, hz1⟩ := bget hb1; (try simp at hz1)) | (go_at_call 110; (with_reducible refine (unContains (unitsN (lgA x)) u A1 c1 _ (by omega) (HS1.out.keep (by (repeat' (first | (with_reducible exact Below.refl _ _) | (with_reducible assumption) | (with_reducible refine Below.alloc ?_ ?_ _) | (with_reducible refine Below.setCell ?_ ?_ _) | (with_reducible refine Below.drew ?_) | (with_reducible refine below_drewN ?_ _) | (with_reducible refine below_via ?_ (by with_reducible assumption) ?_) | omega | (simp; done) | (simp; omega)))))).mono ?_); rw [HIN.out]; rintro e w2 ⟨rfl, hb2⟩; obtain ⟨fc2, fg2, hc2, hf2, hz2⟩ := bget hb2; (try simp at hz2)) | fail)
      all_goals
        go_wp2_with (first | (go_at_call 108; (with_reducible refine (acctUnitsN x _ (by omega) (HG.out.keep (by (repeat' (first | (with_reducible exact Below.refl _ _) | (with_reducible assumption) | (with_reducible refine Below.alloc ?_ ?_ _) | (with_reducible refine Below.setCell ?_ ?_ _) | (with_reducible refine Below.drew ?_) | (with_reducible refine below_drewN ?_ _) | (with_reducible refine below_via ?_ (by with_reducible assumption) ?_) | omega | (simp; done) | (simp; omega)))))).mono ?_); rintro e w3 ⟨A3, c3, rfl, hrs3, hb3⟩; have HS3 := Lib.hid hrs3; clear hrs3; obtain ⟨fc3, fg3, hc3, hf3, hz3⟩ := bget hb3; (try simp at hz3)) | fail)
        go_ret
        exact ⟨_, _, rfl, HS3.out, by (repeat' (first | (with_reducible exact Below.refl _ _) | (with_reducible assumption) | (with_reducible refine Below.alloc ?_ ?_ _) | (with_reducible refine Below.setCell ?_ ?_ _) | (with_reducible refine Below.drew ?_) | (with_reducible refine below_drewN ?_ _) | (with_reducible refine below_via ?_ (by with_reducible assumption) ?_) | omega | (simp; done) | (simp; omega)))⟩
    · have b1 : (x.kind == 2) = false := by simpa using hk
      have HU := Lib.hid (show partsN (lgA x) u = [u] from by unfold partsN; rw [if_pos hin, if_neg (show ¬ (lgA x).kind = 2 from hk)])
      rw [HU.out]
      clear hk hin
      go_enter Try.func55, Try.ntmps55
      go_wp2_with fail
      go_region_held3 (fun w' => ((w'.cell? ⟨w.heap.size, 0, none⟩ = some (.int .i64 x.id) ∧ w'.cell? ⟨w.heap.size, 1, none⟩ = some (.int .i64 x.member) ∧ w'.cell? ⟨w.heap.size, 2, none⟩ = some (.int .i64 x.kind) ∧ w'.cell? ⟨w.heap.size, 3, none⟩ = some (.slice x.clients.A x.clients.val.length x.clients.c)) ∧ w'.cell? ⟨w.heap.size + 1, 0, none⟩ = some (.int .i64 u.acc) ∧ w'.cell? ⟨w.heap.size + 1, 1, none⟩ = some (.int .i64 u.cli))) (first | (simp [go_sem]; done) | (repeat' (first | (with_reducible assumption) | (with_reducible refine And.intro ?_ ?_) | (with_reducible refine cell_drew ?_) | (with_reducible refine cell_via (by with_reducible assumption) ?_ ?_) | (simp [*]; done) | (simp [go_sem]; done) | (with_reducible refine cell_alloc ?_ ?_) | (with_reducible refine cell_set_far ?_ ?_) | omega | (simp; omega)))) (first | (go_at_call 53; (with_reducible refine (needUnits x _ hl (HG.out.keep (by (repeat' (first | (with_reducible exact Below.refl _ _) | (with_reducible assumption) | (with_reducible refine Below.alloc ?_ ?_ _) | (with_reducible refine Below.setCell ?_ ?_ _) | (with_reducible refine Below.drew ?_) | (with_reducible refine below_drewN ?_ _) | (with_reducible refine below_via ?_ (by with_reducible assumption) ?_) | omega | (simp; done) | (simp; omega)))))).mono ?_); rintro e w1 ⟨A1, c1, rfl, hrs1, hb1⟩; have HS1 := Lib.hid hrs1.rd; clear hrs1; obtain ⟨fc1, fg1, hc1, hf1, hz1⟩ := bget hb1; (try simp at hz1)) | (go_at_call 110; (with_reducible refine (unContains (unitsN (lgA x)) u A1 c1 _ (by omega) (HS1.out.keep (by (repeat' (first | (with_reducible exact Below.refl _ _) | (with_reducible assumption) | (with_reducible refine Below.alloc ?_ ?_ _) | (with_reducible refine Below.setCell ?_ ?_ _) | (with_reducible refine Below.drew ?_) | (with_reducible refine below_drewN ?_ _) | (with_reducible refine below_via ?_ (by with_reducible assumption) ?_) | omega | (simp; done) | (simp; omega)))))).mono ?_); rw [HIN.out]; rintro e w2 ⟨rfl, hb2⟩; obtain ⟨fc2, fg2, hc2, hf2, hz2⟩ := bget hb2; (try simp at hz2)) | fail)
      all_goals
        go_wp2_with fail
        go_ret
        exact ⟨_, _, rfl, rd_lit (by simp) (by simp [go_sem]) (by simp [go_sem]), by (repeat' (first | (with_reducible exact Below.refl _ _) | (with_reducible assumption) | (with_reducible refine Below.alloc ?_ ?_ _) | (with_reducible refine Below.setCell ?_ ?_ _) | (with_reducible refine Below.drew ?_) | (with_reducible refine below_drewN ?_ _) | (with_reducible refine below_via ?_ (by with_reducible assumption) ?_) | omega | (simp; done) | (simp; omega)))⟩
  · have HIN := Lib.hid (decide_eq_false hin)
    have HU := Lib.hid (show partsN (lgA x) u = [] from by unfold partsN; rw [if_neg hin])
    rw [HU.out]
    clear hin
    go_enter Try.func55, Try.ntmps55
    go_wp2_with fail
    go_region_held3 (fun w' => ((w'.cell? ⟨w.heap.size, 0, none⟩ = some (.int .i64 x.id) ∧ w'.cell? ⟨w.heap.size, 1, none⟩ = some (.int .i64 x.member) ∧ w'.cell? ⟨w.heap.size, 2, none⟩ = some (.int .i64 x.kind) ∧ w'.cell? ⟨w.heap.size, 3, none⟩ = some (.slice x.clients.A x.clients.val.length x.clients.c)) ∧ w'.cell? ⟨w.heap.size + 1, 0, none⟩ = some (.int .i64 u.acc) ∧ w'.cell? ⟨w.heap.size + 1, 1, none⟩ = some (.int .i64 u.cli))) (first | (simp [go_sem]; done) | (repeat' (first | (with_reducible assumption) | (with_reducible refine And.intro ?_ ?_) | (with_reducible refine cell_drew ?_) | (with_reducible refine cell_via (by with_reducible assumption) ?_ ?_) | (simp [*]; done) | (simp [go_sem]; done) | (with_reducible refine cell_alloc ?_ ?_) | (with_reducible refine cell_set_far ?_ ?_) | omega | (simp; omega)))) (first | (go_at_call 53; (with_reducible refine (needUnits x _ hl (HG.out.keep (by (repeat' (first | (with_reducible exact Below.refl _ _) | (with_reducible assumption) | (with_reducible refine Below.alloc ?_ ?_ _) | (with_reducible refine Below.setCell ?_ ?_ _) | (with_reducible refine Below.drew ?_) | (with_reducible refine below_drewN ?_ _) | (with_reducible refine below_via ?_ (by with_reducible assumption) ?_) | omega | (simp; done) | (simp; omega)))))).mono ?_); rintro e w1 ⟨A1, c1, rfl, hrs1, hb1⟩; have HS1 := Lib.hid hrs1.rd; clear hrs1; obtain ⟨fc1, fg1, hc1, hf1, hz1⟩ := bget hb1; (try simp at hz1)) | (go_at_call 110; (with_reducible refine (unContains (unitsN (lgA x)) u A1 c1 _ (by omega) (HS1.out.keep (by (repeat' (first | (with_reducible exact Below.refl _ _) | (with_reducible assumption) | (with_reducible refine Below.alloc ?_ ?_ _) | (with_reducible refine Below.setCell ?_ ?_ _) | (with_reducible refine Below.drew ?_) | (with_reducible refine below_drewN ?_ _) | (with_reducible refine below_via ?_ (by with_reducible assumption) ?_) | omega | (simp; done) | (simp; omega)))))).mono ?_); rw [HIN.out]; rintro e w2 ⟨rfl, hb2⟩; obtain ⟨fc2, fg2, hc2, hf2, hz2⟩ := bget hb2; (try simp at hz2)) | fail)
    all_goals
      go_wp2_with fail
      go_ret
      exact ⟨_, _, rfl, Rs.empty _ _, by (repeat' (first | (with_reducible exact Below.refl _ _) | (with_reducible assumption) | (with_reducible refine Below.alloc ?_ ?_ _) | (with_reducible refine Below.setCell ?_ ?_ _) | (with_reducible refine Below.drew ?_) | (with_reducible refine below_drewN ?_ _) | (with_reducible refine below_via ?_ (by with_reducible assumption) ?_) | omega | (simp; done) | (simp; omega)))⟩
set_option maxRecDepth 100000 in
set_option maxHeartbeats 8000000 in
theorem needUnit (x : AcctV) (u : Un) (w : World) (hl : x.clients.val.length ≤ 1000000) (hg : GoodA w x) :
    Calls Try.prog 54 #[.agg #[.int .i64 x.id, .int .i64 x.member, .int .i64 x.kind, .slice x.clients.A x.clients.val.length x.clients.c], .agg #[.int .i64 u.acc, .int .i64 u.cli]] w fun e w' => e = .returned (.tuple #[.agg #[.int .i64 (unitN (lgA x) u).acc, .int .i64 (unitN (lgA x) u).cli], .bool (hasA (lgA x) u)]) ∧ Below w.heap.size w w' := by
  have HG := Lib.hid hg
  clear hg
  cases hin : hasA (lgA x) u
  · have HIN := Lib.hid hin
    have HU := Lib.hid (show unitN (lgA x) u = ⟨0, 0⟩ from by unfold unitN; rw [hin]; rfl)
    rw [HU.out]
    clear hin
    go_enter Try.func54, Try.ntmps54
    go_wp2_with (first | (go_at_call 109; (with_reducible refine (acctHasN x u _ hl (HG.out.keep (by (repeat' (first | (with_reducible exact Below.refl _ _) | (with_reducible assumption) | (with_reducible refine Below.alloc ?_ ?_ _) | (with_reducible refine Below.setCell ?_ ?_ _) | (with_reducible refine Below.drew ?_) | (with_reducible refine below_drewN ?_ _) | (with_reducible refine below_via ?_ (by with_reducible assumption) ?_) | omega | (simp; done) | (simp; omega)))))).mono ?_); rw [HIN.out]; rintro e w1 ⟨rfl, hb1⟩; obtain ⟨fc1, fg1, hc1, hf1, hz1⟩ := bget hb1; (try simp at hz1)) | fail)
    refine bodyPost_ret (by simp [results, Try.results54, go_sem, hc1]; try rfl) rfl ⟨rfl, ?_⟩
    (repeat' (first | (with_reducible exact Below.refl _ _) | (with_reducible assumption) | (with_reducible refine Below.alloc ?_ ?_ _) | (with_reducible refine Below.setCell ?_ ?_ _) | (with_reducible refine Below.drew ?_) | (with_reducible refine below_drewN ?_ _) | (with_reducible refine below_via ?_ (by with_reducible assumption) ?_) | omega | (simp; done) | (simp; omega)))
  · have HIN := Lib.hid hin
    by_cases hk : x.kind = 2
    · have b1 : (x.kind == 2) = true := by simpa using hk
      have HU := Lib.hid (show unitN (lgA x) u = ⟨x.id, 0⟩ from by unfold unitN; rw [hin, if_pos rfl, if_pos (show (lgA x).kind = 2 from hk)]; rfl)
      rw [HU.out]
      clear hk hin
      go_enter Try.func54, Try.ntmps54
      go_wp2_with (first | (go_at_call 109; (with_reducible refine (acctHasN x u _ hl (HG.out.keep (by (repeat' (first | (with_reducible exact Below.refl _ _) | (with_reducible assumption) | (with_reducible refine Below.alloc ?_ ?_ _) | (with_reducible refine Below.setCell ?_ ?_ _) | (with_reducible refine Below.drew ?_) | (with_reducible refine below_drewN ?_ _) | (with_reducible refine below_via ?_ (by with_reducible assumption) ?_) | omega | (simp; done) | (simp; omega)))))).mono ?_); rw [HIN.out]; rintro e w1 ⟨rfl, hb1⟩; obtain ⟨fc1, fg1, hc1, hf1, hz1⟩ := bget hb1; (try simp at hz1)) | (go_at_call 107; (with_reducible refine (needWhole x _).mono ?_); rintro e w2 ⟨rfl, hb2⟩; obtain ⟨fc2, fg2, hc2, hf2, hz2⟩ := bget hb2; (try simp at hz2)) | fail)
      refine bodyPost_ret (by simp [results, Try.results54, go_sem, hc2, hc1, ↓IntWalk.iteOmega]; try rfl) rfl ⟨rfl, ?_⟩
      (repeat' (first | (with_reducible exact Below.refl _ _) | (with_reducible assumption) | (with_reducible refine Below.alloc ?_ ?_ _) | (with_reducible refine Below.setCell ?_ ?_ _) | (with_reducible refine Below.drew ?_) | (with_reducible refine below_drewN ?_ _) | (with_reducible refine below_via ?_ (by with_reducible assumption) ?_) | omega | (simp; done) | (simp; omega)))
    · have b1 : (x.kind == 2) = false := by simpa using hk
      have HU := Lib.hid (show unitN (lgA x) u = u from by unfold unitN; rw [hin, if_pos rfl, if_neg (show ¬ (lgA x).kind = 2 from hk)])
      rw [HU.out]
      clear hk hin
      go_enter Try.func54, Try.ntmps54
      go_wp2_with (first | (go_at_call 109; (with_reducible refine (acctHasN x u _ hl (HG.out.keep (by (repeat' (first | (with_reducible exact Below.refl _ _) | (with_reducible assumption) | (with_reducible refine Below.alloc ?_ ?_ _) | (with_reducible refine Below.setCell ?_ ?_ _) | (with_reducible refine Below.drew ?_) | (with_reducible refine below_drewN ?_ _) | (with_reducible refine below_via ?_ (by with_reducible assumption) ?_) | omega | (simp; done) | (simp; omega)))))).mono ?_); rw [HIN.out]; rintro e w1 ⟨rfl, hb1⟩; obtain ⟨fc1, fg1, hc1, hf1, hz1⟩ := bget hb1; (try simp at hz1)) | fail)
      refine bodyPost_ret (by simp [results, Try.results54, go_sem, hc1]; try rfl) rfl ⟨rfl, ?_⟩
      (repeat' (first | (with_reducible exact Below.refl _ _) | (with_reducible assumption) | (with_reducible refine Below.alloc ?_ ?_ _) | (with_reducible refine Below.setCell ?_ ?_ _) | (with_reducible refine Below.drew ?_) | (with_reducible refine below_drewN ?_ _) | (with_reducible refine below_via ?_ (by with_reducible assumption) ?_) | omega | (simp; done) | (simp; omega)))
def shortN (x : AcctV) : AcctV := { x with clients := ⟨x.clients.A, x.clients.c, x.clients.val.take 20⟩ }
set_option maxRecDepth 100000 in
set_option maxHeartbeats 8000000 in
theorem law25Short (x : AcctV) (w : World) (hg : GoodA w x) :
    Calls Try.prog 49 #[.agg #[.int .i64 x.id, .int .i64 x.member, .int .i64 x.kind, .slice x.clients.A x.clients.val.length x.clients.c]] w fun e w' => e = .returned (.agg #[.int .i64 (shortN x).id, .int .i64 (shortN x).member, .int .i64 (shortN x).kind, .slice (shortN x).clients.A (shortN x).clients.val.length (shortN x).clients.c]) ∧ Below w.heap.size w w' := by
  have hlc : x.clients.val.length ≤ x.clients.c := by have := hg.cap; rw [List.length_map] at this; exact this
  have hcm := hg.room
  unfold maxLen at hcm
  have hr := hg.rd
  unfold shortN
  by_cases h : 20 < x.clients.val.length
  · have HN := Lib.hid (show (x.clients.val.take 20).length = 20 from by rw [List.length_take]; omega)
    have d1 : decide (20 < (x.clients.val.length : Int)) = true := by simp; omega
    obtain ⟨b, o, hA, hq⟩ := hr 0 (encI (x.clients.val[0]'(by omega))) (by rw [List.getElem?_map, List.getElem?_eq_getElem (by omega)]; rfl)
    simp only [hA]
    rw [HN.out]
    clear hq hr hA
    go_enter Try.func49, Try.ntmps49
    go_wp2_with fail
    all_goals
      refine bodyPost_ret (by simp [results, Try.results49, go_sem, ]; try rfl) rfl ⟨rfl, ?_⟩
      (repeat' (first | (with_reducible exact Below.refl _ _) | (with_reducible assumption) | (with_reducible refine Below.alloc ?_ ?_ _) | (with_reducible refine Below.setCell ?_ ?_ _) | (with_reducible refine Below.drew ?_) | (with_reducible refine below_drewN ?_ _) | (with_reducible refine below_via ?_ (by with_reducible assumption) ?_) | omega | (simp; done) | (simp; omega)))
  · rw [List.take_of_length_le (by omega)]
    have d1 : decide (20 < (x.clients.val.length : Int)) = false := by simp; omega
    clear hr
    go_enter Try.func49, Try.ntmps49
    go_wp2_with fail
    all_goals
      refine bodyPost_ret (by simp [results, Try.results49, go_sem, ]; try rfl) rfl ⟨rfl, ?_⟩
      (repeat' (first | (with_reducible exact Below.refl _ _) | (with_reducible assumption) | (with_reducible refine Below.alloc ?_ ?_ _) | (with_reducible refine Below.setCell ?_ ?_ _) | (with_reducible refine Below.drew ?_) | (with_reducible refine below_drewN ?_ _) | (with_reducible refine below_via ?_ (by with_reducible assumption) ?_) | omega | (simp; done) | (simp; omega)))
theorem good_shortN {w : World} {x : AcctV} (h : GoodA w x) : GoodA w (shortN x) ∧ (shortN x).clients.val.length ≤ 20 := by
  refine ⟨?_, by simp [shortN]; omega⟩
  unfold GoodA at *
  have := Rs.take h 20
  rw [← List.map_take] at this
  exact this
end Go.Proofs.Ytiidplinmempcaa
