/- Joined: GrdP, Grd2. -/
import Derived.Test.YtiidplinmempcaaJz7
import Derived.Test.YtiidplinmempcaaJz9
import Derived.Test.YtiidplinmempcaaJz10
import Derived.Test.YtiidplinmempcaaJz3
/- Layer 24, plain: what a vector loses in a scenario, and in the worst one; two as one, twice one. No program in sight. -/
namespace Go.Proofs.Ytiidplinmempcaa
open Go.RowKit
/-- What a leg makes in a scenario. -/
def legS (t : List InstV) (s : Int) (x : Leg) : Int := shockI (lgI (findInstV t x.inst).1) x.qty s
def known (t : List InstV) (l : List Leg) : Bool := l.all fun x => (findInstV t x.inst).2
def gnN (t : List InstV) (l : List Leg) (s : Int) : Int := (l.map (legS t s)).sum
def lossC (t : List InstV) (l : List Leg) : Int := if isV l then (if known t l then 0 else 11) else 3
def lossN (t : List InstV) (l : List Leg) (s : Int) : Int := if isV l && known t l then - gnN t l s else 0
/-- The greatest of 0 and the first n losses, and where it is first. -/
def mostN (f : Int → Int) : Nat → Int × Int
  | 0 => (0, -1)
  | k + 1 => if (mostN f k).1 < f k then (f k, k) else mostN f k
def marginN (t : List InstV) (l : List Leg) : Int := if lossC t l = 0 then (if in64 (mostN (lossN t l) 8).1 then (mostN (lossN t l) 8).1 else 0) else 0
def marginC (t : List InstV) (l : List Leg) : Int := if lossC t l = 0 then (if in64 (mostN (lossN t l) 8).1 then 0 else 7) else lossC t l
/-- The greatest number of a leg's move: bounds. -/
theorem legS_bound {t : List InstV} {x : Leg} {s : Int} (h : In64 x.qty) : -1298074214633706907132624082305024 ≤ legS t s x ∧ legS t s x ≤ 1298074214633706907132624082305024 := by
  unfold legS
  generalize lgI (findInstV t x.inst).1 = y
  by_cases hs : okS y s
  · obtain ⟨k, rfl, hk⟩ := okS_nat hs
    rw [shock_yes hs.1 hk]
    have hmv := okI_move hs.1 hk
    have hm := hs.1.2.2
    have e1 := mul_le_of (a := y.moves[k]) (b := y.mult) (A := 2147483647) (B := 65536) (by omega) (by omega) 140737488289792 (by omega)
    have e2 := mul_le_of (a := y.moves[k] * y.mult) (b := x.qty) (A := 140737488355328) (B := 9223372036854775808) (by omega) (by unfold In64 at h; omega) 1298074214633706907132624082305024 (by omega)
    omega
  · rw [shock_no hs]; omega
theorem gain_bound {t : List InstV} {s : Int} : ∀ {l : List Leg} (_ : Legs64 l), -(l.length * 1298074214633706907132624082305024 : Int) ≤ gnN t l s ∧ gnN t l s ≤ l.length * 1298074214633706907132624082305024
  | [], _ => by simp [gnN]
  | x :: l, h => by
    have h1 := gain_bound (t := t) (s := s) (l := l) fun y hy => h y (by simp [hy])
    have h2 := legS_bound (t := t) (s := s) (h x (by simp))
    unfold gnN at h1 ⊢
    simp only [List.map_cons, List.sum_cons, List.length_cons]
    omega
theorem legS_in {t : List InstV} {x : Leg} {s : Int} (h : In64 x.qty) : In128 (legS t s x) := by
  have := legS_bound (t := t) (s := s) h
  unfold In128; omega
theorem gain_in {t : List InstV} {l : List Leg} {s : Int} (h : Legs64 l) (hl : l.length ≤ 1000) : In128 (gnN t l s) ∧ In128 (- gnN t l s) := by
  have := gain_bound (t := t) (s := s) h
  unfold In128; omega
theorem loss_in {t : List InstV} {l : List Leg} {s : Int} (h : Legs64 l) (hl : l.length ≤ 1000) : In128 (lossN t l s) := by
  unfold lossN
  split
  · exact (gain_in h hl).2
  · unfold In128; omega
theorem loss_ok {t : List InstV} {l : List Leg} (h : lossC t l = 0) : isV l = true ∧ known t l = true ∧ ∀ s, lossN t l s = - gnN t l s := by
  unfold lossC at h
  split at h
  · rename_i h1
    split at h
    · rename_i h2; exact ⟨h1, h2, fun s => by unfold lossN; rw [h1, h2]; rfl⟩
    · cases h
  · cases h
theorem loss_no {t : List InstV} {l : List Leg} (h : lossC t l ≠ 0) : ∀ s, lossN t l s = 0 := by
  intro s
  unfold lossN
  rw [if_neg]
  intro h1
  rw [Bool.and_eq_true] at h1
  apply h
  unfold lossC
  rw [if_pos h1.1, if_pos h1.2]
theorem most_zero {f : Int → Int} (h : ∀ s, f s = 0) : ∀ n, mostN f n = (0, -1)
  | 0 => rfl
  | n + 1 => by unfold mostN; rw [most_zero h n, h]; rfl
theorem most_nonneg (f : Int → Int) : ∀ n, 0 ≤ (mostN f n).1
  | 0 => by simp [mostN]
  | n + 1 => by have := most_nonneg f n; unfold mostN; split <;> (try simp only []) <;> omega
theorem most_ge (f : Int → Int) : ∀ (n k : Nat), k < n → f k ≤ (mostN f n).1
  | n + 1, k, h => by
    unfold mostN
    rcases Nat.lt_or_ge k n with h1 | h1
    · have := most_ge f n k h1; split <;> (try simp only []) <;> omega
    · obtain rfl : k = n := by omega
      split <;> (try simp only []) <;> omega
theorem most_is (f : Int → Int) : ∀ n, (mostN f n).1 = 0 ∨ ∃ k, k < n ∧ (mostN f n).1 = f (k : Nat)
  | 0 => .inl rfl
  | n + 1 => by
    unfold mostN
    split
    · exact .inr ⟨n, by omega, rfl⟩
    · rcases most_is f n with h | ⟨k, hk, h⟩
      · exact .inl h
      · exact .inr ⟨k, by omega, h⟩
theorem most_in {f : Int → Int} (h : ∀ s, In128 (f s)) (n : Nat) : In128 (mostN f n).1 := by
  rcases most_is f n with h1 | ⟨k, _, h1⟩
  · rw [h1]; unfold In128; omega
  · rw [h1]; exact h k
theorem most_add {f g h : Int → Int} (he : ∀ s, h s = f s + g s) (n : Nat) : (mostN h n).1 ≤ (mostN f n).1 + (mostN g n).1 := by
  rcases most_is h n with h1 | ⟨k, hk, h1⟩
  · rw [h1]; have := most_nonneg f n; have := most_nonneg g n; omega
  · rw [h1, he]; have := most_ge f n k hk; have := most_ge g n k hk; omega
theorem most_twice {f h : Int → Int} (he : ∀ s, h s = f s + f s) : ∀ n, (mostN h n).1 = (mostN f n).1 + (mostN f n).1
  | 0 => rfl
  | n + 1 => by
    have ih := most_twice he n
    unfold mostN
    rw [he]
    by_cases h1 : (mostN f n).1 < f n
    · rw [if_pos h1, if_pos (by omega)]
    · rw [if_neg h1, if_neg (by omega)]; exact ih
/-- The sum of f 1 .. f n. -/
def upTo (f : Int → Int) : Nat → Int
  | 0 => 0
  | n + 1 => upTo f n + f ((n : Int) + 1)
theorem upTo_add (f g : Int → Int) : ∀ n, upTo (fun i => f i + g i) n = upTo f n + upTo g n
  | 0 => rfl
  | n + 1 => by simp only [upTo]; rw [upTo_add f g n]; omega
theorem upTo_congr {f g : Int → Int} : ∀ {n : Nat} (_ : ∀ i : Int, 1 ≤ i → i ≤ n → f i = g i), upTo f n = upTo g n
  | 0, _ => rfl
  | n + 1, h => by simp only [upTo]; rw [upTo_congr (n := n) fun i h1 h2 => h i h1 (by omega), h _ (by omega) (by omega)]
theorem upTo_one (j c : Int) : ∀ n : Nat, upTo (fun i => if j = i then c else 0) n = if 1 ≤ j ∧ j ≤ n then c else 0
  | 0 => by simp only [upTo]; rw [if_neg (by omega)]
  | n + 1 => by
    simp only [upTo]
    rw [upTo_one j c n]
    by_cases h : j = (n : Int) + 1
    · rw [if_neg (by omega), if_pos h, if_pos (by omega)]; omega
    · rw [if_neg h]
      by_cases h1 : 1 ≤ j ∧ j ≤ n
      · rw [if_pos h1, if_pos (by omega)]; omega
      · rw [if_neg h1, if_neg (by omega)]; omega
/-- What one contract of an instrument makes. -/
def unitS (t : List InstV) (s i : Int) : Int := shockI (lgI (findInstV t i).1) 1 s
theorem shock_lin (y : Inst) (q s : Int) : shockI y q s = q * shockI y 1 s := by
  unfold shockI
  split
  · rw [Int.one_mul, Int.mul_assoc]
  · simp
theorem gain_upTo (t : List InstV) (s : Int) : ∀ {l : List Leg} {a : Int}, 0 ≤ a → isF a l = true → gnN t l s = upTo (fun i => getF i l * unitS t s i) 8
  | [], _, _, _ => by simp [gnN, getF, upTo]
  | x :: l, a, ha, h => by
    obtain ⟨h1, h2, _, h4⟩ := isF_cons.1 h
    have ih := gain_upTo t s (l := l) (a := x.inst) (by omega) h4
    have e : ∀ i : Int, 1 ≤ i → i ≤ (8 : Nat) → getF i (x :: l) * unitS t s i = (if x.inst = i then x.qty * unitS t s x.inst else 0) + getF i l * unitS t s i := by
      intro i _ _
      simp only [getF]
      by_cases hi : x.inst = i
      · rw [if_pos hi, if_pos hi, ← hi, getF_low h4 (Int.le_refl _)]; simp
      · rw [if_neg hi, if_neg hi]; simp
    rw [upTo_congr e, upTo_add, ← ih, upTo_one, if_pos (by omega)]
    unfold gnN legS unitS
    rw [List.map_cons, List.sum_cons, shock_lin _ x.qty]
theorem addL_get {ls : List (List Leg)} (h : addC ls = 0) {i : Int} (h1 : 1 ≤ i) (h2 : i ≤ 8) : getF i (addL ls) = sumG ls i := by
  unfold addC vecC at h
  split at h
  · rename_i ha
    split at h
    · rename_i hf
      unfold addL vecL
      rw [if_pos ha, if_pos hf]
      exact getF_sums _ i h1 8 (by omega)
    · cases h
  · cases h
theorem known_mem {t : List InstV} {l : List Leg} (h : known t l = true) {x : Leg} (hx : x ∈ l) : (findInstV t x.inst).2 = true := by
  unfold known at h
  exact List.all_eq_true.1 h x hx
theorem known_add {t : List InstV} {a b : List Leg} (hc : addC [a, b] = 0) (ha : known t a = true) (hb : known t b = true) : known t (addL [a, b]) = true := by
  unfold known
  rw [List.all_eq_true]
  intro y hy
  have hv := isV_addL [a, b]
  obtain ⟨g1, g2, g3⟩ := getF_of_mem hv hy
  have g4 := addL_get hc (i := y.inst) (by omega) g3
  have hq : y.qty ≠ 0 := by
    have : ∀ {l : List Leg} {c : Int}, isF c l = true → y ∈ l → y.qty ≠ 0 := by
      intro l
      induction l with
      | nil => intro c _ h; cases h
      | cons z l ih =>
        intro c h h5
        obtain ⟨_, _, k3, k4⟩ := isF_cons.1 h
        rcases List.mem_cons.1 h5 with rfl | h5
        · exact k3
        · exact ih k4 h5
    exact this hv hy
  have e : sumG [a, b] y.inst = getF y.inst a + getF y.inst b := by simp [sumG]
  rcases getF_mem (l := a) (i := y.inst) with h1 | ⟨x, hx, h1, _⟩
  · rcases getF_mem (l := b) (i := y.inst) with h2 | ⟨x, hx, h2, _⟩
    · omega
    · rw [← h2]; exact known_mem hb hx
  · rw [← h1]; exact known_mem ha hx
theorem gain_add {t : List InstV} {a b : List Leg} (hc : addC [a, b] = 0) (ha : isV a = true) (hb : isV b = true) (s : Int) : gnN t (addL [a, b]) s = gnN t a s + gnN t b s := by
  rw [gain_upTo t s (Int.le_refl 0) (isV_addL [a, b]), gain_upTo t s (Int.le_refl 0) ha, gain_upTo t s (Int.le_refl 0) hb, ← upTo_add]
  refine upTo_congr fun i h1 h2 => ?_
  rw [addL_get hc h1 (by omega), ← Int.add_mul]
  simp [sumG]
/-- Two as one: what can be reckoned, and what it loses. -/
theorem loss_add {t : List InstV} {a b : List Leg} (hc : addC [a, b] = 0) (ha : lossC t a = 0) (hb : lossC t b = 0) : lossC t (addL [a, b]) = 0 ∧ ∀ s, lossN t (addL [a, b]) s = lossN t a s + lossN t b s := by
  obtain ⟨a1, a2, a3⟩ := loss_ok ha
  obtain ⟨b1, b2, b3⟩ := loss_ok hb
  have h0 : lossC t (addL [a, b]) = 0 := by
    unfold lossC
    rw [if_pos (isV_addL _), if_pos (known_add hc a2 b2)]
  refine ⟨h0, fun s => ?_⟩
  obtain ⟨_, _, c3⟩ := loss_ok h0
  rw [c3, a3, b3, gain_add hc a1 b1]
  omega
theorem margin_ok {t : List InstV} {l : List Leg} (h : marginC t l = 0) : lossC t l = 0 ∧ marginN t l = (mostN (lossN t l) 8).1 ∧ In64 (mostN (lossN t l) 8).1 := by
  unfold marginC at h
  split at h
  · rename_i h1
    split at h
    · rename_i h2
      exact ⟨h1, by unfold marginN; rw [if_pos h1, if_pos h2], in64_iff.1 h2⟩
    · cases h
  · exact absurd h (by assumption)
theorem margin_pos (t : List InstV) (l : List Leg) : 0 ≤ marginN t l := by
  unfold marginN
  have := most_nonneg (lossN t l) 8
  split
  · split <;> omega
  · omega
theorem margin_in (t : List InstV) (l : List Leg) : In64 (marginN t l) := by
  unfold marginN
  split
  · split
    · rename_i h; exact in64_iff.1 h
    · unfold In64; omega
  · unfold In64; omega
/-- Netting never asks for more. -/
theorem margin_net {t : List InstV} {a b : List Leg} (hc : addC [a, b] = 0) (ha : marginC t a = 0) (hb : marginC t b = 0) :
    (marginC t (addL [a, b]) = 7 ∧ 9223372036854775807 < marginN t a + marginN t b) ∨ (marginC t (addL [a, b]) = 0 ∧ marginN t (addL [a, b]) ≤ marginN t a + marginN t b) := by
  obtain ⟨a1, a2, a3⟩ := margin_ok ha
  obtain ⟨b1, b2, b3⟩ := margin_ok hb
  obtain ⟨c1, c2⟩ := loss_add hc a1 b1
  have h1 := most_add c2 8
  have h2 := most_nonneg (lossN t (addL [a, b])) 8
  cases hq : in64 (mostN (lossN t (addL [a, b])) 8).1
  · left
    have h3 := in64_no hq
    refine ⟨by unfold marginC; rw [if_pos c1, hq]; rfl, ?_⟩
    rw [a2, b2]
    unfold In64 at h3
    omega
  · right
    refine ⟨by unfold marginC; rw [if_pos c1, hq]; rfl, ?_⟩
    unfold marginN at a2 b2 ⊢
    rw [a2, b2, if_pos c1, hq, if_pos rfl]
    exact h1
/-- Twice a vector asks for twice as much. -/
theorem margin_twice {t : List InstV} {a : List Leg} (hc : addC [a, a] = 0) (ha : marginC t a = 0) :
    if in64 (marginN t a + marginN t a) then marginC t (addL [a, a]) = 0 ∧ marginN t (addL [a, a]) = marginN t a + marginN t a else marginC t (addL [a, a]) = 7 ∧ marginN t (addL [a, a]) = 0 := by
  obtain ⟨a1, a2, a3⟩ := margin_ok ha
  obtain ⟨c1, c2⟩ := loss_add hc a1 a1
  have h1 := most_twice c2 8
  rw [a2, ← h1]
  unfold marginC marginN
  rw [if_pos c1, if_pos c1]
  cases in64 (mostN (lossN t (addL [a, a])) 8).1 <;> simp
end Go.Proofs.Ytiidplinmempcaa

/- Layer 24: contracts of grid.Loss, losses, worst, Margin, Worst. -/
namespace Go.Proofs.Ytiidplinmempcaa
open Go.RowKit
theorem rowsG (l : List Int) : ∀ r ∈ l.map encW, r.length = 2 ∧ ∀ u ∈ r, u.oneCell' = true := by
  intro r hr
  obtain ⟨m, _, rfl⟩ := List.mem_map.1 hr
  refine ⟨rfl, ?_⟩
  simp only [encW, List.mem_cons, List.not_mem_nil, or_false, forall_eq_or_imp, forall_eq]
  exact ⟨rfl, rfl⟩
theorem instShockV (x : InstV) (q s : Int) (A : Option Addr) (c : Nat) (w : World) (hq : In64 q) (hl : x.moves.val.length ≤ 1099511627776) (hr : Rd w A 1 (x.moves.val.map encI)) :
    Calls Try.prog 73 #[.agg #[.int .i64 x.id, .int .i64 x.mult, .int .i64 x.price, .int .i64 x.next, .slice A x.moves.val.length c], .int .i64 q, .int .i64 s] w fun e w' => e = .returned (.agg #[.int .i64 (whi (shockI (lgI x) q s)), .int .u64 (wlo (shockI (lgI x) q s))]) ∧ Below w.heap.size w w' :=
  instShock (lgI x) q s A c w hq hl hr
theorem find_moves {t : List InstV} {id : Int} (h : ∀ x ∈ t, x.moves.val.length ≤ 1048576) : (findInstV t id).1.moves.val.length ≤ 1048576 := by
  rcases idx_findV t id with ⟨k, hk, _, _, _, hf⟩ | ⟨_, _, hf⟩
  · rw [hf]; exact h t[k] (List.getElem_mem hk)
  · rw [hf]; simp
theorem known_snoc {t : List InstV} {l : List Leg} {k : Nat} (h : k < l.length) : known t (l.take (k + 1)) = (known t (l.take k) && (findInstV t l[k].inst).2) := by
  unfold known
  rw [List.take_succ_eq_append_getElem h, List.all_append]
  simp
theorem known_no {t : List InstV} {l : List Leg} {k : Nat} (h : k < l.length) (hf : (findInstV t l[k].inst).2 = false) : known t l = false := by
  cases hk : known t l
  · rfl
  · rw [known_mem hk (List.getElem_mem h)] at hf; cases hf
set_option maxRecDepth 100000 in
set_option maxHeartbeats 8000000 in
theorem gridLoss (t : List InstV) (l : List Leg) (s : Int) (A B : Option Addr) (c d : Nat) (w : World) (ht : t.length ≤ 1000000) (hl : l.length ≤ 1000) (h64 : Legs64 l) (hrt : Rd w A 5 (t.map encInstV)) (hgt : ∀ x ∈ t, x.moves.val.length ≤ 1048576 ∧ GoodI w x) (hrl : Rd w B 2 (l.map encLeg)) :
    Calls Try.prog 14 #[.slice A t.length c, .slice B l.length d, .int .i64 s] w fun e w' => e = .returned (.tuple #[(.agg #[.int .i64 (whi (lossN t l s)), .int .u64 (wlo (lossN t l s))]), .int .i64 (lossC t l)]) ∧ Below w.heap.size w w' := by
  have HL := Lib.hid hrl
  have H64 := Lib.hid h64
  have hgi := gain_in (t := t) (s := s) h64 hl
  have HGI := Lib.hid hgi
  have HT := Lib.hid (fun W (h : Below w.heap.size w W) id => instFind t id A c W ht (hrt.keep h) (fun x hx => ⟨(hgt x hx).1, (hgt x hx).2.keep h⟩))
  have HM := Lib.hid (fun id => find_moves (t := t) (id := id) fun x hx => (hgt x hx).1)
  have CI := Lib.hid (fun W h => vecIs l B d W (by omega) h)
  clear hrl h64 hrt hgt hgi
  cases hv : isV l
  · have HC := Lib.hid (show lossC t l = 3 from by unfold lossC; rw [hv]; rfl)
    have HN := Lib.hid (show lossN t l s = 0 from by unfold lossN; rw [hv]; rfl)
    rw [hv] at CI
    clear hv
    go_enter Try.func14, Try.ntmps14
    go_wp2_with (first | (go_at_call 71; (with_reducible refine (CI.out _ (HL.out.keep (by (repeat' (first | (with_reducible exact Below.refl _ _) | (with_reducible assumption) | (with_reducible refine Below.alloc ?_ ?_ _) | (with_reducible refine Below.setCell ?_ ?_ _) | (with_reducible refine Below.drew ?_) | (with_reducible refine below_drewN ?_ _) | (with_reducible refine below_via ?_ (by with_reducible assumption) ?_) | omega | (simp; done) | (simp; omega)))))).mono ?_); rintro e w1 ⟨rfl, hb1⟩; obtain ⟨fc1, fg1, hc1, hf1, hz1⟩ := bget hb1; (try simp at hz1)) | fail)
    rw [HC.out, HN.out, whi_zero, wlo_zero]
    refine bodyPost_ret (by simp [results, Try.results14, go_sem, hc1]; try rfl) rfl ⟨rfl, ?_⟩
    (repeat' (first | (with_reducible exact Below.refl _ _) | (with_reducible assumption) | (with_reducible refine Below.alloc ?_ ?_ _) | (with_reducible refine Below.setCell ?_ ?_ _) | (with_reducible refine Below.drew ?_) | (with_reducible refine below_drewN ?_ _) | (with_reducible refine below_via ?_ (by with_reducible assumption) ?_) | omega | (simp; done) | (simp; omega)))
  have HV := Lib.hid hv
  rw [hv] at CI
  clear hv
  go_enter Try.func14, Try.ntmps14
  go_wp2_with (first | (go_at_call 71; (with_reducible refine (CI.out _ (HL.out.keep (by (repeat' (first | (with_reducible exact Below.refl _ _) | (with_reducible assumption) | (with_reducible refine Below.alloc ?_ ?_ _) | (with_reducible refine Below.setCell ?_ ?_ _) | (with_reducible refine Below.drew ?_) | (with_reducible refine below_drewN ?_ _) | (with_reducible refine below_via ?_ (by with_reducible assumption) ?_) | omega | (simp; done) | (simp; omega)))))).mono ?_); rintro e w1 ⟨rfl, hb1⟩; obtain ⟨fc1, fg1, hc1, hf1, hz1⟩ := bget hb1; (try simp at hz1)) | fail)
  have Hb0 := Lib.hid (show Below w.heap.size w w1 from by (repeat' (first | (with_reducible exact Below.refl _ _) | (with_reducible assumption) | (with_reducible refine Below.alloc ?_ ?_ _) | (with_reducible refine Below.setCell ?_ ?_ _) | (with_reducible refine Below.drew ?_) | (with_reducible refine below_drewN ?_ _) | (with_reducible refine below_via ?_ (by with_reducible assumption) ?_) | omega | (simp; done) | (simp; omega))))
  have x0 : w1.cell? ⟨w.heap.size, 0, none⟩ = some (.int .i64 0) := by simp [hc1, go_sem]
  have x1 : w1.cell? ⟨w.heap.size, 1, none⟩ = some (.int .u64 0) := by simp [hc1, go_sem]
  have x2 : w1.frozen? ⟨w.heap.size, 0, none⟩ = false := by simp [hf1, go_sem]
  have x3 : w1.frozen? ⟨w.heap.size, 1, none⟩ = false := by simp [hf1, go_sem]
  have X := Lib.hid (And.intro x0 (And.intro x1 (And.intro x2 x3)))
  clear x0 x1 x2 x3 hc1 hf1 hb1
  go_loopw [8, 23] (fun v i wr => ∃ k : Nat, k ≤ l.length ∧ i = .int .i64 k ∧ known t (l.take k) = true ∧ Own wr (w.heap.size + 1) 28 2 v (((l.take k).map (legS t s)).map encW) ∧ Below w.heap.size w wr ∧ w.heap.size < wr.heap.size ∧ (wr.cell? ⟨w.heap.size, 0, none⟩ = some (.int .i64 0) ∧ wr.cell? ⟨w.heap.size, 1, none⟩ = some (.int .u64 0)) ∧ wr.frozen? ⟨w.heap.size, 0, none⟩ = false ∧ wr.frozen? ⟨w.heap.size, 1, none⟩ = false) (fun _ i _ => l.length - (intOf i).toNat)
  case atStart => exact ⟨0, Nat.zero_le _, rfl, rfl, Own.nil _ _ _ _, Hb0.out, by omega, ⟨X.out.1, X.out.2.1⟩, X.out.2.2.1, X.out.2.2.2⟩
  case round =>
    clear X Hb0
    obtain ⟨k, hk, rfl, hkn, hown, hbl, hsz, ⟨z0, z1⟩, y0, y1⟩ := hrel
    have Hown := Lib.hid hown
    have Hbl := Lib.hid hbl
    have HKN := Lib.hid hkn
    have hz := hbl.size
    clear hown hbl hkn
    by_cases hlt : k < l.length
    · have kl : (k : Int) < (l.length : Int) := by omega
      have dl : decide ((k : Int) < (l.length : Int)) = true := by simpa using hlt
      obtain ⟨be, oe, rfl, hbe, hqe⟩ := HL.out k (encLeg l[k]) (by simp [hlt])
      replace hqe := fun j v hv => (Hbl.out.cell (p := ⟨be, oe + k * 2 + j, none⟩) hbe).trans (hqe j v hv)
      have e0 := hqe 0 _ rfl
      have e1 := hqe 1 _ rfl
      simp only [Nat.add_zero] at e0
      clear hqe
      have hbw : be < wr.heap.size := by omega
      have hq64 := Lib.hid (H64.out l[k] (List.getElem_mem hlt))
      have hlen : ((l.take k).map (legS t s)).length ≤ 1000 := by simp; omega
      have hns := map_snoc hlt (legS t s)
      have hno := known_no (t := t) hlt
      have hsn := known_snoc (t := t) hlt
      have hfm := HM.out l[k].inst
      have hcf := fun W (h : Below w.heap.size w W) => HT.out W h l[k].inst
      have hls : legS t s l[k] = shockI (lgI (findInstV t l[k].inst).1) l[k].qty s := rfl
      generalize findInstV t l[k].inst = ff at *
      obtain ⟨fz, fb⟩ := ff
      simp only at hno hsn hfm hcf hls
      obtain ⟨n, hn⟩ : ∃ n, n = legS t s l[k] := ⟨_, rfl⟩
      rw [← hn] at hls hns
      have CF := Lib.hid hcf
      have CS := Lib.hid (fun W A c h => hls ▸ instShockV fz l[k].qty s A c W hq64.out (by omega) h)
      have HNS := Lib.hid hns
      have HNO := Lib.hid hno
      have HSN := Lib.hid hsn
      clear hns hno hsn hcf hls hn hfm
      cases fb
      · have HC := Lib.hid (show lossC t l = 11 from by unfold lossC; rw [HV.out, HNO.out rfl]; rfl)
        have HN := Lib.hid (show lossN t l s = 0 from by unfold lossN; rw [HV.out, HNO.out rfl]; rfl)
        go_wp2_with (first | (go_at_call 72; (with_reducible refine (CF.out _ (by have hbl := Hbl.out; (repeat' (first | (with_reducible exact Below.refl _ _) | (with_reducible assumption) | (with_reducible refine Below.alloc ?_ ?_ _) | (with_reducible refine Below.setCell ?_ ?_ _) | (with_reducible refine Below.drew ?_) | (with_reducible refine below_drewN ?_ _) | (with_reducible refine below_via ?_ (by with_reducible assumption) ?_) | omega | (simp; done) | (simp; omega))))).mono ?_); rintro e w1 ⟨⟨yi, ym, yp, yn, yA, yc, yv⟩, rfl, hl1, hg1, hb1⟩; (simp only [lgI, Inst.mk.injEq] at hl1); obtain ⟨rfl, rfl, rfl, rfl, rfl⟩ := hl1; have G1 := Lib.hid (show Rs w1 1 (fz.moves.val.map encI) yA yc from hg1); clear hg1; obtain ⟨fc1, fg1, hc1, hf1, hz1⟩ := bget hb1; (try simp at hz1)) | fail)
        have hbl := Hbl.out
        rw [HC.out, HN.out, whi_zero, wlo_zero]
        refine bodyPost_ret (by simp [results, Try.results14, go_sem, hc1, z0, z1, hsz, ↓IntWalk.iteOmega]; try rfl) rfl ⟨rfl, ?_⟩
        (repeat' (first | (with_reducible exact Below.refl _ _) | (with_reducible assumption) | (with_reducible refine Below.alloc ?_ ?_ _) | (with_reducible refine Below.setCell ?_ ?_ _) | (with_reducible refine Below.drew ?_) | (with_reducible refine below_drewN ?_ _) | (with_reducible refine below_via ?_ (by with_reducible assumption) ?_) | omega | (simp; done) | (simp; omega)))
      · go_wp2_with (first | (go_at_call 72; (with_reducible refine (CF.out _ (by have hbl := Hbl.out; (repeat' (first | (with_reducible exact Below.refl _ _) | (with_reducible assumption) | (with_reducible refine Below.alloc ?_ ?_ _) | (with_reducible refine Below.setCell ?_ ?_ _) | (with_reducible refine Below.drew ?_) | (with_reducible refine below_drewN ?_ _) | (with_reducible refine below_via ?_ (by with_reducible assumption) ?_) | omega | (simp; done) | (simp; omega))))).mono ?_); rintro e w1 ⟨⟨yi, ym, yp, yn, yA, yc, yv⟩, rfl, hl1, hg1, hb1⟩; (simp only [lgI, Inst.mk.injEq] at hl1); obtain ⟨rfl, rfl, rfl, rfl, rfl⟩ := hl1; have G1 := Lib.hid (show Rs w1 1 (fz.moves.val.map encI) yA yc from hg1); clear hg1; obtain ⟨fc1, fg1, hc1, hf1, hz1⟩ := bget hb1; (try simp at hz1)) | (go_at_call 73; (with_reducible refine (CS.out _ _ _ (G1.out.keep (by (repeat' (first | (with_reducible exact Below.refl _ _) | (with_reducible assumption) | (with_reducible refine Below.alloc ?_ ?_ _) | (with_reducible refine Below.setCell ?_ ?_ _) | (with_reducible refine Below.drew ?_) | (with_reducible refine below_drewN ?_ _) | (with_reducible refine below_via ?_ (by with_reducible assumption) ?_) | omega | (simp; done) | (simp; omega))))).rd).mono ?_); rintro e w2 ⟨rfl, hb2⟩; obtain ⟨fc2, fg2, hc2, hf2, hz2⟩ := bget hb2; (try simp at hz2)) | (at_builtin; refine wpList_app rfl _ _ _ rfl elW (w.heap.size + 1) _ _ rfl ((Hown.out.keep (by (repeat' (first | (with_reducible exact Below.refl _ _) | (with_reducible assumption) | (with_reducible refine Below.alloc ?_ ?_ _) | (with_reducible refine Below.setCell ?_ ?_ _) | (with_reducible refine Below.drew ?_) | (with_reducible refine below_drewN ?_ _) | (with_reducible refine below_via ?_ (by with_reducible assumption) ?_) | omega | (simp; done) | (simp; omega))))).alloc _) (some ⟨_, 0, none⟩) 1 1 rfl [encW n] rfl (fun h => by cases h) (rd_oneN (by simp)) (rowsG [n]) (by unfold maxLen; first | (simp; done) | omega | (simp; omega)) (by first | (simp; done) | omega | (simp; omega)) (by first | omega | (simp; done) | (simp; omega)) ?_; intro v3 w3 hown3 hb3; obtain ⟨fc3, fg3, hc3, hf3, hz3⟩ := bget hb3; (try simp at hz3)) | fail)
        go_roundw
        case rel => exact ⟨k + 1, by omega, by go_num, by rw [HSN.out, HKN.out]; rfl, by rw [HNS.out, List.map_append]; exact hown3, by have hbl := Hbl.out; (repeat' (first | (with_reducible exact Below.refl _ _) | (with_reducible assumption) | (with_reducible refine Below.alloc ?_ ?_ _) | (with_reducible refine Below.setCell ?_ ?_ _) | (with_reducible refine Below.drew ?_) | (with_reducible refine below_drewN ?_ _) | (with_reducible refine below_via ?_ (by with_reducible assumption) ?_) | omega | (simp; done) | (simp; omega))), by first | omega | (simp at hz3; omega), by simp [hc3, hc2, hc1, go_sem, z0, z1, hsz, ↓IntWalk.iteOmega], by simp [hf3, hf2, hf1, go_sem, y0, y1, hsz, ↓IntWalk.iteOmega]; exact ⟨fun h => absurd h (by omega), fun h => absurd h (by omega)⟩⟩
        case measure => simp [intOf]; omega
    · have dl : decide ((k : Int) < (l.length : Int)) = false := by simpa using hlt
      have HTK := Lib.hid (show l.take k = l from List.take_of_length_le (by omega))
      have hown := Hown.out
      rw [HTK.out] at hown
      obtain ⟨A9, c9, hv9, hrs9, _⟩ := hown.rs
      rw [List.length_map] at hv9
      subst hv9
      have hkn := HKN.out
      rw [HTK.out] at hkn
      have HC := Lib.hid (show lossC t l = 0 from by unfold lossC; rw [HV.out, hkn]; rfl)
      have HN := Lib.hid (show lossN t l s = - gnN t l s from by unfold lossN; rw [HV.out, hkn]; rfl)
      have CA := Lib.hid (fun W (h : Below wr.heap.size wr W) => wideAddYes (l.map (legS t s)) A9 c9 W (by simp; omega) (fun z hz => by obtain ⟨y, hy, rfl⟩ := List.mem_map.1 hz; exact legS_in (H64.out y hy)) (hrs9.keep h).rd HGI.out.1)
      have CN := Lib.hid (fun W => wideNegYes (gnN t l s) W HGI.out.1 HGI.out.2)
      have HG : Hid ((l.map (legS t s)).sum = gnN t l s) := rfl
      rw [HG.out] at CA
      clear hown hrs9 hkn
      generalize l.map (legS t s) = z at *
      generalize gnN t l s = g at *
      go_wp2_with (first | (go_at_call 74; (with_reducible refine (CA.out _ (by (repeat' (first | (with_reducible exact Below.refl _ _) | (with_reducible assumption) | (with_reducible refine Below.alloc ?_ ?_ _) | (with_reducible refine Below.setCell ?_ ?_ _) | (with_reducible refine Below.drew ?_) | (with_reducible refine below_drewN ?_ _) | (with_reducible refine below_via ?_ (by with_reducible assumption) ?_) | omega | (simp; done) | (simp; omega))))).mono ?_); rintro e w1 ⟨rfl, hb1⟩; obtain ⟨fc1, fg1, hc1, hf1, hz1⟩ := bget hb1; (try simp at hz1)) | (go_at_call 75; (with_reducible refine (CN.out _).mono ?_); rintro e w2 ⟨rfl, hb2⟩; obtain ⟨fc2, fg2, hc2, hf2, hz2⟩ := bget hb2; (try simp at hz2)) | fail)
      have hbl := Hbl.out
      rw [HC.out, HN.out]
      refine bodyPost_ret (by simp [results, Try.results14, go_sem, hc1, hc2, z0, z1, hsz, ↓IntWalk.iteOmega]; try rfl) rfl ⟨rfl, ?_⟩
      (repeat' (first | (with_reducible exact Below.refl _ _) | (with_reducible assumption) | (with_reducible refine Below.alloc ?_ ?_ _) | (with_reducible refine Below.setCell ?_ ?_ _) | (with_reducible refine Below.drew ?_) | (with_reducible refine below_drewN ?_ _) | (with_reducible refine below_via ?_ (by with_reducible assumption) ?_) | omega | (simp; done) | (simp; omega)))
/-- The losses in all eight scenarios. -/
def losses8 (f : Int → Int) (k : Nat) : List Int := (List.range k).map fun (j : Nat) => f j
theorem losses8_succ (f : Int → Int) (k : Nat) : losses8 f (k + 1) = losses8 f k ++ [f k] := by
  unfold losses8
  rw [List.range_succ, List.map_append]; rfl
def lossesL (t : List InstV) (l : List Leg) : List Int := if lossC t l = 0 then losses8 (lossN t l) 8 else []
theorem most_losses (f : Int → Int) : ∀ n m, n ≤ m → mostN (fun s => (losses8 f m).getD s.toNat 0) n = mostN f n
  | 0, _, _ => rfl
  | n + 1, m, h => by
    have e : (losses8 f m).getD ((n : Nat) : Int).toNat 0 = f n := by
      unfold losses8
      rw [List.getD_eq_getElem?_getD, Int.toNat_natCast, List.getElem?_map, List.getElem?_range (by omega)]
      rfl
    unfold mostN
    rw [most_losses f n m (by omega), e]
set_option maxRecDepth 100000 in
set_option maxHeartbeats 8000000 in
theorem gridLosses (t : List InstV) (l : List Leg) (A B : Option Addr) (c d : Nat) (w : World) (ht : t.length ≤ 1000000) (hl : l.length ≤ 1000) (h64 : Legs64 l) (hrt : Rd w A 5 (t.map encInstV)) (hgt : ∀ x ∈ t, x.moves.val.length ≤ 1048576 ∧ GoodI w x) (hrl : Rd w B 2 (l.map encLeg)) :
    Calls Try.prog 80 #[.slice A t.length c, .slice B l.length d] w fun e w' => ∃ v, e = .returned (.tuple #[v, .int .i64 (lossC t l)]) ∧ Own w' w.heap.size 28 2 v ((lossesL t l).map encW) ∧ Below w.heap.size w w' := by
  have CL := Lib.hid (fun W (h : Below w.heap.size w W) s => gridLoss t l s A B c d W ht hl h64 (hrt.keep h) (fun x hx => ⟨(hgt x hx).1, (hgt x hx).2.keep h⟩) (hrl.keep h))
  have HLL := Lib.hid (show lossesL t l = if lossC t l = 0 then losses8 (lossN t l) 8 else [] from rfl)
  generalize lossesL t l = L at *
  generalize lossN t l = f at *
  generalize lossC t l = code at *
  clear ht hl h64 hrt hgt hrl
  by_cases h0 : code = 0
  · subst h0
    have HL8 := Lib.hid (show L = losses8 f 8 from by rw [HLL.out]; rfl)
    clear HLL
    go_enter Try.func80, Try.ntmps80
    go_wp2_with fail
    go_loopw [6, 10] (fun v i wr => ∃ k : Nat, k ≤ 8 ∧ i = .int .i64 k ∧ Own wr w.heap.size 28 2 v ((losses8 f k).map encW) ∧ Below w.heap.size w wr) (fun _ i _ => 8 - (intOf i).toNat)
    case atStart => exact ⟨0, Nat.zero_le _, rfl, Own.nil _ _ _ _, by (repeat' (first | (with_reducible exact Below.refl _ _) | (with_reducible assumption) | (with_reducible refine Below.alloc ?_ ?_ _) | (with_reducible refine Below.setCell ?_ ?_ _) | (with_reducible refine Below.drew ?_) | (with_reducible refine below_drewN ?_ _) | (with_reducible refine below_via ?_ (by with_reducible assumption) ?_) | omega | (simp; done) | (simp; omega)))⟩
    case round =>
      obtain ⟨k, hk, rfl, hown, hbl⟩ := hrel
      have Hown := Lib.hid hown
      have Hbl := Lib.hid hbl
      have hz := hbl.size
      clear hown hbl
      by_cases hlt : k < 8
      · have dl : decide ((k : Int) < 8) = true := by simp; omega
        have hlen : (losses8 f k).length ≤ 8 := by unfold losses8; simp; omega
        have HS := Lib.hid (losses8_succ f k)
        have CK := Lib.hid (fun W (h : Below w.heap.size w W) => CL.out W h k)
        obtain ⟨n, hn⟩ : ∃ n, n = f (k : Int) := ⟨_, rfl⟩
        rw [← hn] at CK HS
        clear hn
        go_wp2_with (first | (go_at_call 14; (with_reducible refine (CK.out _ (by have hbl := Hbl.out; (repeat' (first | (with_reducible exact Below.refl _ _) | (with_reducible assumption) | (with_reducible refine Below.alloc ?_ ?_ _) | (with_reducible refine Below.setCell ?_ ?_ _) | (with_reducible refine Below.drew ?_) | (with_reducible refine below_drewN ?_ _) | (with_reducible refine below_via ?_ (by with_reducible assumption) ?_) | omega | (simp; done) | (simp; omega))))).mono ?_); rintro e w1 ⟨rfl, hb1⟩; obtain ⟨fc1, fg1, hc1, hf1, hz1⟩ := bget hb1; (try simp at hz1)) | (at_builtin; refine wpList_app rfl _ _ _ rfl elW w.heap.size _ _ rfl ((Hown.out.keep (by (repeat' (first | (with_reducible exact Below.refl _ _) | (with_reducible assumption) | (with_reducible refine Below.alloc ?_ ?_ _) | (with_reducible refine Below.setCell ?_ ?_ _) | (with_reducible refine Below.drew ?_) | (with_reducible refine below_drewN ?_ _) | (with_reducible refine below_via ?_ (by with_reducible assumption) ?_) | omega | (simp; done) | (simp; omega))))).alloc _) (some ⟨_, 0, none⟩) 1 1 rfl [encW n] rfl (fun h => by cases h) (rd_oneN (by simp)) (rowsG [n]) (by unfold maxLen; first | (simp; done) | omega | (simp; omega)) (by first | (simp; done) | omega | (simp; omega)) (by first | omega | (simp; done) | (simp; omega)) ?_; intro v3 w3 hown3 hb3; obtain ⟨fc3, fg3, hc3, hf3, hz3⟩ := bget hb3; (try simp at hz3)) | fail)
        go_roundw
        case rel => exact ⟨k + 1, by omega, by go_num, by rw [HS.out, List.map_append]; exact hown3, by have hbl := Hbl.out; (repeat' (first | (with_reducible exact Below.refl _ _) | (with_reducible assumption) | (with_reducible refine Below.alloc ?_ ?_ _) | (with_reducible refine Below.setCell ?_ ?_ _) | (with_reducible refine Below.drew ?_) | (with_reducible refine below_drewN ?_ _) | (with_reducible refine below_via ?_ (by with_reducible assumption) ?_) | omega | (simp; done) | (simp; omega)))⟩
        case measure => simp [intOf]; omega
      · obtain rfl : k = 8 := by omega
        go_wp2_with fail
        go_ret2
        exact ⟨_, rfl, by rw [HL8.out]; exact Hown.out, by have hbl := Hbl.out; (repeat' (first | (with_reducible exact Below.refl _ _) | (with_reducible assumption) | (with_reducible refine Below.alloc ?_ ?_ _) | (with_reducible refine Below.setCell ?_ ?_ _) | (with_reducible refine Below.drew ?_) | (with_reducible refine below_drewN ?_ _) | (with_reducible refine below_via ?_ (by with_reducible assumption) ?_) | omega | (simp; done) | (simp; omega)))⟩
  · have HL0 := Lib.hid (show L = [] from by rw [HLL.out, if_neg h0])
    have d0 : (code == 0) = false := by simpa using h0
    have CK := Lib.hid (fun W (h : Below w.heap.size w W) => CL.out W h 0)
    generalize f 0 = n at *
    clear HLL h0 CL
    go_enter Try.func80, Try.ntmps80
    go_wp2_with fail
    go_loopw [6, 10] (fun v i wr => v = .slice none 0 0 ∧ i = .int .i64 0 ∧ wr = w) (fun _ i _ => 8 - (intOf i).toNat)
    case atStart => exact ⟨rfl, rfl, rfl⟩
    case round =>
      obtain ⟨rfl, rfl, rfl⟩ := hrel
      go_wp2_with (first | (go_at_call 14; (with_reducible refine (CK.out _ (by (repeat' (first | (with_reducible exact Below.refl _ _) | (with_reducible assumption) | (with_reducible refine Below.alloc ?_ ?_ _) | (with_reducible refine Below.setCell ?_ ?_ _) | (with_reducible refine Below.drew ?_) | (with_reducible refine below_drewN ?_ _) | (with_reducible refine below_via ?_ (by with_reducible assumption) ?_) | omega | (simp; done) | (simp; omega))))).mono ?_); rintro e w1 ⟨rfl, hb1⟩; obtain ⟨fc1, fg1, hc1, hf1, hz1⟩ := bget hb1; (try simp at hz1)) | fail)
      go_ret2
      exact ⟨_, rfl, by rw [HL0.out]; exact Own.nil _ _ _ _, by (repeat' (first | (with_reducible exact Below.refl _ _) | (with_reducible assumption) | (with_reducible refine Below.alloc ?_ ?_ _) | (with_reducible refine Below.setCell ?_ ?_ _) | (with_reducible refine Below.drew ?_) | (with_reducible refine below_drewN ?_ _) | (with_reducible refine below_via ?_ (by with_reducible assumption) ?_) | omega | (simp; done) | (simp; omega)))⟩
set_option maxRecDepth 100000 in
set_option maxHeartbeats 8000000 in
theorem gridWorst (l : List Int) (A : Option Addr) (c : Nat) (w : World) (hl : l.length ≤ 1000) (h128 : ∀ z ∈ l, In128 z) (hr : Rd w A 2 (l.map encW)) :
    Calls Try.prog 81 #[.slice A l.length c] w fun e w' => e = .returned (.tuple #[(.agg #[.int .i64 (whi ((mostN (fun s => l.getD s.toNat 0) l.length).1)), .int .u64 (wlo ((mostN (fun s => l.getD s.toNat 0) l.length).1))]), .int .i64 (mostN (fun s => l.getD s.toNat 0) l.length).2]) ∧ Below w.heap.size w w' := by
  have HL := Lib.hid hr
  have H128 := Lib.hid h128
  have HMI := Lib.hid (fun k => most_in (f := fun s => l.getD s.toNat 0) (fun s => by
    show In128 (l.getD s.toNat 0)
    rw [List.getD_eq_getElem?_getD]
    cases h : l[s.toNat]? with
    | none => exact (show In128 0 from by unfold In128; omega)
    | some z => exact h128 z (List.mem_of_getElem? h)) k)
  have HST := Lib.hid (fun k (hk : k < l.length) => show mostN (fun s => l.getD s.toNat 0) (k + 1) = if (mostN (fun s => l.getD s.toNat 0) k).1 < l[k] then (l[k], (k : Int)) else mostN (fun s => l.getD s.toNat 0) k from by
    rw [mostN, show l.getD ((k : Nat) : Int).toNat 0 = l[k] from by rw [Int.toNat_natCast, getD_at hk]])
  have HS0 := Lib.hid (show mostN (fun s => l.getD s.toNat 0) 0 = (0, -1) from rfl)
  generalize mostN (fun s => l.getD s.toNat 0) = M at *
  clear hr h128
  go_enter Try.func81, Try.ntmps81
  go_wp2_with fail
  go_loopw [5, 11] (fun a i wr => ∃ k : Nat, k ≤ l.length ∧ i = .int .i64 k ∧ a = .int .i64 (M k).2 ∧ Blk wr (w.heap.size + 1) 28 #[.int .i64 (whi (M k).1), .int .u64 (wlo (M k).1)] ∧ Below (w.heap.size + 1) (w.alloc (.cells #[.int .i64 0, .int .u64 0] 28)) wr) (fun _ i _ => l.length - (intOf i).toNat)
  case atStart => exact ⟨0, Nat.zero_le _, rfl, by rw [HS0.out], by rw [HS0.out, whi_zero, wlo_zero]; (repeat' (first | (with_reducible assumption) | (with_reducible refine Blk.drew ?_) | (with_reducible refine Blk.here ?_) | (with_reducible refine Blk.alloc ?_ _) | (with_reducible refine Blk.far ?_ ?_ _) | (with_reducible refine Blk.below ?_ (by with_reducible assumption) ?_) | omega | (simp; done) | (simp; omega))), by (repeat' (first | (with_reducible exact Below.refl _ _) | (with_reducible assumption) | (with_reducible refine Below.alloc ?_ ?_ _) | (with_reducible refine Below.setCell ?_ ?_ _) | (with_reducible refine Below.drew ?_) | (with_reducible refine below_drewN ?_ _) | (with_reducible refine below_via ?_ (by with_reducible assumption) ?_) | omega | (simp; done) | (simp; omega)))⟩
  case round =>
    obtain ⟨k, hk, rfl, rfl, hB, hbl⟩ := hrel
    have HB := Lib.hid hB
    have Hbl := Lib.hid hbl
    have hz := hbl.size
    simp at hz
    have b0 := hB.cell 0
    have b1 := hB.cell 1
    have y0 := hB.frozen 0
    have y1 := hB.frozen 1
    have hlt2 := hB.lt
    simp at b0 b1
    clear hB hbl
    by_cases hlt : k < l.length
    · have kl : (k : Int) < (l.length : Int) := by omega
      have dl : decide ((k : Int) < (l.length : Int)) = true := by simpa using hlt
      obtain ⟨b, o, rfl, hb, hc⟩ := HL.out k (encW l[k]) (by simp [hlt])
      have c0 := (Hbl.out.cell (p := ⟨b, o + k * 2 + 0, none⟩) (by exact Nat.lt_succ_of_lt hb)).trans (cell_alloc hb (hc 0 _ rfl))
      have c1 := (Hbl.out.cell (p := ⟨b, o + k * 2 + 1, none⟩) (by exact Nat.lt_succ_of_lt hb)).trans (cell_alloc hb (hc 1 _ rfl))
      simp only [Nat.add_zero] at c0
      have hbw : b < wr.heap.size := by omega
      clear hc
      have CC := Lib.hid (fun W => wideCmp l[k] (M k).1 W (H128.out _ (List.getElem_mem hlt)) (HMI.out k))
      have hst := HST.out k hlt
      by_cases hm : (M k).1 < l[k]
      · rw [if_pos hm] at hst
        have HSK := Lib.hid hst
        have ho : ord l[k] (M k).1 = 1 := by unfold ord; rw [if_neg (by omega), if_pos hm]
        rw [ho] at CC
        generalize M k = m at *
        clear hst ho hm
        go_wp2_with (first | (go_at_call 136; (with_reducible refine (CC.out _).mono ?_); rintro e w1 ⟨rfl, hb1⟩; obtain ⟨fc1, fg1, hc1, hf1, hz1⟩ := bget hb1; (try simp at hz1)) | fail)
        go_roundw
        case rel =>
          refine ⟨k + 1, by omega, by go_num, by rw [HSK.out], ?_, ?_⟩
          · rw [HSK.out]
            have hB := HB.out
            have h1 := ((hB.below (show Below wr.heap.size wr w1 from by (repeat' (first | (with_reducible exact Below.refl _ _) | (with_reducible assumption) | (with_reducible refine Below.alloc ?_ ?_ _) | (with_reducible refine Below.setCell ?_ ?_ _) | (with_reducible refine Below.drew ?_) | (with_reducible refine below_drewN ?_ _) | (with_reducible refine below_via ?_ (by with_reducible assumption) ?_) | omega | (simp; done) | (simp; omega)))) (by omega)).set 0 (.int .i64 (whi l[k]))).set 1 (.int .u64 (wlo l[k]))
            simpa using h1
          · have hbl := Hbl.out
            (repeat' (first | (with_reducible exact Below.refl _ _) | (with_reducible assumption) | (with_reducible refine Below.alloc ?_ ?_ _) | (with_reducible refine Below.setCell ?_ ?_ _) | (with_reducible refine Below.drew ?_) | (with_reducible refine below_drewN ?_ _) | (with_reducible refine below_via ?_ (by with_reducible assumption) ?_) | omega | (simp; done) | (simp; omega)))
        case measure => simp [intOf]; omega
      · rw [if_neg hm] at hst
        have HSK := Lib.hid hst
        have ho : decide (0 < ord l[k] (M k).1) = false := by unfold ord; rw [if_neg hm]; split <;> simp
        generalize ord l[k] (M k).1 = oo at *
        generalize M k = m at *
        clear hst hm
        go_wp2_with (first | (go_at_call 136; (with_reducible refine (CC.out _).mono ?_); rintro e w1 ⟨rfl, hb1⟩; obtain ⟨fc1, fg1, hc1, hf1, hz1⟩ := bget hb1; (try simp at hz1)) | fail)
        go_roundw
        case rel =>
          refine ⟨k + 1, by omega, by go_num, by rw [HSK.out], ?_, ?_⟩
          · rw [HSK.out]
            exact HB.out.below (show Below wr.heap.size wr w1 from by (repeat' (first | (with_reducible exact Below.refl _ _) | (with_reducible assumption) | (with_reducible refine Below.alloc ?_ ?_ _) | (with_reducible refine Below.setCell ?_ ?_ _) | (with_reducible refine Below.drew ?_) | (with_reducible refine below_drewN ?_ _) | (with_reducible refine below_via ?_ (by with_reducible assumption) ?_) | omega | (simp; done) | (simp; omega)))) (by omega)
          · have hbl := Hbl.out
            (repeat' (first | (with_reducible exact Below.refl _ _) | (with_reducible assumption) | (with_reducible refine Below.alloc ?_ ?_ _) | (with_reducible refine Below.setCell ?_ ?_ _) | (with_reducible refine Below.drew ?_) | (with_reducible refine below_drewN ?_ _) | (with_reducible refine below_via ?_ (by with_reducible assumption) ?_) | omega | (simp; done) | (simp; omega)))
        case measure => simp [intOf]; omega
    · obtain rfl : k = l.length := by omega
      obtain ⟨hfc, hff⟩ : (∀ b o, b < w.heap.size + 1 → wr.cell? ⟨b, o, none⟩ = (w.alloc (.cells #[.int .i64 0, .int .u64 0] 28)).cell? ⟨b, o, none⟩) ∧ (∀ b o, b < w.heap.size + 1 → wr.frozen? ⟨b, o, none⟩ = (w.alloc (.cells #[.int .i64 0, .int .u64 0] 28)).frozen? ⟨b, o, none⟩) := ⟨fun b o h => Hbl.out.cell (p := ⟨b, o, none⟩) h, fun b o h => Hbl.out.frozen (p := ⟨b, o, none⟩) h⟩
      have r0 := hfc w.heap.size 0 (by omega)
      have r1 := hfc w.heap.size 1 (by omega)
      have z0 := hff w.heap.size 0 (by omega)
      have z1 := hff w.heap.size 1 (by omega)
      simp at r0 r1 z0 z1
      clear hfc hff
      go_wp2_with fail
      refine bodyPost_ret (by simp [results, Try.results81, go_sem, r0, r1]; try rfl) rfl ⟨rfl, ?_⟩
      have hb := Hbl.out.mono (B' := w.heap.size) (by omega)
      have hb2 : Below w.heap.size w wr := ((Below.refl _ _).alloc (Nat.le_refl _) _).trans hb
      (repeat' (first | (with_reducible exact Below.refl _ _) | (with_reducible assumption) | (with_reducible refine Below.alloc ?_ ?_ _) | (with_reducible refine Below.setCell ?_ ?_ _) | (with_reducible refine Below.drew ?_) | (with_reducible refine below_drewN ?_ _) | (with_reducible refine below_via ?_ (by with_reducible assumption) ?_) | omega | (simp; done) | (simp; omega)))
end Go.Proofs.Ytiidplinmempcaa
