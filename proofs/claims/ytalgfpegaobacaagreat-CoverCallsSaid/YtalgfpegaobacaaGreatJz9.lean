/- Joined: GrdP, Fst, NedP, PurP, HoP, CvE, AsF, Lot1, Lot2. -/
import Derived.Test.YtalgfpegaobacaaGreatJz7
import Derived.Test.YtalgfpegaobacaaGreatJz8
import Derived.Test.YtalgfpegaobacaaGreatJz6
import Derived.Test.YtalgfpegaobacaaGreatJz5
import Derived.Test.YtalgfpegaobacaaGreatJz4
import Derived.Test.YtalgfpegaobacaaGreatRows
import Derived.Deep.RegionLaw
import Derived.Outline
/- Layer 24, plain: what a vector loses in a scenario, and in the worst one; two as one, twice one. No program in sight. -/
namespace Go.Proofs.YtalgfpegaobacaaGreat
open Go.RowKit
/-- What a leg makes in a scenario. -/
def legS (t : List InstV) (s : Int) (x : Leg) : Int := shockI (lgI (findInstV t x.inst).1) x.qty s
def known (t : List InstV) (l : List Leg) : Bool := l.all fun x => (findInstV t x.inst).2
def gnN (t : List InstV) (l : List Leg) (s : Int) : Int := (l.map (legS t s)).sum
def lossC (t : List InstV) (l : List Leg) : Int := if isV l then (if known t l then 0 else 11) else 3
def lossN (t : List InstV) (l : List Leg) (s : Int) : Int := if isV l && known t l then - gnN t l s else 0
/-- The greatest of 0 and the first n losses, and where it is first. -/
def mostN (f : Int → Int) : Nat → Int × Int
  | 0 => (0, -1)
  | k + 1 => if (mostN f k).1 < f k then (f k, k) else mostN f k
def marginN (t : List InstV) (l : List Leg) : Int := if lossC t l = 0 then (if in64 (mostN (lossN t l) 8).1 then (mostN (lossN t l) 8).1 else 0) else 0
def marginC (t : List InstV) (l : List Leg) : Int := if lossC t l = 0 then (if in64 (mostN (lossN t l) 8).1 then 0 else 7) else lossC t l
/-- The greatest number of a leg's move: bounds. -/
theorem legS_bound {t : List InstV} {x : Leg} {s : Int} (h : In64 x.qty) : -1298074214633706907132624082305024 ≤ legS t s x ∧ legS t s x ≤ 1298074214633706907132624082305024 := by
  unfold legS
  generalize lgI (findInstV t x.inst).1 = y
  by_cases hs : okS y s
  · obtain ⟨k, rfl, hk⟩ := okS_nat hs
    rw [shock_yes hs.1 hk]
    have hmv := okI_move hs.1 hk
    have hm := hs.1.2.2
    have e1 := mul_le_of (a := y.moves[k]) (b := y.mult) (A := 2147483647) (B := 65536) (by omega) (by omega) 140737488289792 (by omega)
    have e2 := mul_le_of (a := y.moves[k] * y.mult) (b := x.qty) (A := 140737488355328) (B := 9223372036854775808) (by omega) (by unfold In64 at h; omega) 1298074214633706907132624082305024 (by omega)
    omega
  · rw [shock_no hs]; omega
theorem gain_bound {t : List InstV} {s : Int} : ∀ {l : List Leg} (_ : Legs64 l), -(l.length * 1298074214633706907132624082305024 : Int) ≤ gnN t l s ∧ gnN t l s ≤ l.length * 1298074214633706907132624082305024
  | [], _ => by simp [gnN]
  | x :: l, h => by
    have h1 := gain_bound (t := t) (s := s) (l := l) fun y hy => h y (by simp [hy])
    have h2 := legS_bound (t := t) (s := s) (h x (by simp))
    unfold gnN at h1 ⊢
    simp only [List.map_cons, List.sum_cons, List.length_cons]
    omega
theorem legS_in {t : List InstV} {x : Leg} {s : Int} (h : In64 x.qty) : In128 (legS t s x) := by
  have := legS_bound (t := t) (s := s) h
  unfold In128; omega
theorem gain_in {t : List InstV} {l : List Leg} {s : Int} (h : Legs64 l) (hl : l.length ≤ 1000) : In128 (gnN t l s) ∧ In128 (- gnN t l s) := by
  have := gain_bound (t := t) (s := s) h
  unfold In128; omega
theorem loss_in {t : List InstV} {l : List Leg} {s : Int} (h : Legs64 l) (hl : l.length ≤ 1000) : In128 (lossN t l s) := by
  unfold lossN
  split
  · exact (gain_in h hl).2
  · unfold In128; omega
theorem loss_no {t : List InstV} {l : List Leg} (h : lossC t l ≠ 0) : ∀ s, lossN t l s = 0 := by
  intro s
  unfold lossN
  rw [if_neg]
  intro h1
  rw [Bool.and_eq_true] at h1
  apply h
  unfold lossC
  rw [if_pos h1.1, if_pos h1.2]
theorem most_zero {f : Int → Int} (h : ∀ s, f s = 0) : ∀ n, mostN f n = (0, -1)
  | 0 => rfl
  | n + 1 => by unfold mostN; rw [most_zero h n, h]; rfl
theorem most_nonneg (f : Int → Int) : ∀ n, 0 ≤ (mostN f n).1
  | 0 => by simp [mostN]
  | n + 1 => by have := most_nonneg f n; unfold mostN; split <;> (try simp only []) <;> omega
theorem most_is (f : Int → Int) : ∀ n, (mostN f n).1 = 0 ∨ ∃ k, k < n ∧ (mostN f n).1 = f (k : Nat)
  | 0 => .inl rfl
  | n + 1 => by
    unfold mostN
    split
    · exact .inr ⟨n, by omega, rfl⟩
    · rcases most_is f n with h | ⟨k, hk, h⟩
      · exact .inl h
      · exact .inr ⟨k, by omega, h⟩
theorem most_in {f : Int → Int} (h : ∀ s, In128 (f s)) (n : Nat) : In128 (mostN f n).1 := by
  rcases most_is f n with h1 | ⟨k, _, h1⟩
  · rw [h1]; unfold In128; omega
  · rw [h1]; exact h k
theorem known_mem {t : List InstV} {l : List Leg} (h : known t l = true) {x : Leg} (hx : x ∈ l) : (findInstV t x.inst).2 = true := by
  unfold known at h
  exact List.all_eq_true.1 h x hx
theorem margin_pos (t : List InstV) (l : List Leg) : 0 ≤ marginN t l := by
  unfold marginN
  have := most_nonneg (lossN t l) 8
  split
  · split <;> omega
  · omega
theorem margin_in (t : List InstV) (l : List Leg) : In64 (marginN t l) := by
  unfold marginN
  split
  · split
    · rename_i h; exact in64_iff.1 h
    · unfold In64; omega
  · unfold In64; omega
end Go.Proofs.YtalgfpegaobacaaGreat

/- The code of the first of some units that has none. No program in sight. -/
namespace Go.Proofs.YtalgfpegaobacaaGreat
open Go.RowKit
/-- The code of the first of some units that has none, or 0. -/
def firstC (f : Un → Int) : List Un → Int
  | [] => 0
  | u :: us => if f u = 0 then firstC f us else f u
theorem firstC_step {f : Un → Int} {u : Un} {us : List Un} (h : f u = 0) : firstC f (u :: us) = firstC f us := by
  show (if f u = 0 then firstC f us else f u) = _
  rw [if_pos h]
theorem firstC_stop {f : Un → Int} {u : Un} {us : List Un} (h : f u ≠ 0) : firstC f (u :: us) = f u := by
  show (if f u = 0 then firstC f us else f u) = _
  rw [if_neg h]
theorem firstC_all {f : Un → Int} : ∀ {us : List Un} (_ : firstC f us = 0), ∀ u ∈ us, f u = 0
  | [], _, u, hu => by simp at hu
  | v :: us, h, u, hu => by
    by_cases h0 : f v = 0
    · rw [firstC_step h0] at h
      rcases List.mem_cons.1 hu with rfl | hu
      · exact h0
      · exact firstC_all h u hu
    · rw [firstC_stop h0] at h; exact absurd h h0
end Go.Proofs.YtalgfpegaobacaaGreat

/- Margin units, plain: which an account has, of which units they consist, of which one a unit is a part, what they must have. No program in sight. -/
namespace Go.Proofs.YtalgfpegaobacaaGreat
open Go.RowKit
def unitsN (x : Acct) : List Un := if x.kind = 2 then [⟨x.id, 0⟩] else unitsA x
def partsN (x : Acct) (u : Un) : List Un := if u ∈ unitsN x then (if x.kind = 2 then unitsA x else [u]) else []
theorem unitsN_len (x : Acct) : (unitsN x).length ≤ x.clients.length + 1 := by
  unfold unitsN unitsA
  split
  · simp
  · split <;> simp
theorem partsN_len (x : Acct) (u : Un) : (partsN x u).length ≤ x.clients.length + 1 := by
  unfold partsN unitsA
  split
  · split
    · split <;> simp
    · simp
  · simp
/-- What units have together. -/
def netC (L : List (Row Leg)) (us : List Un) : Int := if isK isV L then addC (us.map (ofK L)) else 3
def netL (L : List (Row Leg)) (us : List Un) : List Leg := if isK isV L then addL (us.map (ofK L)) else []
/-- What a margin unit must have, or why not. -/
def nofC (t : List InstV) (L : List (Row Leg)) (x : Acct) (u : Un) : Int :=
  if isK isV L then (if u ∈ unitsN x then (if netC L (partsN x u) = 0 then marginC t (netL L (partsN x u)) else netC L (partsN x u)) else 11) else 3
def nofN (t : List InstV) (L : List (Row Leg)) (x : Acct) (u : Un) : Int :=
  if isK isV L then (if u ∈ unitsN x then (if netC L (partsN x u) = 0 then marginN t (netL L (partsN x u)) else 0) else 0) else 0
theorem nofN_no {t : List InstV} {L : List (Row Leg)} {x : Acct} {u : Un} (h : nofC t L x u ≠ 0) : nofN t L x u = 0 := by
  unfold nofC at h
  unfold nofN
  split
  · rename_i h1
    rw [if_pos h1] at h
    split
    · rename_i h2
      rw [if_pos h2] at h
      split
      · rename_i h3
        rw [if_pos h3] at h
        unfold marginC at h
        unfold marginN
        split
        · rename_i h4
          rw [if_pos h4] at h
          split
          · rename_i h5
            rw [if_pos h5] at h
            exact absurd rfl h
          · rfl
        · rfl
      · rfl
    · rfl
  · rfl
theorem nofN_pos (t : List InstV) (L : List (Row Leg)) (x : Acct) (u : Un) : 0 ≤ nofN t L x u ∧ In64 (nofN t L x u) := by
  unfold nofN
  have h0 : In64 0 := by unfold In64; omega
  split
  · split
    · split
      · exact ⟨margin_pos _ _, margin_in _ _⟩
      · exact ⟨Int.le_refl _, h0⟩
    · exact ⟨Int.le_refl _, h0⟩
  · exact ⟨Int.le_refl _, h0⟩
theorem netL_len (L : List (Row Leg)) (us : List Un) : (netL L us).length ≤ 8 := by
  unfold netL
  split
  · exact addL_len _
  · simp
theorem netL64 (L : List (Row Leg)) (us : List Un) : Legs64 (netL L us) := by
  unfold netL
  split
  · exact addL64B _
  · exact fun x hx => by simp at hx
end Go.Proofs.YtalgfpegaobacaaGreat

/- Purses, plain: which flows are one, what each unit has, which units are named, what any purse is behind any flows. No program in sight. -/
namespace Go.Proofs.YtalgfpegaobacaaGreat
open Go.RowKit
structure Flow where
  unit : Un
  amount : Int
  deriving DecidableEq
def encFlow (x : Flow) : List Value := [.int .i64 x.unit.acc, .int .i64 x.unit.cli, .int .i64 x.amount]
def okFlow (x : Flow) : Prop := In64 x.unit.acc ∧ In64 x.unit.cli ∧ In64 x.amount
theorem rowsFlow (l : List Flow) : ∀ r ∈ l.map encFlow, r.length = 3 ∧ ∀ u ∈ r, u.oneCell' = true := by
  intro r hr
  obtain ⟨m, _, rfl⟩ := List.mem_map.1 hr
  refine ⟨rfl, ?_⟩
  simp only [encFlow, List.mem_cons, List.not_mem_nil, or_false, forall_eq_or_imp, forall_eq]
  exact ⟨rfl, rfl, rfl⟩
def okP (r : List Int) : Bool := !(r.headD 0 == 0)
def lgF (x : Flow) : Row Int := ⟨x.unit, [x.amount]⟩
def isPu (l : List Flow) : Bool := isK okP (l.map lgF)
def getPu (l : List Flow) (u : Un) : Int := (ofK (l.map lgF) u).headD 0
theorem getPu_hit {x : Flow} {t : List Flow} {u : Un} (h : x.unit = u) : getPu (x :: t) u = x.amount := by
  unfold getPu
  rw [List.map_cons, ofK, if_pos (show (lgF x).unit = u from h)]; rfl
theorem getPu_miss {x : Flow} {t : List Flow} {u : Un} (h : x.unit ≠ u) : getPu (x :: t) u = getPu t u := by
  unfold getPu
  rw [List.map_cons, ofK, if_neg (show ¬ (lgF x).unit = u from h)]
theorem getPu_in {l : List Flow} (h : ∀ x ∈ l, In64 x.amount) (u : Un) : In64 (getPu l u) := by
  induction l with
  | nil => simp [getPu, ofK, In64]
  | cons x t ih =>
    by_cases hx : x.unit = u
    · rw [getPu_hit hx]; exact h x (List.mem_cons_self ..)
    · rw [getPu_miss hx]; exact ih fun y hy => h y (List.mem_cons_of_mem _ hy)
end Go.Proofs.YtalgfpegaobacaaGreat

/- Holds, plain: what any are when a unit has a lot more, less of one, just some; when all of one, or some of a lot, goes to another one. No program in sight. -/
namespace Go.Proofs.YtalgfpegaobacaaGreat
open Go.RowKit
end Go.Proofs.YtalgfpegaobacaaGreat

/- What a margin unit has more than it must, plain; that what is given makes it no less. No program in sight. -/
namespace Go.Proofs.YtalgfpegaobacaaGreat
open Go.RowKit
/-- What a clearing house has on its books. -/
structure SideL where
  ats : List Asset
  ins : List InstV
  bk : List (Row Leg)
  pu : List Flow
  ho : List (Row Lot)
def partC (S : SideL) (v : Un) : Int := valC S.ats (ofK S.ho v) (getPu S.pu v)
def partN (S : SideL) (v : Un) : Int := valN S.ats (ofK S.ho v) (getPu S.pu v)
def rightS (S : SideL) : Bool := isK isV S.bk && (isPu S.pu && isK isL S.ho)
def excL (S : SideL) (x : Acct) (u : Un) : List Int := -(nofN S.ins S.bk x u) :: (partsN x u).map (partN S)
def excC (S : SideL) (x : Acct) (u : Un) : Int := if rightS S then (if nofC S.ins S.bk x u = 0 then (if firstC (partC S) (partsN x u) = 0 then sum64C (excL S x u) else firstC (partC S) (partsN x u)) else nofC S.ins S.bk x u) else 3
def excN (S : SideL) (x : Acct) (u : Un) : Int := if rightS S then (if nofC S.ins S.bk x u = 0 then (if firstC (partC S) (partsN x u) = 0 then sum64N (excL S x u) else 0) else 0) else 0
end Go.Proofs.YtalgfpegaobacaaGreat

/- Assets: contract of asset.Find. -/
namespace Go.Proofs.YtalgfpegaobacaaGreat
open Go.RowKit
set_option maxRecDepth 100000 in
set_option maxHeartbeats 2000000 in
theorem assetFind (l : List Asset) (id : Int) (A : Option Addr) (c : Nat) (w : World) (hl : l.length ≤ 1099511627776) (hr : Rd w A 3 (l.map encAsset)) :
    Calls Tryz.prog 75 #[.slice A l.length c, .int .i64 id] w fun e w' => e = .returned (.tuple #[.agg #[.int .i64 (findAsset l id).1.id, .int .i64 (findAsset l id).1.price, .int .i64 (findAsset l id).1.hair], .bool (findAsset l id).2]) ∧ Below w.heap.size w w' := by
  have Hr := Lib.hid hr
  clear hr
  go_enter Tryz.func75, Tryz.ntmps75
  go_wp2_with fail
  go_loopw [10] (fun i wr => ∃ k : Nat, k ≤ l.length ∧ i = .int .i64 k ∧ Below w.heap.size w wr ∧ w.heap.size < wr.heap.size ∧ (wr.cell? ⟨w.heap.size, 0, none⟩ = some (.int .i64 0) ∧ wr.cell? ⟨w.heap.size, 1, none⟩ = some (.int .i64 0) ∧ wr.cell? ⟨w.heap.size, 2, none⟩ = some (.int .i64 0) ∧ wr.frozen? ⟨w.heap.size, 0, none⟩ = false ∧ wr.frozen? ⟨w.heap.size, 1, none⟩ = false ∧ wr.frozen? ⟨w.heap.size, 2, none⟩ = false) ∧ ∀ j (_ : j < l.length), j < k → (l[j].id == id) = false) (fun i _ => l.length - (intOf i).toNat)
  case atStart => exact ⟨0, Nat.zero_le _, rfl, by (repeat' (first | (with_reducible exact Below.refl _ _) | (with_reducible assumption) | (with_reducible refine Below.alloc ?_ ?_ _) | (with_reducible refine Below.setCell ?_ ?_ _) | (with_reducible refine Below.drew ?_) | (with_reducible refine below_drewN ?_ _) | (with_reducible refine below_via ?_ (by with_reducible assumption) ?_) | omega | (simp; done) | (simp; omega))), by simp, by simp [go_sem], fun j _ h => absurd h (by omega)⟩
  case round =>
    obtain ⟨k, hk, rfl, hbl, hsz, ⟨g0, g1, g2, f0, f1, f2⟩, hno⟩ := hrel
    have Hbl := Lib.hid hbl
    have Hno := Lib.hid hno
    have hz := hbl.size
    clear hbl hno
    by_cases hlt : k < l.length
    · have hki : (k : Int) < (l.length : Int) := by omega
      have dl : decide ((k : Int) < (l.length : Int)) = true := by simpa using hlt
      obtain ⟨b, o, rfl, hb, hc⟩ := Hr.out k (encAsset l[k]) (by simp [hlt])
      have c0 := (Hbl.out.cell (p := ⟨b, o + k * 3 + 0, none⟩) hb).trans (hc 0 _ rfl)
      have c1 := (Hbl.out.cell (p := ⟨b, o + k * 3 + 1, none⟩) hb).trans (hc 1 _ rfl)
      have c2 := (Hbl.out.cell (p := ⟨b, o + k * 3 + 2, none⟩) hb).trans (hc 2 _ rfl)
      simp only [Nat.add_zero] at c0
      clear hc
      cases hm : (l[k].id == id)
      · have Hm := Lib.hid hm
        go_wp2_with fail
        go_roundw
        case rel => exact ⟨k + 1, by omega, by go_num, by have hbl := Hbl.out; (repeat' (first | (with_reducible exact Below.refl _ _) | (with_reducible assumption) | (with_reducible refine Below.alloc ?_ ?_ _) | (with_reducible refine Below.setCell ?_ ?_ _) | (with_reducible refine Below.drew ?_) | (with_reducible refine below_drewN ?_ _) | (with_reducible refine below_via ?_ (by with_reducible assumption) ?_) | omega | (simp; done) | (simp; omega))), by simp; omega, by simp [go_sem, g0, g1, g2, f0, f1, f2, ↓IntWalk.iteOmega], fun j hj h => by
          rcases Nat.lt_or_ge j k with h1 | h1
          · exact Hno.out j hj h1
          · obtain rfl : j = k := by omega
            exact Hm.out⟩
        case measure => simp [intOf]; omega
      · have hi := findAsset_hit hlt hm Hno.out
        have Hi := Lib.hid hi
        clear hi
        go_wp2_with fail
        rw [Hi.out]
        have hbl := Hbl.out
        refine bodyPost_ret (by simp [results, Tryz.results75, go_sem, g0, g1, g2]; try rfl) rfl ⟨rfl, ?_⟩
        (repeat' (first | (with_reducible exact Below.refl _ _) | (with_reducible assumption) | (with_reducible refine Below.alloc ?_ ?_ _) | (with_reducible refine Below.setCell ?_ ?_ _) | (with_reducible refine Below.drew ?_) | (with_reducible refine below_drewN ?_ _) | (with_reducible refine below_via ?_ (by with_reducible assumption) ?_) | omega | (simp; done) | (simp; omega)))
    · have dl : decide ((k : Int) < (l.length : Int)) = false := by simpa using hlt
      have hi := findAsset_miss (l := l) (fun j hj => Hno.out j hj (by omega))
      have Hi := Lib.hid hi
      clear hi
      go_wp2_with fail
      rw [Hi.out]
      have hbl := Hbl.out
      refine bodyPost_ret (by simp [results, Tryz.results75, go_sem, g0, g1, g2]; try rfl) rfl ⟨rfl, ?_⟩
      (repeat' (first | (with_reducible exact Below.refl _ _) | (with_reducible assumption) | (with_reducible refine Below.alloc ?_ ?_ _) | (with_reducible refine Below.setCell ?_ ?_ _) | (with_reducible refine Below.drew ?_) | (with_reducible refine below_drewN ?_ _) | (with_reducible refine below_via ?_ (by with_reducible assumption) ?_) | omega | (simp; done) | (simp; omega)))
end Go.Proofs.YtalgfpegaobacaaGreat

/- Lots: contracts of lots.right, order, Is, Get, checked; the search. -/
namespace Go.Proofs.YtalgfpegaobacaaGreat
open Go.RowKit
theorem elLot : Elem Tryz.prog 65 33 3 24 := elem_of Tryz.underlying65 (z := .agg #[.int .i64 0, .int .i64 0, .int .i64 0]) (by kernel_rfl) rfl (by omega)
set_option maxRecDepth 100000 in
set_option maxHeartbeats 2000000 in
theorem lotRight (x : Lot) (w : World) : Calls Tryz.prog 92 #[.agg #[.int .i64 x.asset, .int .i64 x.tag, .int .i64 x.qty]] w fun e w' => e = .returned (.bool (rightL x)) ∧ Below w.heap.size w w' := by
  by_cases t0 : 1 ≤ x.asset
  rotate_left
  · have d0 := decide_eq_false t0
    have HN := Lib.hid (rightL_no (x := x) (by omega))
    go_enter Tryz.func92, Tryz.ntmps92
    go_wp2_with fail
    go_ret
    exact ⟨by rw [HN.out]; first | done | rfl, by (repeat' (first | (with_reducible exact Below.refl _ _) | (with_reducible assumption) | (with_reducible refine Below.alloc ?_ ?_ _) | (with_reducible refine Below.setCell ?_ ?_ _) | (with_reducible refine Below.drew ?_) | (with_reducible refine below_drewN ?_ _) | (with_reducible refine below_via ?_ (by with_reducible assumption) ?_) | omega | (simp; done) | (simp; omega)))⟩
  have d0 := decide_eq_true t0
  by_cases t1 : x.asset ≤ 4
  rotate_left
  · have d1 := decide_eq_false t1
    have HN := Lib.hid (rightL_no (x := x) (by omega))
    go_enter Tryz.func92, Tryz.ntmps92
    go_wp2_with fail
    go_ret
    exact ⟨by rw [HN.out]; first | done | rfl, by (repeat' (first | (with_reducible exact Below.refl _ _) | (with_reducible assumption) | (with_reducible refine Below.alloc ?_ ?_ _) | (with_reducible refine Below.setCell ?_ ?_ _) | (with_reducible refine Below.drew ?_) | (with_reducible refine below_drewN ?_ _) | (with_reducible refine below_via ?_ (by with_reducible assumption) ?_) | omega | (simp; done) | (simp; omega)))⟩
  have d1 := decide_eq_true t1
  by_cases t2 : 0 ≤ x.tag
  rotate_left
  · have d2 := decide_eq_false t2
    have HN := Lib.hid (rightL_no (x := x) (by omega))
    go_enter Tryz.func92, Tryz.ntmps92
    go_wp2_with fail
    go_ret
    exact ⟨by rw [HN.out]; first | done | rfl, by (repeat' (first | (with_reducible exact Below.refl _ _) | (with_reducible assumption) | (with_reducible refine Below.alloc ?_ ?_ _) | (with_reducible refine Below.setCell ?_ ?_ _) | (with_reducible refine Below.drew ?_) | (with_reducible refine below_drewN ?_ _) | (with_reducible refine below_via ?_ (by with_reducible assumption) ?_) | omega | (simp; done) | (simp; omega)))⟩
  have d2 := decide_eq_true t2
  by_cases t3 : x.tag ≤ 255
  rotate_left
  · have d3 := decide_eq_false t3
    have HN := Lib.hid (rightL_no (x := x) (by omega))
    go_enter Tryz.func92, Tryz.ntmps92
    go_wp2_with fail
    go_ret
    exact ⟨by rw [HN.out]; first | done | rfl, by (repeat' (first | (with_reducible exact Below.refl _ _) | (with_reducible assumption) | (with_reducible refine Below.alloc ?_ ?_ _) | (with_reducible refine Below.setCell ?_ ?_ _) | (with_reducible refine Below.drew ?_) | (with_reducible refine below_drewN ?_ _) | (with_reducible refine below_via ?_ (by with_reducible assumption) ?_) | omega | (simp; done) | (simp; omega)))⟩
  have d3 := decide_eq_true t3
  by_cases t4 : 0 < x.qty
  rotate_left
  · have d4 := decide_eq_false t4
    have HN := Lib.hid (rightL_no (x := x) (by omega))
    go_enter Tryz.func92, Tryz.ntmps92
    go_wp2_with fail
    go_ret
    exact ⟨by rw [HN.out]; first | done | rfl, by (repeat' (first | (with_reducible exact Below.refl _ _) | (with_reducible assumption) | (with_reducible refine Below.alloc ?_ ?_ _) | (with_reducible refine Below.setCell ?_ ?_ _) | (with_reducible refine Below.drew ?_) | (with_reducible refine below_drewN ?_ _) | (with_reducible refine below_via ?_ (by with_reducible assumption) ?_) | omega | (simp; done) | (simp; omega)))⟩
  have d4 := decide_eq_true t4
  have HN := Lib.hid (rightL_iff (x := x).2 ⟨by omega, by omega, by omega, by omega, by omega⟩)
  go_enter Tryz.func92, Tryz.ntmps92
  go_wp2_with fail
  go_ret
  exact ⟨by rw [HN.out]; first | done | rfl, by (repeat' (first | (with_reducible exact Below.refl _ _) | (with_reducible assumption) | (with_reducible refine Below.alloc ?_ ?_ _) | (with_reducible refine Below.setCell ?_ ?_ _) | (with_reducible refine Below.drew ?_) | (with_reducible refine below_drewN ?_ _) | (with_reducible refine below_via ?_ (by with_reducible assumption) ?_) | omega | (simp; done) | (simp; omega)))⟩
set_option maxHeartbeats 400000 in
theorem cmpInt (a b : Int) (w : World) :
    Calls Tryz.prog 107 #[.int .i64 a, .int .i64 b] w fun e w' => e = .returned (.int .i64 (ord a b)) ∧ w = w' := by
  go_enter Tryz.func107, Tryz.ntmps107
  go_wp2
  all_goals (go_ret; exact ⟨ret_int (by unfold ord; repeat' split <;> omega), rfl⟩)
set_option maxRecDepth 100000 in
set_option maxHeartbeats 4000000 in
theorem lotOrder (a b : Lot) (w : World) : Calls Tryz.prog 93 #[.agg #[.int .i64 a.asset, .int .i64 a.tag, .int .i64 a.qty], .agg #[.int .i64 b.asset, .int .i64 b.tag, .int .i64 b.qty]] w fun e w' => e = .returned (.int .i64 (ordL a b)) ∧ Below w.heap.size w w' := by
  unfold ordL
  generalize ho1 : ord a.asset b.asset = o1
  generalize ho2 : ord a.tag b.tag = o2
  have C1 := Lib.hid (fun W => show Calls Tryz.prog 107 #[.int .i64 a.asset, .int .i64 b.asset] W fun e w' => e = .returned (.int .i64 o1) ∧ W = w' from by rw [← ho1]; exact cmpInt _ _ _)
  have C2 := Lib.hid (fun W => show Calls Tryz.prog 107 #[.int .i64 a.tag, .int .i64 b.tag] W fun e w' => e = .returned (.int .i64 o2) ∧ W = w' from by rw [← ho2]; exact cmpInt _ _ _)
  clear ho1 ho2
  go_enter Tryz.func93, Tryz.ntmps93
  go_wp2_with fail
  go_region_held3 (fun w' => (w'.cell? ⟨w.heap.size, 0, none⟩ = some (.int .i64 a.asset) ∧ w'.cell? ⟨w.heap.size, 1, none⟩ = some (.int .i64 a.tag)) ∧ w'.cell? ⟨w.heap.size + 1, 0, none⟩ = some (.int .i64 b.asset) ∧ w'.cell? ⟨w.heap.size + 1, 1, none⟩ = some (.int .i64 b.tag)) (first | (simp [go_sem]; done) | (repeat' (first | (with_reducible assumption) | (with_reducible refine And.intro ?_ ?_) | (with_reducible refine cell_drew ?_) | (with_reducible refine cell_via (by with_reducible assumption) ?_ ?_) | (simp [*]; done) | (simp [go_sem]; done) | (with_reducible refine cell_alloc ?_ ?_) | (with_reducible refine cell_set_far ?_ ?_) | omega | (simp; omega)))) (first | (go_at_call 107; (with_reducible refine (C1.out _).mono ?_); rintro e w1 ⟨rfl, rfl⟩) | (go_at_call 107; (with_reducible refine (C2.out _).mono ?_); rintro e w2 ⟨rfl, rfl⟩) | (go_at_call 106; (with_reducible refine (cmpOr2 o1 o2 _ _ 0 _ ?_ ?_).mono ?_); (focus (simp [go_sem]; done)); (focus (simp [go_sem]; done)); rintro e w3 ⟨rfl, rfl⟩) | fail)
  all_goals
    go_wp2_with fail
    go_ret
    exact ⟨rfl, by (repeat' (first | (with_reducible exact Below.refl _ _) | (with_reducible assumption) | (with_reducible refine Below.alloc ?_ ?_ _) | (with_reducible refine Below.setCell ?_ ?_ _) | (with_reducible refine Below.drew ?_) | (with_reducible refine below_drewN ?_ _) | (with_reducible refine below_via ?_ (by with_reducible assumption) ?_) | omega | (simp; done) | (simp; omega)))⟩
end Go.Proofs.YtalgfpegaobacaaGreat

/- Lots: contracts of lots.Is, Get, checked. -/
namespace Go.Proofs.YtalgfpegaobacaaGreat
open Go.RowKit
theorem isR_step {p : Option Lot} {x : Lot} {t : List Lot} (h0 : rightL x = true) (h1 : ∀ q, p = some q → ltL q x = true) : isR p (x :: t) = isR (some x) t := by
  cases p with
  | none => simp [isR, h0]
  | some q => simp [isR, h0, h1 q rfl]
theorem isR_bad {p : Option Lot} {x : Lot} {t : List Lot} (h : rightL x = false ∨ ∃ q, p = some q ∧ ltL q x = false) : isR p (x :: t) = false := by
  rcases h with h | ⟨q, rfl, h⟩
  · cases p <;> simp [isR, h]
  · simp [isR, h]
theorem pred_facts {k : Nat} (h : 1 ≤ k) (hk : k ≤ 1000000) : (0 : Int) ≤ (k : Int) - 1 ∧ ((k : Int) - 1).toNat = k - 1 ∧ IntKind.i64.wrap ((k : Int) - 1) = (k : Int) - 1 :=
  ⟨by omega, by omega, IntWalk.i64_in _ (by omega)⟩
set_option maxRecDepth 100000 in
set_option maxHeartbeats 8000000 in
theorem lotIs (l : List Lot) (A : Option Addr) (c : Nat) (w : World) (hl : l.length ≤ 1000000) (hr : Rd w A 3 (l.map encLot)) :
    Calls Tryz.prog 74 #[.slice A l.length c] w fun e w' => e = .returned (.bool (isL l)) ∧ Below w.heap.size w w' := by
  have HR := Lib.hid hr
  have HI : isL l = (isR none l && decide (l.length ≤ 16)) := rfl
  have HIL := Lib.hid HI
  clear hr HI
  go_enter Tryz.func74, Tryz.ntmps74
  go_wp2_with fail
  go_loopw [7] (fun i wr => ∃ (k : Nat) (p : Option Lot), k ≤ l.length ∧ i = .int .i64 k ∧ isR none l = isR p (l.drop k) ∧ Below w.heap.size w wr ∧ (k = 0 ∧ p = none ∨ 0 < k ∧ p = l[k - 1]?)) (fun i _ => l.length - (intOf i).toNat)
  case atStart => exact ⟨0, none, Nat.zero_le _, rfl, rfl, Below.refl _ _, .inl ⟨rfl, rfl⟩⟩
  case round =>
    obtain ⟨k, p, hk, rfl, hv, hbl, hx⟩ := hrel
    have HV := Lib.hid hv
    have Hbl := Lib.hid hbl
    have hz := hbl.size
    clear hv hbl
    by_cases hlt : k < l.length
    · have kl : (k : Int) < (l.length : Int) := by omega
      have dl : decide ((k : Int) < (l.length : Int)) = true := by simpa using hlt
      have HD := Lib.hid (drop_cons' hlt)
      obtain ⟨b, o, rfl, hb, hc⟩ := HR.out k (encLot l[k]) (by simp [hlt])
      have e0 := (Hbl.out.cell (p := ⟨b, o + k * 3 + 0, none⟩) hb).trans (hc 0 _ rfl)
      have e1 := (Hbl.out.cell (p := ⟨b, o + k * 3 + 1, none⟩) hb).trans (hc 1 _ rfl)
      have e2 := (Hbl.out.cell (p := ⟨b, o + k * 3 + 2, none⟩) hb).trans (hc 2 _ rfl)
      simp only [Nat.add_zero] at e0
      clear hc
      have hbw : b < wr.heap.size := by omega
      cases hri : rightL l[k]
      · have CR := Lib.hid (fun W => show Calls Tryz.prog 92 #[.agg #[.int .i64 l[k].asset, .int .i64 l[k].tag, .int .i64 l[k].qty]] W fun e w' => e = .returned (.bool false) ∧ Below W.heap.size W w' from by rw [← hri]; exact lotRight _ W)
        have HN := Lib.hid (show isR none l = false from by rw [HV.out, HD.out]; exact isR_bad (.inl hri))
        clear hri hx
        go_wp2_with fail
        refine wp_region_held_drew (S := (fun w' => (w'.cell? ⟨wr.heap.size, 0, none⟩ = some (.int .i64 l[k].asset) ∧ w'.cell? ⟨wr.heap.size, 1, none⟩ = some (.int .i64 l[k].tag) ∧ w'.cell? ⟨wr.heap.size, 2, none⟩ = some (.int .i64 l[k].qty)))) (by kernel_rfl) ?_ (fun hHeld => ?_)
        · (first | (simp [go_sem]; done) | (repeat' (first | (with_reducible assumption) | (with_reducible refine And.intro ?_ ?_) | (with_reducible refine cell_drew ?_) | (with_reducible refine cell_via (by with_reducible assumption) ?_ ?_) | (simp [*]; done) | (simp [go_sem]; done) | (with_reducible refine cell_alloc ?_ ?_) | (with_reducible refine cell_set_far ?_ ?_) | omega | (simp; omega))))
        refine wpAnyH_take (i := 0) (v := ?_) rfl (by kernel_rfl) (by kernel_rfl) (by kernel_rfl) (fun _ _ _ h => h) (Or.inl ⟨by rfl, ?_⟩) (by assumption) ?_
        rotate_left
        focus (intro w hSw; (try dsimp only at hSw); go_simp; (try with_reducible rfl))
        (try simp only [Act.put, List.getElem_toArray, List.getElem_cons_zero, List.setIfInBounds_toArray, List.set_cons_zero, List.set_cons_succ])
        refine wpAnyH_ready (rs := [1]) (by kernel_rfl) (by simp) ?_
        refine AllReadyH.cons rfl (fun K hK => ?_) AllReadyH.nil
        (try simp only [List.getElem_toArray, List.getElem_cons_succ, List.getElem_cons_zero])
        go_simp
        (go_at_call 92; (with_reducible refine (CR.out _).mono ?_); rintro e w1 ⟨rfl, hb1⟩; obtain ⟨fc1, fg1, hc1, hf1, hz1⟩ := bget hb1; (try simp at hz1))
        refine hK.out _ _ ?_ (fun hHeld => ?_)
        focus ((first | (simp [go_sem]; done) | (repeat' (first | (with_reducible assumption) | (with_reducible refine And.intro ?_ ?_) | (with_reducible refine cell_drew ?_) | (with_reducible refine cell_via (by with_reducible assumption) ?_ ?_) | (simp [*]; done) | (simp [go_sem]; done) | (with_reducible refine cell_alloc ?_ ?_) | (with_reducible refine cell_set_far ?_ ?_) | omega | (simp; omega)))); done)
        (try simp only [Act.put, List.getElem_toArray, List.getElem_cons_succ, List.getElem_cons_zero, List.setIfInBounds_toArray, List.set_cons_zero, List.set_cons_succ])
        refine wpAnyH_take (i := 2) (v := ?_) rfl (by kernel_rfl) (by kernel_rfl) (by kernel_rfl) (fun _ _ _ h => h) (Or.inl ⟨by rfl, ?_⟩) (by assumption) ?_
        rotate_left
        focus (intro w hSw; (try dsimp only at hSw); go_simp; (try with_reducible rfl))
        (try simp only [Act.put, List.getElem_toArray, List.getElem_cons_succ, List.getElem_cons_zero, List.setIfInBounds_toArray, List.set_cons_zero, List.set_cons_succ])
        refine wpAnyH_take (i := 3) (v := ?_) rfl (by kernel_rfl) (by kernel_rfl) (by kernel_rfl) (fun _ _ _ h => h) (Or.inl ⟨by rfl, ?_⟩) (by assumption) ?_
        rotate_left
        focus (intro w hSw; (try dsimp only at hSw); go_simp; (try with_reducible rfl))
        (try simp only [Act.put, List.getElem_toArray, List.getElem_cons_succ, List.getElem_cons_zero, List.setIfInBounds_toArray, List.set_cons_zero, List.set_cons_succ])
        refine wpAnyH_take (i := 4) (v := undef) rfl (by kernel_rfl) (by kernel_rfl) (by kernel_rfl) (fun _ _ _ h => h) (Or.inr ⟨by rfl, rfl⟩) (by assumption) ?_
        (try simp only [Act.put, List.getElem_toArray, List.getElem_cons_succ, List.getElem_cons_zero, List.setIfInBounds_toArray, List.set_cons_zero, List.set_cons_succ])
        refine wpAnyH_take (i := 5) (v := undef) rfl (by kernel_rfl) (by kernel_rfl) (by kernel_rfl) (fun _ _ _ h => h) (Or.inr ⟨by rfl, rfl⟩) (by assumption) ?_
        (try simp only [Act.put, List.getElem_toArray, List.getElem_cons_succ, List.getElem_cons_zero, List.setIfInBounds_toArray, List.set_cons_zero, List.set_cons_succ])
        refine wpAnyH_take (i := 6) (v := undef) rfl (by kernel_rfl) (by kernel_rfl) (by kernel_rfl) (fun _ _ _ h => h) (Or.inr ⟨by rfl, rfl⟩) (by assumption) ?_
        (try simp only [Act.put, List.getElem_toArray, List.getElem_cons_succ, List.getElem_cons_zero, List.setIfInBounds_toArray, List.set_cons_zero, List.set_cons_succ])
        refine wpAnyH_take (i := 7) (v := undef) rfl (by kernel_rfl) (by kernel_rfl) (by kernel_rfl) (fun _ _ _ h => h) (Or.inr ⟨by rfl, rfl⟩) (by assumption) ?_
        (try simp only [Act.put, List.getElem_toArray, List.getElem_cons_succ, List.getElem_cons_zero, List.setIfInBounds_toArray, List.set_cons_zero, List.set_cons_succ])
        refine wpAnyH_take (i := 8) (v := undef) rfl (by kernel_rfl) (by kernel_rfl) (by kernel_rfl) (fun _ _ _ h => h) (Or.inr ⟨by rfl, rfl⟩) (by assumption) ?_
        (try simp only [Act.put, List.getElem_toArray, List.getElem_cons_succ, List.getElem_cons_zero, List.setIfInBounds_toArray, List.set_cons_zero, List.set_cons_succ])
        refine wpAnyH_take (i := 9) (v := undef) rfl (by kernel_rfl) (by kernel_rfl) (by kernel_rfl) (fun _ _ _ h => h) (Or.inr ⟨by rfl, rfl⟩) (by assumption) ?_
        (try simp only [Act.put, List.getElem_toArray, List.getElem_cons_succ, List.getElem_cons_zero, List.setIfInBounds_toArray, List.set_cons_zero, List.set_cons_succ])
        refine wpAnyH_take (i := 10) (v := undef) rfl (by kernel_rfl) (by kernel_rfl) (by kernel_rfl) (fun _ _ _ h => h) (Or.inr ⟨by rfl, rfl⟩) (by assumption) ?_
        (try simp only [Act.put, List.getElem_toArray, List.getElem_cons_succ, List.getElem_cons_zero, List.setIfInBounds_toArray, List.set_cons_zero, List.set_cons_succ])
        refine wpAnyH_take (i := 11) (v := undef) rfl (by kernel_rfl) (by kernel_rfl) (by kernel_rfl) (fun _ _ _ h => h) (Or.inr ⟨by rfl, rfl⟩) (by assumption) ?_
        (try simp only [Act.put, List.getElem_toArray, List.getElem_cons_succ, List.getElem_cons_zero, List.setIfInBounds_toArray, List.set_cons_zero, List.set_cons_succ])
        refine wpAnyH_take (i := 12) (v := undef) rfl (by kernel_rfl) (by kernel_rfl) (by kernel_rfl) (fun _ _ _ h => h) (Or.inr ⟨by rfl, rfl⟩) (by assumption) ?_
        (try simp only [Act.put, List.getElem_toArray, List.getElem_cons_succ, List.getElem_cons_zero, List.setIfInBounds_toArray, List.set_cons_zero, List.set_cons_succ])
        refine wpAnyH_take (i := 13) (v := undef) rfl (by kernel_rfl) (by kernel_rfl) (by kernel_rfl) (fun _ _ _ h => h) (Or.inr ⟨by rfl, rfl⟩) (by assumption) ?_
        (try simp only [Act.put, List.getElem_toArray, List.getElem_cons_succ, List.getElem_cons_zero, List.setIfInBounds_toArray, List.set_cons_zero, List.set_cons_succ])
        refine wpAnyH_take (i := 14) (v := undef) rfl (by kernel_rfl) (by kernel_rfl) (by kernel_rfl) (fun _ _ _ h => h) (Or.inr ⟨by rfl, rfl⟩) (by assumption) ?_
        (try simp only [Act.put, List.getElem_toArray, List.getElem_cons_succ, List.getElem_cons_zero, List.setIfInBounds_toArray, List.set_cons_zero, List.set_cons_succ])
        refine wpAnyH_take (i := 15) (v := undef) rfl (by kernel_rfl) (by kernel_rfl) (by kernel_rfl) (fun _ _ _ h => h) (Or.inr ⟨by rfl, rfl⟩) (by assumption) ?_
        (try simp only [Act.put, List.getElem_toArray, List.getElem_cons_succ, List.getElem_cons_zero, List.setIfInBounds_toArray, List.set_cons_zero, List.set_cons_succ])
        refine wpAnyH_take (i := 16) (v := ?_) rfl (by kernel_rfl) (by kernel_rfl) (by kernel_rfl) (fun _ _ _ h => h) (Or.inl ⟨by rfl, ?_⟩) (by assumption) ?_
        rotate_left
        focus (intro w hSw; (try dsimp only at hSw); go_simp; (try with_reducible rfl))
        (try simp only [Act.put, List.getElem_toArray, List.getElem_cons_succ, List.getElem_cons_zero, List.setIfInBounds_toArray, List.set_cons_zero, List.set_cons_succ])
        refine wpAnyH_done (by kernel_rfl) ?_ _
        go_wp2_with fail
        go_ret
        exact ⟨by rw [HIL.out, HN.out]; rfl, by have hbl := Hbl.out; (repeat' (first | (with_reducible exact Below.refl _ _) | (with_reducible assumption) | (with_reducible refine Below.alloc ?_ ?_ _) | (with_reducible refine Below.setCell ?_ ?_ _) | (with_reducible refine Below.drew ?_) | (with_reducible refine below_drewN ?_ _) | (with_reducible refine below_via ?_ (by with_reducible assumption) ?_) | omega | (simp; done) | (simp; omega)))⟩
      · have CR := Lib.hid (fun W => show Calls Tryz.prog 92 #[.agg #[.int .i64 l[k].asset, .int .i64 l[k].tag, .int .i64 l[k].qty]] W fun e w' => e = .returned (.bool true) ∧ Below W.heap.size W w' from by rw [← hri]; exact lotRight _ W)
        rcases hx with ⟨k0, hx⟩ | ⟨k0, hx⟩
        · have g0 : decide (0 < k) = false := by simp; omega
          have HN := Lib.hid (show isR none l = isR (some l[k]) (l.drop (k + 1)) from by rw [HV.out, HD.out]; exact isR_step hri (fun q hq => by rw [hx] at hq; cases hq))
          clear hri hx k0
          go_wp2_with fail
          refine wp_region_held_drew (S := (fun w' => (w'.cell? ⟨wr.heap.size, 0, none⟩ = some (.int .i64 l[k].asset) ∧ w'.cell? ⟨wr.heap.size, 1, none⟩ = some (.int .i64 l[k].tag) ∧ w'.cell? ⟨wr.heap.size, 2, none⟩ = some (.int .i64 l[k].qty)))) (by kernel_rfl) ?_ (fun hHeld => ?_)
          · (first | (simp [go_sem]; done) | (repeat' (first | (with_reducible assumption) | (with_reducible refine And.intro ?_ ?_) | (with_reducible refine cell_drew ?_) | (with_reducible refine cell_via (by with_reducible assumption) ?_ ?_) | (simp [*]; done) | (simp [go_sem]; done) | (with_reducible refine cell_alloc ?_ ?_) | (with_reducible refine cell_set_far ?_ ?_) | omega | (simp; omega))))
          refine wpAnyH_take (i := 0) (v := ?_) rfl (by kernel_rfl) (by kernel_rfl) (by kernel_rfl) (fun _ _ _ h => h) (Or.inl ⟨by rfl, ?_⟩) (by assumption) ?_
          rotate_left
          focus (intro w hSw; (try dsimp only at hSw); go_simp; (try with_reducible rfl))
          (try simp only [Act.put, List.getElem_toArray, List.getElem_cons_zero, List.setIfInBounds_toArray, List.set_cons_zero, List.set_cons_succ])
          refine wpAnyH_ready (rs := [1]) (by kernel_rfl) (by simp) ?_
          refine AllReadyH.cons rfl (fun K hK => ?_) AllReadyH.nil
          (try simp only [List.getElem_toArray, List.getElem_cons_succ, List.getElem_cons_zero])
          go_simp
          (go_at_call 92; (with_reducible refine (CR.out _).mono ?_); rintro e w1 ⟨rfl, hb1⟩; obtain ⟨fc1, fg1, hc1, hf1, hz1⟩ := bget hb1; (try simp at hz1))
          refine hK.out _ _ ?_ (fun hHeld => ?_)
          focus ((first | (simp [go_sem]; done) | (repeat' (first | (with_reducible assumption) | (with_reducible refine And.intro ?_ ?_) | (with_reducible refine cell_drew ?_) | (with_reducible refine cell_via (by with_reducible assumption) ?_ ?_) | (simp [*]; done) | (simp [go_sem]; done) | (with_reducible refine cell_alloc ?_ ?_) | (with_reducible refine cell_set_far ?_ ?_) | omega | (simp; omega)))); done)
          (try simp only [Act.put, List.getElem_toArray, List.getElem_cons_succ, List.getElem_cons_zero, List.setIfInBounds_toArray, List.set_cons_zero, List.set_cons_succ])
          refine wpAnyH_take (i := 2) (v := ?_) rfl (by kernel_rfl) (by kernel_rfl) (by kernel_rfl) (fun _ _ _ h => h) (Or.inl ⟨by rfl, ?_⟩) (by assumption) ?_
          rotate_left
          focus (intro w hSw; (try dsimp only at hSw); go_simp; (try with_reducible rfl))
          (try simp only [Act.put, List.getElem_toArray, List.getElem_cons_succ, List.getElem_cons_zero, List.setIfInBounds_toArray, List.set_cons_zero, List.set_cons_succ])
          refine wpAnyH_take (i := 3) (v := ?_) rfl (by kernel_rfl) (by kernel_rfl) (by kernel_rfl) (fun _ _ _ h => h) (Or.inl ⟨by rfl, ?_⟩) (by assumption) ?_
          rotate_left
          focus (intro w hSw; (try dsimp only at hSw); go_simp; (try with_reducible rfl))
          (try simp only [Act.put, List.getElem_toArray, List.getElem_cons_succ, List.getElem_cons_zero, List.setIfInBounds_toArray, List.set_cons_zero, List.set_cons_succ])
          refine wpAnyH_take (i := 4) (v := ?_) rfl (by kernel_rfl) (by kernel_rfl) (by kernel_rfl) (fun _ _ _ h => h) (Or.inl ⟨by rfl, ?_⟩) (by assumption) ?_
          rotate_left
          focus (intro w hSw; (try dsimp only at hSw); go_simp; (try with_reducible rfl))
          (try simp only [Act.put, List.getElem_toArray, List.getElem_cons_succ, List.getElem_cons_zero, List.setIfInBounds_toArray, List.set_cons_zero, List.set_cons_succ])
          refine wpAnyH_take (i := 5) (v := ?_) rfl (by kernel_rfl) (by kernel_rfl) (by kernel_rfl) (fun _ _ _ h => h) (Or.inl ⟨by rfl, ?_⟩) (by assumption) ?_
          rotate_left
          focus (intro w hSw; (try dsimp only at hSw); go_simp; (try with_reducible rfl))
          (try simp only [Act.put, List.getElem_toArray, List.getElem_cons_succ, List.getElem_cons_zero, List.setIfInBounds_toArray, List.set_cons_zero, List.set_cons_succ])
          refine wpAnyH_take (i := 6) (v := ?_) rfl (by kernel_rfl) (by kernel_rfl) (by kernel_rfl) (fun _ _ _ h => h) (Or.inl ⟨by rfl, ?_⟩) (by assumption) ?_
          rotate_left
          focus (intro w hSw; (try dsimp only at hSw); go_simp; (try with_reducible rfl))
          (try simp only [Act.put, List.getElem_toArray, List.getElem_cons_succ, List.getElem_cons_zero, List.setIfInBounds_toArray, List.set_cons_zero, List.set_cons_succ])
          refine wpAnyH_take (i := 7) (v := undef) rfl (by kernel_rfl) (by kernel_rfl) (by kernel_rfl) (fun _ _ _ h => h) (Or.inr ⟨by rfl, rfl⟩) (by assumption) ?_
          (try simp only [Act.put, List.getElem_toArray, List.getElem_cons_succ, List.getElem_cons_zero, List.setIfInBounds_toArray, List.set_cons_zero, List.set_cons_succ])
          refine wpAnyH_take (i := 8) (v := undef) rfl (by kernel_rfl) (by kernel_rfl) (by kernel_rfl) (fun _ _ _ h => h) (Or.inr ⟨by rfl, rfl⟩) (by assumption) ?_
          (try simp only [Act.put, List.getElem_toArray, List.getElem_cons_succ, List.getElem_cons_zero, List.setIfInBounds_toArray, List.set_cons_zero, List.set_cons_succ])
          refine wpAnyH_take (i := 9) (v := undef) rfl (by kernel_rfl) (by kernel_rfl) (by kernel_rfl) (fun _ _ _ h => h) (Or.inr ⟨by rfl, rfl⟩) (by assumption) ?_
          (try simp only [Act.put, List.getElem_toArray, List.getElem_cons_succ, List.getElem_cons_zero, List.setIfInBounds_toArray, List.set_cons_zero, List.set_cons_succ])
          refine wpAnyH_take (i := 10) (v := undef) rfl (by kernel_rfl) (by kernel_rfl) (by kernel_rfl) (fun _ _ _ h => h) (Or.inr ⟨by rfl, rfl⟩) (by assumption) ?_
          (try simp only [Act.put, List.getElem_toArray, List.getElem_cons_succ, List.getElem_cons_zero, List.setIfInBounds_toArray, List.set_cons_zero, List.set_cons_succ])
          refine wpAnyH_take (i := 11) (v := undef) rfl (by kernel_rfl) (by kernel_rfl) (by kernel_rfl) (fun _ _ _ h => h) (Or.inr ⟨by rfl, rfl⟩) (by assumption) ?_
          (try simp only [Act.put, List.getElem_toArray, List.getElem_cons_succ, List.getElem_cons_zero, List.setIfInBounds_toArray, List.set_cons_zero, List.set_cons_succ])
          refine wpAnyH_take (i := 12) (v := undef) rfl (by kernel_rfl) (by kernel_rfl) (by kernel_rfl) (fun _ _ _ h => h) (Or.inr ⟨by rfl, rfl⟩) (by assumption) ?_
          (try simp only [Act.put, List.getElem_toArray, List.getElem_cons_succ, List.getElem_cons_zero, List.setIfInBounds_toArray, List.set_cons_zero, List.set_cons_succ])
          refine wpAnyH_take (i := 13) (v := undef) rfl (by kernel_rfl) (by kernel_rfl) (by kernel_rfl) (fun _ _ _ h => h) (Or.inr ⟨by rfl, rfl⟩) (by assumption) ?_
          (try simp only [Act.put, List.getElem_toArray, List.getElem_cons_succ, List.getElem_cons_zero, List.setIfInBounds_toArray, List.set_cons_zero, List.set_cons_succ])
          refine wpAnyH_take (i := 14) (v := undef) rfl (by kernel_rfl) (by kernel_rfl) (by kernel_rfl) (fun _ _ _ h => h) (Or.inr ⟨by rfl, rfl⟩) (by assumption) ?_
          (try simp only [Act.put, List.getElem_toArray, List.getElem_cons_succ, List.getElem_cons_zero, List.setIfInBounds_toArray, List.set_cons_zero, List.set_cons_succ])
          refine wpAnyH_take (i := 15) (v := ?_) rfl (by kernel_rfl) (by kernel_rfl) (by kernel_rfl) (fun _ _ _ h => h) (Or.inl ⟨by rfl, ?_⟩) (by assumption) ?_
          rotate_left
          focus (intro w hSw; (try dsimp only at hSw); go_simp; (try with_reducible rfl))
          (try simp only [Act.put, List.getElem_toArray, List.getElem_cons_succ, List.getElem_cons_zero, List.setIfInBounds_toArray, List.set_cons_zero, List.set_cons_succ])
          refine wpAnyH_take (i := 16) (v := ?_) rfl (by kernel_rfl) (by kernel_rfl) (by kernel_rfl) (fun _ _ _ h => h) (Or.inl ⟨by rfl, ?_⟩) (by assumption) ?_
          rotate_left
          focus (intro w hSw; (try dsimp only at hSw); go_simp; (try with_reducible rfl))
          (try simp only [Act.put, List.getElem_toArray, List.getElem_cons_succ, List.getElem_cons_zero, List.setIfInBounds_toArray, List.set_cons_zero, List.set_cons_succ])
          refine wpAnyH_done (by kernel_rfl) ?_ _
          go_wp2_with fail
          go_roundw
          case rel => exact ⟨k + 1, some l[k], by omega, by go_num, HN.out, by have hbl := Hbl.out; (repeat' (first | (with_reducible exact Below.refl _ _) | (with_reducible assumption) | (with_reducible refine Below.alloc ?_ ?_ _) | (with_reducible refine Below.setCell ?_ ?_ _) | (with_reducible refine Below.drew ?_) | (with_reducible refine below_drewN ?_ _) | (with_reducible refine below_via ?_ (by with_reducible assumption) ?_) | omega | (simp; done) | (simp; omega))), .inr ⟨by omega, by rw [Nat.add_sub_cancel]; exact (List.getElem?_eq_getElem hlt).symm⟩⟩
          case measure => simp [intOf]; omega
        · have g0 : decide (0 < k) = true := by simpa using k0
          have hk0 : k - 1 < l.length := by omega
          have hp : p = some l[k - 1] := hx.trans (List.getElem?_eq_getElem hk0)
          obtain ⟨b1, o1, q1, hb1, hc1⟩ := HR.out (k - 1) (encLot l[k - 1]) (by simp [hk0])
          injection q1 with q1
          injection q1 with q1 q2 _
          subst q1 q2
          have f0 := (Hbl.out.cell (p := ⟨b, o + (k - 1) * 3 + 0, none⟩) hb).trans (hc1 0 _ rfl)
          have f1 := (Hbl.out.cell (p := ⟨b, o + (k - 1) * 3 + 1, none⟩) hb).trans (hc1 1 _ rfl)
          have f2 := (Hbl.out.cell (p := ⟨b, o + (k - 1) * 3 + 2, none⟩) hb).trans (hc1 2 _ rfl)
          simp only [Nat.add_zero] at f0
          clear hc1
          cases hlo : ltL l[k - 1] l[k]
          · have hge : decide (0 ≤ ordL l[k - 1] l[k]) = true := by unfold ltL at hlo; have := of_decide_eq_false hlo; exact decide_eq_true (by omega)
            have CO := Lib.hid (fun W => lotOrder l[k - 1] l[k] W)
            have HN := Lib.hid (show isR none l = false from by rw [HV.out, HD.out]; exact isR_bad (.inr ⟨_, hp, hlo⟩))
            clear hri hx hlo hp
            generalize ordL l[k - 1] l[k] = oo at *
            have lk : (k : Int) - 1 < (l.length : Int) := by omega
            have k1 : (1 : Int) ≤ (k : Int) := by omega
            have k2 : 1 ≤ k := by omega
            have lk2 : (k : Int) ≤ (l.length : Int) := by omega
            have lk3 : (k : Int) < (l.length : Int) + 1 := by omega
            have lk4 : k < l.length + 1 := by omega
            have lk5 : k - 1 < l.length := by omega
            obtain ⟨nk, tk, wk⟩ := pred_facts k0 (by omega)
            go_wp2_with fail
            go_region_held3 (fun w' => (w'.cell? ⟨wr.heap.size, 0, none⟩ = some (.int .i64 l[k].asset) ∧ w'.cell? ⟨wr.heap.size, 1, none⟩ = some (.int .i64 l[k].tag) ∧ w'.cell? ⟨wr.heap.size, 2, none⟩ = some (.int .i64 l[k].qty)) ∧ (w'.cell? ⟨b, o + (k - 1) * 3, none⟩ = some (.int .i64 l[k - 1].asset) ∧ w'.cell? ⟨b, o + (k - 1) * 3 + 1, none⟩ = some (.int .i64 l[k - 1].tag) ∧ w'.cell? ⟨b, o + (k - 1) * 3 + 2, none⟩ = some (.int .i64 l[k - 1].qty))) (first | (simp [go_sem]; done) | (repeat' (first | (with_reducible assumption) | (with_reducible refine And.intro ?_ ?_) | (with_reducible refine cell_drew ?_) | (with_reducible refine cell_via (by with_reducible assumption) ?_ ?_) | (simp [*]; done) | (simp [go_sem]; done) | (with_reducible refine cell_alloc ?_ ?_) | (with_reducible refine cell_set_far ?_ ?_) | omega | (simp; omega)))) (first | (go_at_call 92; (with_reducible refine (CR.out _).mono ?_); rintro e w1 ⟨rfl, hb1⟩; obtain ⟨fc1, fg1, hc1, hf1, hz1⟩ := bget hb1; (try simp at hz1)) | (go_at_call 93; (with_reducible refine (CO.out _).mono ?_); rintro e w2 ⟨rfl, hb2⟩; obtain ⟨fc2, fg2, hc2, hf2, hz2⟩ := bget hb2; (try simp at hz2)) | fail)
            clear nk tk wk
            go_wp2_with fail
            go_ret
            exact ⟨by rw [HIL.out, HN.out]; rfl, by have hbl := Hbl.out; (repeat' (first | (with_reducible exact Below.refl _ _) | (with_reducible assumption) | (with_reducible refine Below.alloc ?_ ?_ _) | (with_reducible refine Below.setCell ?_ ?_ _) | (with_reducible refine Below.drew ?_) | (with_reducible refine below_drewN ?_ _) | (with_reducible refine below_via ?_ (by with_reducible assumption) ?_) | omega | (simp; done) | (simp; omega)))⟩
          · have hge : decide (0 ≤ ordL l[k - 1] l[k]) = false := by unfold ltL at hlo; have := of_decide_eq_true hlo; exact decide_eq_false (by omega)
            have CO := Lib.hid (fun W => lotOrder l[k - 1] l[k] W)
            have HN := Lib.hid (show isR none l = isR (some l[k]) (l.drop (k + 1)) from by rw [HV.out, HD.out]; exact isR_step hri (fun q hq => by rw [hp] at hq; injection hq with hq; rw [← hq]; exact hlo))
            clear hri hx hlo hp
            generalize ordL l[k - 1] l[k] = oo at *
            have lk : (k : Int) - 1 < (l.length : Int) := by omega
            have k1 : (1 : Int) ≤ (k : Int) := by omega
            have k2 : 1 ≤ k := by omega
            have lk2 : (k : Int) ≤ (l.length : Int) := by omega
            have lk3 : (k : Int) < (l.length : Int) + 1 := by omega
            have lk4 : k < l.length + 1 := by omega
            have lk5 : k - 1 < l.length := by omega
            obtain ⟨nk, tk, wk⟩ := pred_facts k0 (by omega)
            go_wp2_with fail
            go_region_held3 (fun w' => (w'.cell? ⟨wr.heap.size, 0, none⟩ = some (.int .i64 l[k].asset) ∧ w'.cell? ⟨wr.heap.size, 1, none⟩ = some (.int .i64 l[k].tag) ∧ w'.cell? ⟨wr.heap.size, 2, none⟩ = some (.int .i64 l[k].qty)) ∧ (w'.cell? ⟨b, o + (k - 1) * 3, none⟩ = some (.int .i64 l[k - 1].asset) ∧ w'.cell? ⟨b, o + (k - 1) * 3 + 1, none⟩ = some (.int .i64 l[k - 1].tag) ∧ w'.cell? ⟨b, o + (k - 1) * 3 + 2, none⟩ = some (.int .i64 l[k - 1].qty))) (first | (simp [go_sem]; done) | (repeat' (first | (with_reducible assumption) | (with_reducible refine And.intro ?_ ?_) | (with_reducible refine cell_drew ?_) | (with_reducible refine cell_via (by with_reducible assumption) ?_ ?_) | (simp [*]; done) | (simp [go_sem]; done) | (with_reducible refine cell_alloc ?_ ?_) | (with_reducible refine cell_set_far ?_ ?_) | omega | (simp; omega)))) (first | (go_at_call 92; (with_reducible refine (CR.out _).mono ?_); rintro e w1 ⟨rfl, hb1⟩; obtain ⟨fc1, fg1, hc1, hf1, hz1⟩ := bget hb1; (try simp at hz1)) | (go_at_call 93; (with_reducible refine (CO.out _).mono ?_); rintro e w2 ⟨rfl, hb2⟩; obtain ⟨fc2, fg2, hc2, hf2, hz2⟩ := bget hb2; (try simp at hz2)) | fail)
            clear nk tk wk
            go_wp2_with fail
            go_roundw
            case rel => exact ⟨k + 1, some l[k], by omega, by go_num, HN.out, by have hbl := Hbl.out; (repeat' (first | (with_reducible exact Below.refl _ _) | (with_reducible assumption) | (with_reducible refine Below.alloc ?_ ?_ _) | (with_reducible refine Below.setCell ?_ ?_ _) | (with_reducible refine Below.drew ?_) | (with_reducible refine below_drewN ?_ _) | (with_reducible refine below_via ?_ (by with_reducible assumption) ?_) | omega | (simp; done) | (simp; omega))), .inr ⟨by omega, by rw [Nat.add_sub_cancel]; exact (List.getElem?_eq_getElem hlt).symm⟩⟩
            case measure => simp [intOf]; omega
    · have dl : decide ((k : Int) < (l.length : Int)) = false := by simpa using hlt
      have HD := Lib.hid (drop_all (l := l) (k := k) (by omega))
      have HN := Lib.hid (show isL l = decide ((l.length : Int) ≤ 16) from by rw [HIL.out, HV.out, HD.out]; cases p <;> simp only [isR, Bool.true_and] <;> exact decide_eq_decide.2 (by omega))
      go_wp2_with fail
      go_ret
      exact ⟨by rw [HN.out]; rfl, Hbl.out⟩
end Go.Proofs.YtalgfpegaobacaaGreat
