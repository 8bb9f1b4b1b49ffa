/- Joined. -/
import Derived.Test.YtalgfpegaobacaaGreatDoorQz15
import Derived.Test.YtalgfpegaobacaaGreatDoorQz16
import Derived.Test.YtalgfpegaobacaaGreatDoorQz17
namespace Go.Proofs.YtalgfpegaobacaaGreatDoor
set_option linter.all false
set_option maxHeartbeats 8000000
set_option maxRecDepth 100000
open Go.RowKit
open Lib (hid)
/- Layer 24, plain: what a vector loses in a scenario, and in the worst one; two as one, twice one. No program in sight. -/
def legS (t : List InstV) (s : Int) (x : Leg) : Int := shockI (lgI (findInstV t x.inst).1) x.qty s
def known (t : List InstV) (l : List Leg) : Bool := l.all fun x => (findInstV t x.inst).2
def gnN (t : List InstV) (l : List Leg) (s : Int) : Int := (l.map (legS t s)).sum
def lossC (t : List InstV) (l : List Leg) : Int := if isV l then (if known t l then 0 else 11) else 3
def lossN (t : List InstV) (l : List Leg) (s : Int) : Int := if isV l && known t l then - gnN t l s else 0
def mostN (f : Int → Int) : Nat → Int × Int
 | 0 => (0, -1)
 | k + 1 => if (mostN f k).1 < f k then (f k, k) else mostN f k
def marginN (t : List InstV) (l : List Leg) : Int := if lossC t l = 0 then (if in64 (mostN (lossN t l) 8).1 then (mostN (lossN t l) 8).1 else 0) else 0
def marginC (t : List InstV) (l : List Leg) : Int := if lossC t l = 0 then (if in64 (mostN (lossN t l) 8).1 then 0 else 7) else lossC t l
theorem legS_bound {t : List InstV} {x : Leg} {s : Int} (h : In64 x.qty) : -1298074214633706907132624082305024 ≤ legS t s x ∧ legS t s x ≤ 1298074214633706907132624082305024 := by
 unfold legS
 generalize lgI (findInstV t x.inst).1 = y
 by_cases hs : okS y s
 ·obtain ⟨k, rfl, hk⟩ := okS_nat hs
  rw [shock_yes hs.1 hk]
  have hmv := okI_move hs.1 hk
  have hm := hs.1.2.2
  have e1 := mul_le_of (a := y.moves[k]) (b := y.mult) (A := 2147483647) (B := 65536) (by omega) (by omega) 140737488289792 (by omega)
  have e2 := mul_le_of (a := y.moves[k] * y.mult) (b := x.qty) (A := 140737488355328) (B := 9223372036854775808) (by omega) (by unfold In64 at h; omega) 1298074214633706907132624082305024 (by omega)
  omega
 ·rw [shock_no hs]; omega
theorem gain_bound {t : List InstV} {s : Int} : ∀ {l : List Leg} (_ : Legs64 l), -(l.length * 1298074214633706907132624082305024 : Int) ≤ gnN t l s ∧ gnN t l s ≤ l.length * 1298074214633706907132624082305024
 | [], _ => by simp [gnN]
 | x :: l, h => by
  have h1 := gain_bound (t := t) (s := s) (l := l) fun y hy => h y (by simp [hy])
  have h2 := legS_bound (t := t) (s := s) (h x (by simp))
  unfold gnN at h1 ⊢
  simp only [List.map_cons, List.sum_cons, List.length_cons]
  omega
theorem legS_in {t : List InstV} {x : Leg} {s : Int} (h : In64 x.qty) : In128 (legS t s x) := by
 have := legS_bound (t := t) (s := s) h
 unfold In128; omega
theorem gain_in {t : List InstV} {l : List Leg} {s : Int} (h : Legs64 l) (hl : l.length ≤ 1000) : In128 (gnN t l s) ∧ In128 (- gnN t l s) := by
 have := gain_bound (t := t) (s := s) h
 unfold In128; omega
theorem loss_in {t : List InstV} {l : List Leg} {s : Int} (h : Legs64 l) (hl : l.length ≤ 1000) : In128 (lossN t l s) := by
 unfold lossN
 split
 ·exact (gain_in h hl).2
 ·unfold In128; omega
theorem loss_no {t : List InstV} {l : List Leg} (h : lossC t l ≠ 0) : ∀ s, lossN t l s = 0 := by
 intro s
 unfold lossN
 rw [if_neg]
 intro h1
 rw [Bool.and_eq_true] at h1
 apply h
 unfold lossC
 rw [if_pos h1.1, if_pos h1.2]
theorem most_zero {f : Int → Int} (h : ∀ s, f s = 0) : ∀ n, mostN f n = (0, -1)
 | 0 => rfl
 | n + 1 => by unfold mostN; rw [most_zero h n, h]; rfl
theorem most_nonneg (f : Int → Int) : ∀ n, 0 ≤ (mostN f n).1
 | 0 => by simp [mostN]
 | n + 1 => by have := most_nonneg f n; unfold mostN; split <;> (try simp only []) <;> omega
theorem most_is (f : Int → Int) : ∀ n, (mostN f n).1 = 0 ∨ ∃ k, k < n ∧ (mostN f n).1 = f (k : Nat)
 | 0 => .inl rfl
 | n + 1 => by
  unfold mostN
  split
  ·exact .inr ⟨n, by omega, rfl⟩
  ·rcases most_is f n with h | ⟨k, hk, h⟩
   ·exact .inl h
   ·exact .inr ⟨k, by omega, h⟩
theorem most_in {f : Int → Int} (h : ∀ s, In128 (f s)) (n : Nat) : In128 (mostN f n).1 := by
 rcases most_is f n with h1 | ⟨k, _, h1⟩
 ·rw [h1]; unfold In128; omega
 ·rw [h1]; exact h k
theorem known_mem {t : List InstV} {l : List Leg} (h : known t l = true) {x : Leg} (hx : x ∈ l) : (findInstV t x.inst).2 = true := by
 unfold known at h
 exact List.all_eq_true.1 h x hx
theorem margin_pos (t : List InstV) (l : List Leg) : 0 ≤ marginN t l := by
 unfold marginN
 have := most_nonneg (lossN t l) 8
 split
 ·split <;> omega
 ·omega
theorem margin_in (t : List InstV) (l : List Leg) : In64 (marginN t l) := by
 unfold marginN
 split
 ·split
  ·rename_i h; exact in64_iff.1 h
  ·unfold In64; omega
 ·unfold In64; omega
/- Margin units, plain: which an account has, of which units they consist, of which one a unit is a part, what they must have. No program in sight. -/
def unitsN (x : Acct) : List Un := if x.kind = 2 then [⟨x.id, 0⟩] else unitsA x
def partsN (x : Acct) (u : Un) : List Un := if u ∈ unitsN x then (if x.kind = 2 then unitsA x else [u]) else []
theorem unitsN_len (x : Acct) : (unitsN x).length ≤ x.clients.length + 1 := by
 unfold unitsN unitsA
 split
 ·simp
 ·split <;> simp
theorem partsN_len (x : Acct) (u : Un) : (partsN x u).length ≤ x.clients.length + 1 := by
 unfold partsN unitsA
 split
 ·split
  ·split <;> simp
  ·simp
 ·simp
def netC (L : List (Row Leg)) (us : List Un) : Int := if isK isV L then addC (us.map (ofK L)) else 3
def netL (L : List (Row Leg)) (us : List Un) : List Leg := if isK isV L then addL (us.map (ofK L)) else []
def nofC (t : List InstV) (L : List (Row Leg)) (x : Acct) (u : Un) : Int :=
 if isK isV L then (if u ∈ unitsN x then (if netC L (partsN x u) = 0 then marginC t (netL L (partsN x u)) else netC L (partsN x u)) else 11) else 3
def nofN (t : List InstV) (L : List (Row Leg)) (x : Acct) (u : Un) : Int :=
 if isK isV L then (if u ∈ unitsN x then (if netC L (partsN x u) = 0 then marginN t (netL L (partsN x u)) else 0) else 0) else 0
theorem nofN_no {t : List InstV} {L : List (Row Leg)} {x : Acct} {u : Un} (h : nofC t L x u ≠ 0) : nofN t L x u = 0 := by
 unfold nofC at h
 unfold nofN
 split
 ·rename_i h1
  rw [if_pos h1] at h
  split
  ·rename_i h2
   rw [if_pos h2] at h
   split
   ·rename_i h3
    rw [if_pos h3] at h
    unfold marginC at h
    unfold marginN
    split
    ·rename_i h4
     rw [if_pos h4] at h
     split
     ·rename_i h5
      rw [if_pos h5] at h
      exact absurd rfl h
     ·rfl
    ·rfl
   ·rfl
  ·rfl
 ·rfl
theorem nofN_pos (t : List InstV) (L : List (Row Leg)) (x : Acct) (u : Un) : 0 ≤ nofN t L x u ∧ In64 (nofN t L x u) := by
 unfold nofN
 have h0 : In64 0 := by unfold In64; omega
 split
 ·split
  ·split
   ·exact ⟨margin_pos _ _, margin_in _ _⟩
   ·exact ⟨Int.le_refl _, h0⟩
  ·exact ⟨Int.le_refl _, h0⟩
 ·exact ⟨Int.le_refl _, h0⟩
theorem netL_len (L : List (Row Leg)) (us : List Un) : (netL L us).length ≤ 8 := by
 unfold netL
 split
 ·exact addL_len _
 ·simp
theorem netL64 (L : List (Row Leg)) (us : List Un) : Legs64 (netL L us) := by
 unfold netL
 split
 ·exact addL64B _
 ·exact fun x hx => by simp at hx
/- What a margin unit has more than it must, plain; that what is given makes it no less. No program in sight. -/
structure SideL where
 ats : List Asset
 ins : List InstV
 bk : List (Row Leg)
 pu : List Flow
 ho : List (Row Lot)
def partC (S : SideL) (v : Un) : Int := valC S.ats (ofK S.ho v) (getPu S.pu v)
def partN (S : SideL) (v : Un) : Int := valN S.ats (ofK S.ho v) (getPu S.pu v)
def rightS (S : SideL) : Bool := isK isV S.bk && (isPu S.pu && isK isL S.ho)
def excL (S : SideL) (x : Acct) (u : Un) : List Int := -(nofN S.ins S.bk x u) :: (partsN x u).map (partN S)
def excC (S : SideL) (x : Acct) (u : Un) : Int := if rightS S then (if nofC S.ins S.bk x u = 0 then (if firstC (partC S) (partsN x u) = 0 then sum64C (excL S x u) else firstC (partC S) (partsN x u)) else nofC S.ins S.bk x u) else 3
def excN (S : SideL) (x : Acct) (u : Un) : Int := if rightS S then (if nofC S.ins S.bk x u = 0 then (if firstC (partC S) (partsN x u) = 0 then sum64N (excL S x u) else 0) else 0) else 0
theorem excN64 (S : SideL) (x : Acct) (u : Un) : In64 (excN S x u) := by
 unfold excN
 have h0 : In64 0 := by unfold In64; omega
 split
 ·split
  ·split
   ·exact sum64_in _
   ·exact h0
  ·exact h0
 ·exact h0
/- States: the type. -/
structure Choice where
 frm : Un
 too : Un
 con : Bool
 deriving DecidableEq
def encChoice (x : Choice) : List Value := [.int .i64 x.frm.acc, .int .i64 x.frm.cli, .int .i64 x.too.acc, .int .i64 x.too.cli, .bool x.con]
def okChoice (x : Choice) : Prop := In64 x.frm.acc ∧ In64 x.frm.cli ∧ In64 x.too.acc ∧ In64 x.too.cli
structure Group where
 id : Int
 unit : Un
 inst : Int
 price : Int
 left : Int
 deriving DecidableEq
def encGroup (x : Group) : List Value := [.int .i64 x.id, .int .i64 x.unit.acc, .int .i64 x.unit.cli, .int .i64 x.inst, .int .i64 x.price, .int .i64 x.left]
def okGroup (x : Group) : Prop := In64 x.id ∧ In64 x.unit.acc ∧ In64 x.unit.cli ∧ In64 x.inst ∧ In64 x.price ∧ In64 x.left
theorem rowsGroup (l : List Group) : ∀ r ∈ l.map encGroup, r.length = 6 ∧ ∀ u ∈ r, u.oneCell' = true := by
 intro r hr
 obtain ⟨m, _, rfl⟩ := List.mem_map.1 hr
 refine ⟨rfl, ?_⟩
 simp only [encGroup, List.mem_cons, List.not_mem_nil, or_false, forall_eq_or_imp, forall_eq]
 exact ⟨rfl, rfl, rfl, rfl, rfl, rfl⟩
structure Give where
 id : Int
 frm : Un
 too : Un
 leg : Leg
 price : Int
 group : Int
 day : Int
 state : Int
 deriving DecidableEq
def encGive (x : Give) : List Value := [.int .i64 x.id, .int .i64 x.frm.acc, .int .i64 x.frm.cli, .int .i64 x.too.acc, .int .i64 x.too.cli, .int .i64 x.leg.inst, .int .i64 x.leg.qty, .int .i64 x.price, .int .i64 x.group, .int .i64 x.day, .int .i64 x.state]
def okGive (x : Give) : Prop := In64 x.id ∧ In64 x.frm.acc ∧ In64 x.frm.cli ∧ In64 x.too.acc ∧ In64 x.too.cli ∧ In64 x.leg.inst ∧ In64 x.leg.qty ∧ In64 x.price ∧ In64 x.group ∧ In64 x.day ∧ In64 x.state
theorem rowsGive (l : List Give) : ∀ r ∈ l.map encGive, r.length = 11 ∧ ∀ u ∈ r, u.oneCell' = true := by
 intro r hr
 obtain ⟨m, _, rfl⟩ := List.mem_map.1 hr
 refine ⟨rfl, ?_⟩
 simp only [encGive, List.mem_cons, List.not_mem_nil, or_false, forall_eq_or_imp, forall_eq]
 exact ⟨rfl, rfl, rfl, rfl, rfl, rfl, rfl, rfl, rfl, rfl, rfl⟩
structure StV where
 day : Int
 mem : SlOf Mb
 ins : SlOf InstV
 ats : SlOf Asset
 acs : SlOf AcctV
 cho : SlOf Choice
 grp : SlOf Group
 giv : SlOf Give
 bk : SlOf PosV
 sale : SlOf PosV
 pu : SlOf Flow
 ho : SlOf HoldV
/- The lines of a report, plainly. -/
abbrev lnL (ws : List Str) : Str := Lib.join ws [32]
abbrev wdUnit : Str := [117, 110, 105, 116]
abbrev wdCash : Str := [99, 97, 115, 104]
abbrev wdPosition : Str := [112, 111, 115, 105, 116, 105, 111, 110]
abbrev wdSale : Str := [115, 97, 108, 101]
abbrev wdLot : Str := [108, 111, 116]
abbrev wdAccount : Str := [97, 99, 99, 111, 117, 110, 116]
abbrev wdMember : Str := [109, 101, 109, 98, 101, 114]
abbrev wdMargin : Str := [109, 97, 114, 103, 105, 110]
abbrev wdNeed : Str := [110, 101, 101, 100]
abbrev wdExcess : Str := [101, 120, 99, 101, 115, 115]
abbrev wdUntil : Str := [117, 110, 116, 105, 108]
abbrev wdCap : Str := [99, 97, 112]
abbrev wdUsed : Str := [117, 115, 101, 100]
abbrev wdDay : Str := [100, 97, 121]
theorem join_len : ∀ (ws : List Str) (n : Nat), (∀ x ∈ ws, x.length ≤ n) → (lnL ws).length ≤ ws.length * (n + 1)
 | [], n, _ => by simp [Lib.join, List.intercalate]
 | [x], n, h => by have := h x (by simp); simp [Lib.join, List.intercalate]; omega
 | x :: y :: t, n, h => by
  have ih := join_len (y :: t) n (fun z hz => h z (List.mem_cons_of_mem _ hz))
  have hx := h x (by simp)
  have e : lnL (x :: y :: t) = x ++ ([32] ++ lnL (y :: t)) := by simp [lnL, Lib.join, List.intercalate]
  rw [e]
  simp only [List.length_append, List.length_cons, List.length_nil] at ih ⊢
  rw [Nat.add_mul]
  omega
theorem itoa_le {n : Int} (h : In64 n) : (Lib.itoa n).length ≤ 21 := Lib.itoa_length_le n (by unfold In64 at h; omega) (by unfold In64 at h; omega)
theorem place_le {u : Un} (h : In64 u.acc ∧ In64 u.cli) : (placeL u).length ≤ 43 := by
 unfold placeL
 have h1 := itoa_le h.1
 have h2 := itoa_le h.2
 simp only [List.length_append, List.length_cons, List.length_nil]
 omega
theorem maybe_le {n e : Int} (h : In64 n) : (maybeL n e).length ≤ 21 := by
 unfold maybeL
 split
 ·exact itoa_le h
 ·simp
theorem kind_le (k : Int) : (kindL k).length ≤ 5 := by
 unfold kindL
 repeat' split
 all_goals simp
theorem phase_le (k : Int) : (phaseL k).length ≤ 7 := by
 unfold phaseL
 repeat' split
 all_goals simp
def legW (word : Str) (u : Un) (x : Leg) : List Str := [word, placeL u, Lib.itoa x.inst, Lib.itoa x.qty]
def legsL (word : Str) (u : Un) (l : List Leg) : List Str := l.map fun x => lnL (legW word u x)
def lotW (u : Un) (x : Lot) : List Str := [wdLot, placeL u, Lib.itoa x.asset, Lib.itoa x.tag, Lib.itoa x.qty]
def lotsL (u : Un) (l : List Lot) : List Str := l.map fun x => lnL (lotW u x)
def unitW (n : Int) (u : Un) : List Str := [wdUnit, placeL u, wdCash, Lib.itoa n]
structure RepL where
 day : Int
 mem : List Mb
 acs : List Acct
 S : SideL
 sale : List (Row Leg)
def unitL (R : RepL) (u : Un) : List Str := lnL (unitW (getPu R.S.pu u) u) :: (legsL wdPosition u (ofK R.S.bk u) ++ (legsL wdSale u (ofK R.sale u) ++ lotsL u (ofK R.S.ho u)))
def unitsL (R : RepL) : List Un → List Str
 | [] => []
 | u :: us => unitL R u ++ unitsL R us
def accountW (a : Acct) : List Str := [wdAccount, Lib.itoa a.id, kindL a.kind, wdMember, Lib.itoa a.member]
def marginW (R : RepL) (a : Acct) (u : Un) : List Str := [wdMargin, placeL u, wdNeed, maybeL (nofN R.S.ins R.S.bk a u) (nofC R.S.ins R.S.bk a u), wdExcess, maybeL (excN R.S a u) (excC R.S a u)]
def marginsL (R : RepL) (a : Acct) (us : List Un) : List Str := us.map fun u => lnL (marginW R a u)
def accountL (R : RepL) (a : Acct) : List Str := lnL (accountW a) :: (marginsL R a (unitsN a) ++ unitsL R (unitsA a))
def accountsL (R : RepL) : List Acct → List Str
 | [] => []
 | a :: t => accountL R a ++ accountsL R t
def ofL (l : List Acct) (id : Int) : List Acct := l.filter fun a => a.member == id
def unitsOfL : List Acct → List Un
 | [] => []
 | a :: t => unitsA a ++ unitsOfL t
def heldC (bk : List (Row Leg)) (us : List Un) : Int := if isK isV bk then (if firstC (fun u => grossC (ofK bk u)) us = 0 then sum64C (us.map fun u => grossN (ofK bk u)) else firstC (fun u => grossC (ofK bk u)) us) else 3
def heldN (bk : List (Row Leg)) (us : List Un) : Int := if isK isV bk then (if firstC (fun u => grossC (ofK bk u)) us = 0 then sum64N (us.map fun u => grossN (ofK bk u)) else 0) else 0
def memberW (R : RepL) (m : Mb) : List Str := [wdMember, Lib.itoa m.id, phaseL m.phase, wdUntil, Lib.itoa m.til, wdCap, Lib.itoa m.cap, wdUsed, maybeL (heldN R.S.bk (unitsOfL (ofL R.acs m.id))) (heldC R.S.bk (unitsOfL (ofL R.acs m.id)))]
def memberL (R : RepL) (m : Mb) : List Str := lnL (memberW R m) :: accountsL R (ofL R.acs m.id)
def membersL (R : RepL) : List Mb → List Str
 | [] => []
 | m :: t => memberL R m ++ membersL R t
def allL (R : RepL) : List Str := lnL [wdDay, Lib.itoa R.day] :: (unitL R ⟨0, 0⟩ ++ (unitL R ⟨0, 1⟩ ++ membersL R R.mem))
def repL (s : StV) : RepL := ⟨s.day, s.mem.val, s.acs.val.map lgA, ⟨s.ats.val, s.ins.val, s.bk.val.map lgPosV, s.pu.val, s.ho.val.map lgHoldV⟩, s.sale.val.map lgPosV⟩
theorem unitsOf_app : ∀ l m : List Acct, unitsOfL (l ++ m) = unitsOfL l ++ unitsOfL m
 | [], _ => rfl
 | a :: l, m => by show unitsA a ++ unitsOfL (l ++ m) = _; rw [unitsOf_app l m, ← List.append_assoc]; rfl
theorem unitsOf_snoc {l : List Acct} {k : Nat} (h : k < l.length) : unitsOfL (l.take (k + 1)) = unitsOfL (l.take k) ++ unitsA l[k] := by
 rw [List.take_succ_eq_append_getElem h, unitsOf_app]
 show _ ++ (_ ++ []) = _
 rw [List.append_nil]
theorem unitsA_le (a : Acct) : (unitsA a).length ≤ a.clients.length + 1 := by
 unfold unitsA
 split <;> simp
theorem unitsOf_len : ∀ {l : List Acct} {m : Nat} (_ : ∀ a ∈ l, a.clients.length ≤ m), (unitsOfL l).length ≤ (m + 1) * l.length
 | [], _, _ => Nat.le_refl _
 | a :: l, m, h => by
  have ih := unitsOf_len (l := l) (m := m) fun x hx => h x (List.mem_cons_of_mem _ hx)
  have h1 := unitsA_le a
  have h2 := h a (List.mem_cons_self ..)
  show (unitsA a ++ unitsOfL l).length ≤ (m + 1) * (l.length + 1)
  rw [List.length_append, Nat.mul_add]
  omega
theorem ofL_len (l : List Acct) (id : Int) : (ofL l id).length ≤ l.length := List.length_filter_le _ _
theorem ofL_mem {l : List Acct} {id : Int} {a : Acct} (h : a ∈ ofL l id) : a ∈ l ∧ a.member = id := by
 unfold ofL at h
 rw [List.mem_filter] at h
 exact ⟨h.1, by simpa using h.2⟩
/- Pages: contract of legs. -/
theorem rd_strs {w : World} {ws : List Str} {cs : Array Value} {E n : Nat} (hn : n = w.heap.size) (hcs : cs.toList = ws.map strV) : Rd (w.alloc (.cells cs E)) (some ⟨n, 0, none⟩) 1 (ws.map encStr) := by
 subst hn
 intro i r hr
 rw [List.getElem?_map] at hr
 cases hj : ws[i]? with
 | none => rw [hj] at hr; cases hr
 | some l =>
  rw [hj] at hr
  simp only [Option.map_some, Option.some.injEq] at hr
  subst hr
  refine ⟨w.heap.size, 0, rfl, by simp, fun j v hv => ?_⟩
  match j, hv with
  | 0, hv =>
   simp [encStr] at hv
   subst hv
   rw [World.cell?_alloc_new]
   have : cs.toList[i]? = some (strV l) := by rw [hcs, List.getElem?_map, hj]; rfl
   simpa using this
  | j + 1, hv => simp [encStr] at hv
theorem PgA.blk {E g base t b : Nat} {cs : Array Value} {w w' : World} (h : PgA E g base w w') (hb : Blk w b t cs) (ht : t ≠ E) (hne : b ≠ g) : Blk w' b t cs := by
 unfold Blk at hb ⊢
 rw [h.typed b (Blk.lt hb) hne (fun cs' r e => by rw [hb] at e; injection e with e; injection e with _ e _; exact ht e)]
 exact hb
theorem PgA.grow {E g base : Nat} {w w1 w' : World} (h : PgA E g base w w1) (hb : base ≤ w.heap.size) (k : Below w1.heap.size w1 w') : PgA E g base w w' := h.trans (PgA.of_below k (Nat.le_trans hb h.size))
theorem leg_bound {word : Str} {u : Un} {x : Leg} (hw : word.length ≤ 43) (hu : In64 u.acc ∧ In64 u.cli) (hx : In64 x.inst ∧ In64 x.qty) : (lnL (legW word u x)).length ≤ 100000 := by
 refine Nat.le_trans (join_len (legW word u x) 43 ?_) (by simp [legW])
 have h1 := place_le hu
 have h2 := itoa_le hx.1
 have h3 := itoa_le hx.2
 simp only [legW, List.mem_cons, List.not_mem_nil, or_false, forall_eq_or_imp, forall_eq]
 exact ⟨hw, h1, by omega, by omega⟩
theorem pageLegs (g base : Nat) (word : Str) (u : Un) (l : List Leg) (A : Option Addr) (c : Nat) (ls : List Str) (w0 w : World) (h0 : Below w0.heap.size w0 w) (hg0 : w0.heap.size ≤ g) (ht : TabP w0)
  (hw : word.length ≤ 43) (hu : In64 u.acc ∧ In64 u.cli) (hin : ∀ x ∈ l, In64 x.inst ∧ In64 x.qty) (hl : l.length ≤ 100000) (hll : ls.length + l.length ≤ 1000000000)
  (hp : Page w g base ls) (hr : ∀ W, PgA 9 g w0.heap.size w W → Rd W A 2 (l.map encLeg)) :
  Calls Tryz.prog 64 #[.pointer (some ⟨g, 0, none⟩), strV word, .agg #[.int .i64 u.acc, .int .i64 u.cli], .slice A l.length c] w fun e w' => e = .returned (.tuple #[]) ∧ Page w' g base (ls ++ legsL word u l) ∧ PgA 9 g w0.heap.size w w' := by
 have CP := hid (fun W (h : Below w0.heap.size w0 W) => repPlace u W hu (ht.keep h))
 have CN := hid (fun n W (hn : In64 n) (h : Below w0.heap.size w0 W) => repNum n W hn (ht.keep h))
 have CL := hid (fun n W (hn : In64 n) (h : Below w0.heap.size w0 W) => repLong n W hn (ht.keep h))
 have HIN := hid hin
 have HP0 := hid hp
 have HR0 := hid hr
 have H00 := hid h0
 have HBD := hid (fun x (hx : x ∈ l) => leg_bound hw hu (hin x hx))
 have hz0 := h0.size
 have hgb := hp.lt
 have hbs := hp.size
 clear hp hr ht h0 hin hw hu
 go_enter Tryz.func64, Tryz.ntmps64
 go_wp2_with fail
 go_loopw [12] (fun i wr => ∃ k : Nat, k ≤ l.length ∧ i = .int .i64 k ∧ Page wr g base (ls ++ legsL word u (l.take k)) ∧ PgA 9 g w0.heap.size w wr ∧ Blk wr w.heap.size 60 #[.int .i64 u.acc, .int .i64 u.cli]) (fun i _ => l.length - (intOf i).toNat)
 case atStart => exact ⟨0, Nat.zero_le _, rfl, by rw [List.take_zero]; show Page _ g base (ls ++ []); rw [List.append_nil]; exact HP0.out.keep tB, PgA.of_below tB (by omega), tL⟩
 case round =>
  obtain ⟨k, hk, rfl, hpg, hpa, hbk⟩ := hrel
  have HPG := hid hpg
  have HPA := hid hpa
  have HBK := hid hbk
  have hz := hpa.size
  have hlw := hbk.lt
  have q0 := hbk.cell 0
  have q1 := hbk.cell 1
  simp only [List.getElem?_toArray, List.getElem?_cons_zero, List.getElem?_cons_succ] at q0 q1
  have H0R := hid (H00.out.trans hpa.below)
  clear hpg hpa hbk
  by_cases hlt : k < l.length
  ·have kl : (k : Int) < (l.length : Int) := by omega
   have dl := @dT k l.length hlt
   obtain ⟨b, o, rfl, hb, hc⟩ := HR0.out _ HPA.out k (encLeg l[k]) (by simp [hlt])
   have e0 := hc 0 _ rfl
   have e1 := hc 1 _ rfl
   simp only [Nat.add_zero] at e0
   have hin := HIN.out l[k] (List.getElem_mem hlt)
   have HB1 := hid (HBD.out l[k] (List.getElem_mem hlt))
   have HSN := hid (show ls ++ legsL word u (l.take (k + 1)) = ls ++ legsL word u (l.take k) ++ [lnL (legW word u l[k])] from by unfold legsL; rw [map_snoc hlt, List.append_assoc])
   have hlen : (ls ++ legsL word u (l.take k)).length ≤ 1000000000 := by unfold legsL; simp; omega
   clear hc
   have CLN0 := fun W (h : Below wr.heap.size wr W) => (show Calls Tryz.prog 28 #[.pointer (some ⟨g, 0, none⟩), .slice (some ⟨W.heap.size, 0, none⟩) 4 4] (W.alloc (.cells #[strV word, strV (placeL u), strV (Lib.itoa l[k].inst), strV (Lib.itoa l[k].qty)] 9)) fun e w' => e = .returned (.tuple #[]) ∧ Page w' g base (ls ++ legsL word u (l.take k) ++ [lnL (legW word u l[k])]) ∧ PgA 9 g w0.heap.size (W.alloc (.cells #[strV word, strV (placeL u), strV (Lib.itoa l[k].inst), strV (Lib.itoa l[k].qty)] 9)) w' from
    pageLineP g base w0.heap.size W.heap.size 4 (ls ++ legsL word u (l.take k)) (legW word u l[k]) _ (HPG.out.keep (h.alloc h.size _)) hg0 (rd_strs rfl rfl) (by simp) (Nat.le_refl _) (by simp [legW]) HB1.out hlen)
   rw [← HSN.out] at CLN0
   have CLN := hid CLN0
   have CN1 := hid (fun W h => CN.out l[k].inst W hin.1 h)
   have CL1 := hid (fun W h => CL.out l[k].qty W hin.2 h)
   clear CLN0 hlen
   generalize Lib.itoa l[k].inst = J1 at *
   generalize Lib.itoa l[k].qty = J2 at *
   generalize placeL u = J0 at *
   go_wp2_with fail
   go_region_held3 (fun w' => (w'.cell? ⟨w.heap.size, 0, none⟩ = some (.int .i64 u.acc) ∧ w'.cell? ⟨w.heap.size, 1, none⟩ = some (.int .i64 u.cli)) ∧ w'.cell? ⟨wr.heap.size, 0, none⟩ = some (.int .i64 l[k].inst) ∧ w'.cell? ⟨wr.heap.size, 1, none⟩ = some (.int .i64 l[k].qty)) (exact tK) (first | (go_at_call 61; (with_reducible refine cM (CP.out _ (by have h := H0R.out; exact tB)) fun w1 hb1 fc1 fg1 hc1 hf1 hz1 => ?_); (try simp at hz1)) | (go_at_call 29; (with_reducible refine cM (CN1.out _ (by have h := H0R.out; exact tB)) fun w2 hb2 fc2 fg2 hc2 hf2 hz2 => ?_); (try simp at hz2)) | (go_at_call 62; (with_reducible refine cM (CL1.out _ (by have h := H0R.out; exact tB)) fun w3 hb3 fc3 fg3 hc3 hf3 hz3 => ?_); (try simp at hz3)) | (go_at_call 28; (with_reducible refine (CLN.out _ tB).mono ?_); rintro e w5 ⟨rfl, hpg5, hpa5⟩; have HP5 := hid hpg5; have hbk := HBK.out; have k5 := hpa5.blk (t := 60) (b := w.heap.size) (cs := #[.int .i64 u.acc, .int .i64 u.cli]) tL (by decide) (by omega); have k9 := hpa5.blk (t := 64) (b := wr.heap.size) (cs := #[.int .i64 l[k].inst, .int .i64 l[k].qty]) tL (by decide) (by omega); have k50 := k5.cell 0; have k51 := k5.cell 1; have k90 := k9.cell 0; have k91 := k9.cell 1; (simp only [List.getElem?_toArray, List.getElem?_cons_zero, List.getElem?_cons_succ] at k50 k51 k90 k91); have H55 := hid (show PgA 9 g w0.heap.size wr w5 from (PgA.of_below tB (by omega)).trans hpa5); have K5 := hid k5; clear hpg5 hpa5 hbk k5 k9) | fail)
   all_goals
    go_wp2_with fail
    go_roundw
    case rel => exact ⟨k + 1, by omega, by go_num, HP5.out, HPA.out.trans H55.out, K5.out⟩
    case measure => simp [intOf]; omega
  ·have dl := @dF k l.length hlt
   have HT := hid (show l.take k = l from List.take_of_length_le (by omega))
   go_wp2_with fail
   refine bodyPost_end (v := .tuple #[]) (by simp [results, Tryz.results64, go_sem]; try rfl) rfl ⟨rfl, ?_, HPA.out⟩
   have := HPG.out
   rw [HT.out] at this
   exact this
/- Margin units: contracts of need.whole, Units, Parts, Unit; the law's Short. -/
theorem acctUnitsN (x : AcctV) (w : World) (hl : x.clients.val.length ≤ 1048576) (hg : GoodA w x) :
  Calls Tryz.prog 112 #[.agg #[.int .i64 x.id, .int .i64 x.member, .int .i64 x.kind, .slice x.clients.A x.clients.val.length x.clients.c]] w fun e w' => ∃ A c, e = .returned (.slice A (unitsA (lgA x)).length c) ∧ Rs w' 2 ((unitsA (lgA x)).map encUn) A c ∧ Below w.heap.size w w' :=
 (acctUnits (lgA x) x.clients.A x.clients.c w hl hg.rd).mono fun e w' ⟨v, h1, ⟨A, c, h2, h3⟩, h4⟩ => ⟨A, c, by rw [h1, h2], h3, h4⟩
theorem needWhole (x : AcctV) (w : World) :
  Calls Tryz.prog 138 #[.agg #[.int .i64 x.id, .int .i64 x.member, .int .i64 x.kind, .slice x.clients.A x.clients.val.length x.clients.c]] w fun e w' => e = .returned (.agg #[.int .i64 x.id, .int .i64 0]) ∧ Below w.heap.size w w' := by
 go_enter Tryz.func138, Tryz.ntmps138
 go_wp2_with fail
 refine bodyPost_ret (by simp [results, Tryz.results138, go_sem, ]; try rfl) rfl ⟨rfl, ?_⟩
 exact tB
theorem needUnits (x : AcctV) (w : World) (hl : x.clients.val.length ≤ 1000000) (hg : GoodA w x) :
  Calls Tryz.prog 108 #[.agg #[.int .i64 x.id, .int .i64 x.member, .int .i64 x.kind, .slice x.clients.A x.clients.val.length x.clients.c]] w fun e w' => ∃ A c, e = .returned (.slice A (unitsN (lgA x)).length c) ∧ Rs w' 2 ((unitsN (lgA x)).map encUn) A c ∧ Below w.heap.size w w' := by
 have HG := hid hg
 clear hg
 by_cases hk : x.kind = 2
 ·have b1 : (x.kind == 2) = true := by simpa using hk
  have HU := hid (show unitsN (lgA x) = [⟨x.id, 0⟩] from if_pos hk)
  rw [HU.out]
  clear hk
  go_enter Tryz.func108, Tryz.ntmps108
  go_wp2_with (first | (go_at_call 138; (with_reducible refine cM (needWhole x _) fun w1 hb1 fc1 fg1 hc1 hf1 hz1 => ?_); (try simp at hz1)) | fail)
  go_ret
  exact ⟨_, _, rfl, rd_lit (by simp) (by simp [go_sem]) (by simp [go_sem]), tB⟩
 ·have b1 : (x.kind == 2) = false := by simpa using hk
  have HU := hid (show unitsN (lgA x) = unitsA (lgA x) from if_neg hk)
  rw [HU.out]
  clear hk
  go_enter Tryz.func108, Tryz.ntmps108
  go_wp2_with (first | (go_at_call 112; (with_reducible refine (acctUnitsN x _ (by omega) (HG.out.keep tB)).mono ?_); rintro e w1 ⟨A1, c1, rfl, hrs1, hb1⟩; have HS1 := hid hrs1; clear hrs1; obtain ⟨fc1, fg1, hc1, hf1, hz1⟩ := bget hb1; (try simp at hz1)) | fail)
  go_ret
  exact ⟨_, _, rfl, HS1.out, tB⟩
theorem needParts (x : AcctV) (u : Un) (w : World) (hl : x.clients.val.length ≤ 1000000) (hg : GoodA w x) :
  Calls Tryz.prog 141 #[.agg #[.int .i64 x.id, .int .i64 x.member, .int .i64 x.kind, .slice x.clients.A x.clients.val.length x.clients.c], .agg #[.int .i64 u.acc, .int .i64 u.cli]] w fun e w' => ∃ A c, e = .returned (.slice A (partsN (lgA x) u).length c) ∧ Rs w' 2 ((partsN (lgA x) u).map encUn) A c ∧ Below w.heap.size w w' := by
 have HG := hid hg
 have hul := unitsN_len (lgA x)
 have hul2 : (lgA x).clients.length ≤ 1000000 := hl
 clear hg
 by_cases hin : u ∈ unitsN (lgA x)
 ·have HIN := hid (decide_eq_true hin)
  by_cases hk : x.kind = 2
  ·have b1 : (x.kind == 2) = true := by simpa using hk
   have HU := hid (show partsN (lgA x) u = unitsA (lgA x) from by unfold partsN; rw [if_pos hin, if_pos (show (lgA x).kind = 2 from hk)])
   rw [HU.out]
   clear hk hin
   go_enter Tryz.func141, Tryz.ntmps141
   go_wp2_with fail
   go_region_held3 (fun w' => ((w'.cell? ⟨w.heap.size, 0, none⟩ = some (.int .i64 x.id) ∧ w'.cell? ⟨w.heap.size, 1, none⟩ = some (.int .i64 x.member) ∧ w'.cell? ⟨w.heap.size, 2, none⟩ = some (.int .i64 x.kind) ∧ w'.cell? ⟨w.heap.size, 3, none⟩ = some (.slice x.clients.A x.clients.val.length x.clients.c)) ∧ w'.cell? ⟨w.heap.size + 1, 0, none⟩ = some (.int .i64 u.acc) ∧ w'.cell? ⟨w.heap.size + 1, 1, none⟩ = some (.int .i64 u.cli))) (exact tK) (first | (go_at_call 108; (with_reducible refine (needUnits x _ hl (HG.out.keep tB)).mono ?_); rintro e w1 ⟨A1, c1, rfl, hrs1, hb1⟩; have HS1 := hid hrs1.rd; clear hrs1; obtain ⟨fc1, fg1, hc1, hf1, hz1⟩ := bget hb1; (try simp at hz1)) | (go_at_call 139; (with_reducible refine (unContains (unitsN (lgA x)) u A1 c1 _ (by omega) (HS1.out.keep tB)).mono ?_); rw [HIN.out]; rintro e w2 ⟨rfl, hb2⟩; obtain ⟨fc2, fg2, hc2, hf2, hz2⟩ := bget hb2; (try simp at hz2)) | fail)
   all_goals
    go_wp2_with (first | (go_at_call 112; (with_reducible refine (acctUnitsN x _ (by omega) (HG.out.keep tB)).mono ?_); rintro e w3 ⟨A3, c3, rfl, hrs3, hb3⟩; have HS3 := hid hrs3; clear hrs3; obtain ⟨fc3, fg3, hc3, hf3, hz3⟩ := bget hb3; (try simp at hz3)) | fail)
    go_ret
    exact ⟨_, _, rfl, HS3.out, tB⟩
  ·have b1 : (x.kind == 2) = false := by simpa using hk
   have HU := hid (show partsN (lgA x) u = [u] from by unfold partsN; rw [if_pos hin, if_neg (show ¬ (lgA x).kind = 2 from hk)])
   rw [HU.out]
   clear hk hin
   go_enter Tryz.func141, Tryz.ntmps141
   go_wp2_with fail
   go_region_held3 (fun w' => ((w'.cell? ⟨w.heap.size, 0, none⟩ = some (.int .i64 x.id) ∧ w'.cell? ⟨w.heap.size, 1, none⟩ = some (.int .i64 x.member) ∧ w'.cell? ⟨w.heap.size, 2, none⟩ = some (.int .i64 x.kind) ∧ w'.cell? ⟨w.heap.size, 3, none⟩ = some (.slice x.clients.A x.clients.val.length x.clients.c)) ∧ w'.cell? ⟨w.heap.size + 1, 0, none⟩ = some (.int .i64 u.acc) ∧ w'.cell? ⟨w.heap.size + 1, 1, none⟩ = some (.int .i64 u.cli))) (exact tK) (first | (go_at_call 108; (with_reducible refine (needUnits x _ hl (HG.out.keep tB)).mono ?_); rintro e w1 ⟨A1, c1, rfl, hrs1, hb1⟩; have HS1 := hid hrs1.rd; clear hrs1; obtain ⟨fc1, fg1, hc1, hf1, hz1⟩ := bget hb1; (try simp at hz1)) | (go_at_call 139; (with_reducible refine (unContains (unitsN (lgA x)) u A1 c1 _ (by omega) (HS1.out.keep tB)).mono ?_); rw [HIN.out]; rintro e w2 ⟨rfl, hb2⟩; obtain ⟨fc2, fg2, hc2, hf2, hz2⟩ := bget hb2; (try simp at hz2)) | fail)
   all_goals
    go_wp2_with fail
    go_ret
    exact ⟨_, _, rfl, rd_lit (by simp) (by simp [go_sem]) (by simp [go_sem]), tB⟩
 ·have HIN := hid (decide_eq_false hin)
  have HU := hid (show partsN (lgA x) u = [] from by unfold partsN; rw [if_neg hin])
  rw [HU.out]
  clear hin
  go_enter Tryz.func141, Tryz.ntmps141
  go_wp2_with fail
  go_region_held3 (fun w' => ((w'.cell? ⟨w.heap.size, 0, none⟩ = some (.int .i64 x.id) ∧ w'.cell? ⟨w.heap.size, 1, none⟩ = some (.int .i64 x.member) ∧ w'.cell? ⟨w.heap.size, 2, none⟩ = some (.int .i64 x.kind) ∧ w'.cell? ⟨w.heap.size, 3, none⟩ = some (.slice x.clients.A x.clients.val.length x.clients.c)) ∧ w'.cell? ⟨w.heap.size + 1, 0, none⟩ = some (.int .i64 u.acc) ∧ w'.cell? ⟨w.heap.size + 1, 1, none⟩ = some (.int .i64 u.cli))) (exact tK) (first | (go_at_call 108; (with_reducible refine (needUnits x _ hl (HG.out.keep tB)).mono ?_); rintro e w1 ⟨A1, c1, rfl, hrs1, hb1⟩; have HS1 := hid hrs1.rd; clear hrs1; obtain ⟨fc1, fg1, hc1, hf1, hz1⟩ := bget hb1; (try simp at hz1)) | (go_at_call 139; (with_reducible refine (unContains (unitsN (lgA x)) u A1 c1 _ (by omega) (HS1.out.keep tB)).mono ?_); rw [HIN.out]; rintro e w2 ⟨rfl, hb2⟩; obtain ⟨fc2, fg2, hc2, hf2, hz2⟩ := bget hb2; (try simp at hz2)) | fail)
  all_goals
   go_wp2_with fail
   go_ret
   exact ⟨_, _, rfl, Rs.empty _ _, tB⟩
def shortN (x : AcctV) : AcctV := { x with clients := ⟨x.clients.A, x.clients.c, x.clients.val.take 20⟩ }
theorem law25Short (x : AcctV) (w : World) (hg : GoodA w x) :
  Calls Tryz.prog 19 #[.agg #[.int .i64 x.id, .int .i64 x.member, .int .i64 x.kind, .slice x.clients.A x.clients.val.length x.clients.c]] w fun e w' => e = .returned (.agg #[.int .i64 (shortN x).id, .int .i64 (shortN x).member, .int .i64 (shortN x).kind, .slice (shortN x).clients.A (shortN x).clients.val.length (shortN x).clients.c]) ∧ Below w.heap.size w w' := by
 have hlc : x.clients.val.length ≤ x.clients.c := by have := hg.cap; rw [List.length_map] at this; exact this
 have hcm := hg.room
 unfold maxLen at hcm
 have hr := hg.rd
 unfold shortN
 by_cases h : 20 < x.clients.val.length
 ·have HN := hid (show (x.clients.val.take 20).length = 20 from by rw [List.length_take]; omega)
  have d1 : decide (20 < (x.clients.val.length : Int)) = true := by simp; omega
  obtain ⟨b, o, hA, hq⟩ := hr 0 (encI (x.clients.val[0]'(by omega))) (by rw [List.getElem?_map, List.getElem?_eq_getElem (by omega)]; rfl)
  simp only [hA]
  rw [HN.out]
  clear hq hr hA
  go_enter Tryz.func19, Tryz.ntmps19
  go_wp2_with fail
  all_goals
   refine bodyPost_ret (by simp [results, Tryz.results19, go_sem, ]; try rfl) rfl ⟨rfl, ?_⟩
   exact tB
 ·rw [List.take_of_length_le (by omega)]
  have d1 : decide (20 < (x.clients.val.length : Int)) = false := by simp; omega
  clear hr
  go_enter Tryz.func19, Tryz.ntmps19
  go_wp2_with fail
  all_goals
   refine bodyPost_ret (by simp [results, Tryz.results19, go_sem, ]; try rfl) rfl ⟨rfl, ?_⟩
   exact tB
theorem good_shortN {w : World} {x : AcctV} (h : GoodA w x) : GoodA w (shortN x) ∧ (shortN x).clients.val.length ≤ 20 := by
 refine ⟨?_, by simp [shortN]; omega⟩
 unfold GoodA at *
 have := Rs.take h 20
 rw [← List.map_take] at this
 exact this
end Go.Proofs.YtalgfpegaobacaaGreatDoor
