/- Joined. -/
import Derived.Test.YtalgfpegaobacaaGreatDoorQz2
import Derived.Test.YtalgfpegaobacaaGreatDoorQz3
import Derived.Deep.CutRange
import Derived.Deep.DeepCutAuto
namespace Go.Proofs.YtalgfpegaobacaaGreatDoor
set_option linter.all false
set_option maxHeartbeats 8000000
set_option maxRecDepth 100000
open Go.RowKit
open Lib (hid)
/- Assets: contracts of the reference's Find, Put, Table. -/
theorem elAsset : Elem Tryz.prog 24 51 3 24 := elem_of Tryz.underlying24 (z := .agg #[.int .i64 0, .int .i64 0, .int .i64 0]) (by kernel_rfl) rfl (by omega)
def findAsset (l : List Asset) (id : Int) : Asset × Bool := match l.find? (fun m => m.id == id) with | some m => (m, true) | none => (⟨0, 0, 0⟩, false)
theorem findAsset_hit {l : List Asset} {id : Int} {k : Nat} (h : k < l.length) (hm : (l[k].id == id) = true) (hn : ∀ j (_ : j < l.length), j < k → (l[j].id == id) = false) : findAsset l id = (l[k], true) := by
 have : l.find? (fun m => m.id == id) = some l[k] := by
  rw [List.find?_eq_some_iff_getElem]
  exact ⟨hm, k, h, rfl, fun j hj => by simp [hn j (by omega) hj]⟩
 simp [findAsset, this]
theorem findAsset_miss {l : List Asset} {id : Int} (hn : ∀ j (_ : j < l.length), (l[j].id == id) = false) : findAsset l id = (⟨0, 0, 0⟩, false) := by
 have : l.find? (fun m => m.id == id) = none := by
  rw [List.find?_eq_none]
  intro x hx
  obtain ⟨j, hj, rfl⟩ := List.mem_iff_getElem.1 hx
  simp [hn j hj]
 simp [findAsset, this]
theorem ref12Find (l : List Asset) (id : Int) (A : Option Addr) (c : Nat) (w : World) (hl : l.length ≤ 1099511627776) (hr : Rd w A 3 (l.map encAsset)) :
  Calls Tryz.prog 26 #[.slice A l.length c, .int .i64 id] w fun e w' => e = .returned (.tuple #[.agg #[.int .i64 (findAsset l id).1.id, .int .i64 (findAsset l id).1.price, .int .i64 (findAsset l id).1.hair], .bool (findAsset l id).2]) ∧ Below w.heap.size w w' := by
 have Hr := hid hr
 clear hr
 go_enter Tryz.func26, Tryz.ntmps26
 go_wp2_with fail
 go_loopw [6] (fun i wr => ∃ k : Nat, k ≤ l.length ∧ i = .int .i64 k ∧ Below w.heap.size w wr ∧ (wr.cell? ⟨w.heap.size, 0, none⟩ = some (.int .i64 0) ∧ wr.cell? ⟨w.heap.size, 1, none⟩ = some (.int .i64 0) ∧ wr.cell? ⟨w.heap.size, 2, none⟩ = some (.int .i64 0) ∧ wr.frozen? ⟨w.heap.size, 0, none⟩ = false ∧ wr.frozen? ⟨w.heap.size, 1, none⟩ = false ∧ wr.frozen? ⟨w.heap.size, 2, none⟩ = false) ∧ ∀ j (_ : j < l.length), j < k → (l[j].id == id) = false) (fun i _ => l.length - (intOf i).toNat)
 case atStart => exact ⟨0, Nat.zero_le _, rfl, tB, by simp [go_sem], fun j _ h => absurd h (by omega)⟩
 case round =>
  obtain ⟨k, hk, rfl, hbl, ⟨g0, g1, g2, f0, f1, f2⟩, hno⟩ := hrel
  have Hbl := hid hbl
  have Hno := hid hno
  have hz := hbl.size
  clear hbl hno
  by_cases hlt : k < l.length
  ·obtain ⟨b, o, rfl, hb, hc⟩ := Hr.out k (encAsset l[k]) (by simp [hlt])
   have c0 := tC Hbl hb (hc 0 _ rfl)
   have c1 := tC Hbl hb (hc 1 _ rfl)
   have c2 := tC Hbl hb (hc 2 _ rfl)
   simp only [Nat.add_zero] at c0
   clear hc
   cases hm : (l[k].id == id)
   ·have Hm := hid hm
    go_wp2_with fail
    go_roundw
    case rel => exact ⟨k + 1, by omega, by go_num, Hbl.out, ⟨g0, g1, g2, f0, f1, f2⟩, fun j hj h => by
     rcases Nat.lt_or_ge j k with h1 | h1
     ·exact Hno.out j hj h1
     ·obtain rfl : j = k := by omega
      exact Hm.out⟩
    case measure => simp [intOf]; omega
   ·have hi := findAsset_hit hlt hm Hno.out
    have Hi := hid hi
    clear hi
    go_wp2_with fail
    rw [Hi.out]
    have hbl := Hbl.out
    refine bodyPost_ret (by simp [results, Tryz.results26, go_sem, g0, g1, g2]; try rfl) rfl ⟨rfl, ?_⟩
    exact tB
  ·have hi := findAsset_miss (l := l) (fun j hj => Hno.out j hj (by omega))
   have Hi := hid hi
   clear hi
   go_wp2_with fail
   rw [Hi.out]
   have hbl := Hbl.out
   refine bodyPost_ret (by simp [results, Tryz.results26, go_sem, g0, g1, g2]; try rfl) rfl ⟨rfl, ?_⟩
   exact tB
/- Accounts: the types; which may be, their parts; one more client. No program in sight. -/
structure AcctV where
 id : Int
 member : Int
 kind : Int
 clients : SlOf Int
 deriving DecidableEq
def encAcctV (x : AcctV) : List Value := [.int .i64 x.id, .int .i64 x.member, .int .i64 x.kind, .slice x.clients.A x.clients.val.length x.clients.c]
theorem rowsAcctV (l : List AcctV) : ∀ r ∈ l.map encAcctV, r.length = 4 ∧ ∀ u ∈ r, u.oneCell' = true := by
 intro r hr
 obtain ⟨m, _, rfl⟩ := List.mem_map.1 hr
 refine ⟨rfl, ?_⟩
 simp only [encAcctV, List.mem_cons, List.not_mem_nil, or_false, forall_eq_or_imp, forall_eq]
 exact ⟨rfl, rfl, rfl, rfl⟩
structure Acct where
 id : Int
 member : Int
 kind : Int
 clients : List Int
 deriving DecidableEq
def lgA (x : AcctV) : Acct := ⟨x.id, x.member, x.kind, x.clients.val⟩
def GoodA (w : World) (x : AcctV) : Prop := Rs w 1 (x.clients.val.map encI) x.clients.A x.clients.c
theorem GoodA.keep {w w' : World} {x : AcctV} (h : GoodA w x) (hb : Below w.heap.size w w') : GoodA w' x := Rs.keep h hb
def risC : Int → List Int → Bool
 | _, [] => true
 | p, c :: t => decide (p < c) && decide (c ≤ 16) && risC c t
theorem risC_cons {p c : Int} {t : List Int} : risC p (c :: t) = true ↔ p < c ∧ c ≤ 16 ∧ risC c t = true := by simp [risC, and_assoc]
theorem risC_no {p c : Int} {t : List Int} (h : c ≤ p ∨ 16 < c) : risC p (c :: t) = false := by
 cases hr : risC p (c :: t)
 ·rfl
 ·rw [risC_cons] at hr; omega
theorem risC_step {p c : Int} {t : List Int} (h : p < c) (h2 : c ≤ 16) : risC p (c :: t) = risC c t := by simp [risC, h, h2]
theorem risC_len : ∀ {l : List Int} {p : Int} (_ : risC p l = true) (_ : p ≤ 16), p + l.length ≤ 16
 | [], p, _, hp => by simpa using hp
 | c :: t, p, h, _ => by
  rw [risC_cons] at h
  have := risC_len h.2.2 h.2.1
  simp only [List.length_cons]; omega
def mostA (k : Int) : Int := if k = 1 then 0 else if k = 4 then 1 else 16
def okAAc (x : Acct) : Prop := (1 ≤ x.id ∧ x.id ≤ 16) ∧ (1 ≤ x.member ∧ x.member ≤ 8) ∧ (1 ≤ x.kind ∧ x.kind ≤ 4) ∧ (x.clients.length : Int) ≤ mostA x.kind ∧ risC 0 x.clients = true
instance (x : Acct) : Decidable (okAAc x) := by unfold okAAc; infer_instance
def unitsA (x : Acct) : List Un := if x.kind = 1 then [⟨x.id, 0⟩] else x.clients.map (fun c => ⟨x.id, c⟩)
def okAV (x : AcctV) : Bool := decide (okAAc (lgA x))
def ofA (l : List AcctV) (mem : Int) : List AcctV := l.filter (fun x => x.member == mem)
/- The code of the first of some units that has none. No program in sight. -/
def firstC (f : Un → Int) : List Un → Int
 | [] => 0
 | u :: us => if f u = 0 then firstC f us else f u
theorem firstC_step {f : Un → Int} {u : Un} {us : List Un} (h : f u = 0) : firstC f (u :: us) = firstC f us := by
 show (if f u = 0 then firstC f us else f u) = _
 rw [if_pos h]
theorem firstC_stop {f : Un → Int} {u : Un} {us : List Un} (h : f u ≠ 0) : firstC f (u :: us) = f u := by
 show (if f u = 0 then firstC f us else f u) = _
 rw [if_neg h]
/- Purses, plain: which flows are one, what each unit has, which units are named, what any purse is behind any flows. No program in sight. -/
structure Flow where
 unit : Un
 amount : Int
 deriving DecidableEq
def encFlow (x : Flow) : List Value := [.int .i64 x.unit.acc, .int .i64 x.unit.cli, .int .i64 x.amount]
def okFlow (x : Flow) : Prop := In64 x.unit.acc ∧ In64 x.unit.cli ∧ In64 x.amount
def okP (r : List Int) : Bool := !(r.headD 0 == 0)
def lgF (x : Flow) : Row Int := ⟨x.unit, [x.amount]⟩
def isPu (l : List Flow) : Bool := isK okP (l.map lgF)
def getPu (l : List Flow) (u : Un) : Int := (ofK (l.map lgF) u).headD 0
theorem getPu_hit {x : Flow} {t : List Flow} {u : Un} (h : x.unit = u) : getPu (x :: t) u = x.amount := by
 unfold getPu
 rw [List.map_cons, ofK, if_pos (show (lgF x).unit = u from h)]; rfl
theorem getPu_miss {x : Flow} {t : List Flow} {u : Un} (h : x.unit ≠ u) : getPu (x :: t) u = getPu t u := by
 unfold getPu
 rw [List.map_cons, ofK, if_neg (show ¬ (lgF x).unit = u from h)]
theorem getPu_in {l : List Flow} (h : ∀ x ∈ l, In64 x.amount) (u : Un) : In64 (getPu l u) := by
 induction l with
 | nil => simp [getPu, ofK, In64]
 | cons x t ih =>
  by_cases hx : x.unit = u
  ·rw [getPu_hit hx]; exact h x (List.mem_cons_self ..)
  ·rw [getPu_miss hx]; exact ih fun y hy => h y (List.mem_cons_of_mem _ hy)
/- Members: the type, what is found, tables. -/
structure Mb where
 id : Int
 cap : Int
 phase : Int
 til : Int
 deriving DecidableEq
def encMb (x : Mb) : List Value := [.int .i64 x.id, .int .i64 x.cap, .int .i64 x.phase, .int .i64 x.til]
def okMb (x : Mb) : Prop := In64 x.id ∧ In64 x.cap ∧ In64 x.phase ∧ In64 x.til
theorem rowsMb (l : List Mb) : ∀ r ∈ l.map encMb, r.length = 4 ∧ ∀ u ∈ r, u.oneCell' = true := by
 intro r hr
 obtain ⟨m, _, rfl⟩ := List.mem_map.1 hr
 refine ⟨rfl, ?_⟩
 simp only [encMb, List.mem_cons, List.not_mem_nil, or_false, forall_eq_or_imp, forall_eq]
 exact ⟨rfl, rfl, rfl, rfl⟩
theorem elMb : Elem Tryz.prog 22 49 4 32 := elem_of Tryz.underlying22 (z := .agg #[.int .i64 0, .int .i64 0, .int .i64 0, .int .i64 0]) (by kernel_rfl) rfl (by omega)
def findMb (l : List Mb) (id : Int) : Mb × Bool := match l.find? (fun m => m.id == id) with | some m => (m, true) | none => (⟨0, 0, 0, 0⟩, false)
theorem findMb_hit {l : List Mb} {id : Int} {k : Nat} (h : k < l.length) (hm : (l[k].id == id) = true) (hn : ∀ j (_ : j < l.length), j < k → (l[j].id == id) = false) : findMb l id = (l[k], true) := by
 have : l.find? (fun m => m.id == id) = some l[k] := by
  rw [List.find?_eq_some_iff_getElem]
  exact ⟨hm, k, h, rfl, fun j hj => by simp [hn j (by omega) hj]⟩
 simp [findMb, this]
theorem findMb_miss {l : List Mb} {id : Int} (hn : ∀ j (_ : j < l.length), (l[j].id == id) = false) : findMb l id = (⟨0, 0, 0, 0⟩, false) := by
 have : l.find? (fun m => m.id == id) = none := by
  rw [List.find?_eq_none]
  intro x hx
  obtain ⟨j, hj, rfl⟩ := List.mem_iff_getElem.1 hx
  simp [hn j hj]
 simp [findMb, this]
def okMbr (m : Mb) : Prop := 1 ≤ m.id ∧ m.id ≤ 8 ∧ 0 ≤ m.cap ∧ m.cap ≤ 4611686018427387904 ∧ 0 ≤ m.phase ∧ m.phase ≤ 3 ∧ 0 ≤ m.til ∧ m.til ≤ 2097152
instance (m : Mb) : Decidable (okMbr m) := by unfold okMbr; infer_instance
/- Units: contracts of acct.Less, the reference's Less. -/
theorem acctLess (a b : Un) (w : World) :
  Calls Tryz.prog 161 #[.agg #[.int .i64 a.acc, .int .i64 a.cli], .agg #[.int .i64 b.acc, .int .i64 b.cli]] w fun e w' => e = .returned (.bool (lessU a b)) ∧ Below w.heap.size w w' := by
 cases he : (a.acc == b.acc)
 ·have hne : (a.acc != b.acc) = true := by simp only [bne, he]; rfl
  have HE := hid (show lessU a b = decide (a.acc < b.acc) from by unfold lessU; rw [he]; simp)
  go_enter Tryz.func161, Tryz.ntmps161
  go_wp2_with fail
  go_ret
  exact ⟨by rw [HE.out]; rfl, tB⟩
 ·have hne : (a.acc != b.acc) = false := by simp only [bne, he]; rfl
  have heq : a.acc = b.acc := by simpa using he
  have HE := hid (show lessU a b = decide (a.cli < b.cli) from by unfold lessU; rw [he]; simp [heq])
  clear heq
  go_enter Tryz.func161, Tryz.ntmps161
  go_wp2_with fail
  go_ret
  exact ⟨by rw [HE.out]; rfl, tB⟩
theorem ref15Less (a b : Un) (w : World) :
  Calls Tryz.prog 57 #[.agg #[.int .i64 a.acc, .int .i64 a.cli], .agg #[.int .i64 b.acc, .int .i64 b.cli]] w fun e w' => e = .returned (.bool (lessU a b)) ∧ Below w.heap.size w w' := by
 by_cases h1 : a.acc < b.acc
 ·have d1 := decide_eq_true h1
  have HE := hid (show lessU a b = true from by unfold lessU; simp [h1])
  go_enter Tryz.func57, Tryz.ntmps57
  go_wp2_with fail
  go_ret
  exact ⟨by rw [HE.out]; rfl, tB⟩
 ·have d1 := decide_eq_false h1
  cases he : (a.acc == b.acc)
  ·have HE := hid (show lessU a b = false from by unfold lessU; rw [he, d1]; rfl)
   go_enter Tryz.func57, Tryz.ntmps57
   go_wp2_with fail
   go_ret
   exact ⟨by rw [HE.out]; rfl, tB⟩
  ·have HE := hid (show lessU a b = decide (a.cli < b.cli) from by unfold lessU; rw [he, d1]; simp)
   go_enter Tryz.func57, Tryz.ntmps57
   go_wp2_with fail
   go_ret
   exact ⟨by rw [HE.out]; rfl, tB⟩
/- Units as elements of a row. -/
theorem elUn : Elem Tryz.prog 39 60 2 16 := elem_of Tryz.underlying39 (z := .agg #[.int .i64 0, .int .i64 0]) (by kernel_rfl) rfl (by omega)
/- Accounts: contracts of acct.most, Check, Units, Has, Less. -/
theorem elAcctV : Elem Tryz.prog 25 54 4 48 := elem_of Tryz.underlying25 (z := .agg #[.int .i64 0, .int .i64 0, .int .i64 0, .slice none 0 0]) (by kernel_rfl) rfl (by omega)
theorem elN : Elem Tryz.prog 52 3 1 8 := elem_of Tryz.underlying52 (z := .int .i64 0) (by kernel_rfl) rfl (by omega)
theorem rd_lit {w : World} {b : Nat} {u v : Value} (hb : b < w.heap.size) (h0 : w.cell? ⟨b, 0, none⟩ = some u) (h1 : w.cell? ⟨b, 1, none⟩ = some v) : Rs w 2 [[u, v]] (some ⟨b, 0, none⟩) 1 := by
 refine ⟨fun i r hr => ?_, by simp, by unfold maxLen; omega, fun h => by cases h⟩
 match i, hr with
 | 0, hr =>
  simp at hr
  subst hr
  refine ⟨b, 0, rfl, hb, fun j z hz => ?_⟩
  match j with
  | 0 => simp at hz; subst hz; simpa using h0
  | 1 => simp at hz; subst hz; simpa using h1
  | j + 2 => simp at hz
theorem acctUnits (x : Acct) (A : Option Addr) (c : Nat) (w : World) (hl : x.clients.length ≤ 1048576) (hr : Rd w A 1 (x.clients.map encI)) :
  Calls Tryz.prog 112 #[.agg #[.int .i64 x.id, .int .i64 x.member, .int .i64 x.kind, .slice A x.clients.length c]] w fun e w' => ∃ v, e = .returned v ∧ IsSl 2 encUn w' v (unitsA x) ∧ Below w.heap.size w w' := by
 have HR := hid hr
 clear hr
 by_cases hk1 : x.kind = 1
 ·have b1 : (x.kind == 1) = true := by simpa using hk1
  have HU := hid (show unitsA x = [⟨x.id, 0⟩] from if_pos hk1)
  clear hk1
  go_enter Tryz.func112, Tryz.ntmps112
  go_wp2_with (fail)
  go_ret
  refine ⟨_, rfl, ?_, tB⟩
  rw [HU.out]
  exact ⟨_, _, rfl, rd_lit (by simp) (by simp [go_sem]) (by simp [go_sem])⟩
 ·have b1 : (x.kind == 1) = false := by simpa using hk1
  have HU := hid (show unitsA x = x.clients.map (fun c => ⟨x.id, c⟩) from if_neg hk1)
  clear hk1
  go_enter Tryz.func112, Tryz.ntmps112
  go_wp2_with (fail)
  go_loopw [3, 16] (fun v i wr => ∃ k : Nat, k ≤ x.clients.length ∧ i = .int .i64 k ∧ Own wr (w.heap.size + 1) 60 2 v (((x.clients.take k).map (fun c => (⟨x.id, c⟩ : Un))).map encUn) ∧ Below w.heap.size w wr ∧ w.heap.size < wr.heap.size ∧ wr.cell? ⟨w.heap.size, 0, none⟩ = some (.int .i64 x.id)) (fun _ i _ => x.clients.length - (intOf i).toNat)
  case atStart => exact ⟨0, Nat.zero_le _, rfl, Own.nil _ _ _ _, tB, by simp, by simp [go_sem]⟩
  case round =>
   obtain ⟨k, hk, rfl, hown, hbl, hsz, h0⟩ := hrel
   have Hown := hid hown
   have Hbl := hid hbl
   have hz := hbl.size
   clear hown hbl
   by_cases hlt : k < x.clients.length
   ·have kl : (k : Int) < (x.clients.length : Int) := by omega
    have dl : decide ((k : Int) < (x.clients.length : Int)) = true := by simpa using hlt
    obtain ⟨b, o, rfl, hb, hc⟩ := HR.out k (encI x.clients[k]) (by simp [hlt])
    have e0 := tC Hbl hb (hc 0 _ rfl)
    simp only [Nat.add_zero, Nat.mul_one] at e0
    have HS := hid (map_snoc hlt (fun c => (⟨x.id, c⟩ : Un)))
    clear hc
    go_wp2_with (first | (at_builtin; refine wpList_app rfl _ _ _ rfl elUn (w.heap.size + 1) _ _ rfl (Hown.out.alloc _) (some ⟨_, 0, none⟩) 1 1 rfl [encUn ⟨x.id, x.clients[k]⟩] rfl (fun h => by cases h) (rd_oneN (by simp)) (rowsUn [⟨x.id, x.clients[k]⟩]) (by unfold maxLen; exact tE) tE tZ ?_; intro v3 w3 hown3 hb3) | fail)
    go_roundw
    case rel => exact ⟨k + 1, by omega, by go_num, by rw [HS.out, List.map_append]; exact hown3, (Hbl.out.alloc hz _).trans (hb3.mono (by omega)), by have := hb3.size; simp at this; omega, by rw [hb3.cell (p := ⟨w.heap.size, 0, none⟩) (by simp)]; simp [go_sem, h0, hsz, ↓IntWalk.iteOmega]⟩
    case measure => simp [intOf]; omega
   ·have dl : decide ((k : Int) < (x.clients.length : Int)) = false := by simpa using hlt
    have HT := hid (show x.clients.take k = x.clients from List.take_of_length_le (by omega))
    go_wp2_with (fail)
    go_ret
    refine ⟨_, rfl, ?_, Hbl.out⟩
    rw [HU.out]
    have := Hown.out
    rw [HT.out] at this
    exact this.isSl
/- Accounts: contracts of acct.Has, slices.Index, BinarySearch of whole numbers, Clone, Insert. -/
theorem un_test {x u : Un} : x = u ∨ ((x.acc == u.acc) = false) ∨ ((x.cli == u.cli) = false) := by
 by_cases h : x = u
 ·exact .inl h
 ·exact .inr (neqUn h)
theorem unIndex (l : List Un) (u : Un) (A : Option Addr) (c : Nat) (w : World) (hl : l.length ≤ 1099511627776) (hr : Rd w A 2 (l.map encUn)) :
  Calls Tryz.prog 168 #[.slice A l.length c, .agg #[.int .i64 u.acc, .int .i64 u.cli]] w fun e w' => e = .returned (.int .i64 (idxOf (fun x : Un => decide (u = x)) l)) ∧ Below w.heap.size w w' := by
 have HR := hid hr
 clear hr
 go_enter Tryz.func168, Tryz.ntmps168
 go_wp2_with fail
 go_loopw [8] (fun i wr => ∃ k : Nat, k ≤ l.length ∧ i = .int .i64 k ∧ Below w.heap.size w wr ∧ w.heap.size < wr.heap.size ∧ (wr.cell? ⟨w.heap.size, 0, none⟩ = some (.int .i64 u.acc) ∧ wr.cell? ⟨w.heap.size, 1, none⟩ = some (.int .i64 u.cli)) ∧ ∀ j (_ : j < l.length), j < k → (fun x : Un => decide (u = x)) l[j] = false) (fun i _ => l.length - (intOf i).toNat)
 case atStart => exact ⟨0, Nat.zero_le _, rfl, tB, by simp, by simp [go_sem], fun j _ h => absurd h (by omega)⟩
 case round =>
  obtain ⟨k, hk, rfl, hbl, hsz, ⟨g0, g1⟩, hno⟩ := hrel
  have Hbl := hid hbl
  have Hno := hid hno
  have hz := hbl.size
  clear hbl hno
  by_cases hlt : k < l.length
  ·have kl : (k : Int) < (l.length : Int) := by omega
   have dl := @dT k l.length hlt
   obtain ⟨b, o, rfl, hb, hc⟩ := HR.out k (encUn l[k]) (by simp [hlt])
   have c0 := tC Hbl hb (hc 0 _ rfl)
   have c1 := tC Hbl hb (hc 1 _ rfl)
   simp only [Nat.add_zero] at c0
   clear hc
   rcases un_test (x := u) (u := l[k]) with he | he | he
   ·have hi := idx_hit (p := fun x : Un => decide (u = x)) hlt (by simpa using he) Hno.out
    have Hi := hid hi
    rw [← he] at c0 c1
    clear hi he
    go_wp2_with fail
    go_quiet (fail)
    go_wp2_with fail
    go_ret
    exact ⟨by rw [Hi.out]; rfl, by have hbl := Hbl.out; exact tB⟩
   all_goals
    have Hm := hid (decide_eq_false (show ¬ u = l[k] from by intro e; rw [e] at he; simp at he))
    go_wp2_with fail
    go_quiet (fail)
    go_wp2_with fail
    go_roundw
    case rel => exact ⟨k + 1, by omega, by go_num, by have hbl := Hbl.out; exact tB, by simpa using hsz, by simp [go_sem, g0, g1], fun j hj h => by
     rcases Nat.lt_or_ge j k with h1 | h1
     ·exact Hno.out j hj h1
     ·obtain rfl : j = k := by omega
      exact Hm.out⟩
    case measure => simp [intOf]; omega
  ·have dl := @dF k l.length hlt
   have hi := idx_miss (p := fun x : Un => decide (u = x)) (l := l) (fun j hj => Hno.out j hj (by omega))
   have Hi := hid hi
   clear hi
   go_wp2_with fail
   go_ret
   exact ⟨by rw [Hi.out]; rfl, Hbl.out⟩
theorem idx_un (l : List Un) (u : Un) : decide (0 ≤ idxOf (fun x : Un => decide (u = x)) l) = decide (u ∈ l) := by
 unfold idxOf
 cases h : l.findIdx? (fun x : Un => decide (u = x)) with
 | none =>
  rw [List.findIdx?_eq_none_iff] at h
  have : ¬ u ∈ l := fun hu => by have := h u hu; simp at this
  simp [this]
 | some k =>
  rw [List.findIdx?_eq_some_iff_getElem] at h
  obtain ⟨hk, h1, _⟩ := h
  have : u ∈ l := by
   have e : u = l[k] := by simpa using h1
   rw [e]; exact List.getElem_mem hk
  simp [this]
theorem unContains (l : List Un) (u : Un) (A : Option Addr) (c : Nat) (w : World) (hl : l.length ≤ 1099511627776) (hr : Rd w A 2 (l.map encUn)) :
  Calls Tryz.prog 139 #[.slice A l.length c, .agg #[.int .i64 u.acc, .int .i64 u.cli]] w fun e w' => e = .returned (.bool (decide (u ∈ l))) ∧ Below w.heap.size w w' := by
 have HR := hid hr
 have HI := hid (idx_un l u)
 clear hr
 go_enter Tryz.func139, Tryz.ntmps139
 go_wp2_with (go_at_call 168; (with_reducible refine cM (unIndex l u A c _ hl (HR.out.keep tB)) fun w1 hb1 fc1 fg1 hc1 hf1 hz1 => ?_); try simp at hz1)
 go_ret
 exact ⟨by rw [← HI.out]; rfl, tB⟩
theorem natsClone (l : List Int) (A : Option Addr) (c : Nat) (w : World) (hl : l.length ≤ 1099511627776) (hr : Rs w 1 (l.map encI) A c) :
  Calls Tryz.prog 167 #[.slice A l.length c] w fun e w' => ∃ v, e = .returned v ∧ Own w' w.heap.size 3 1 v (l.map encI) ∧ Below w.heap.size w w' := by
 have Hr := hid hr
 have hnil := fun W : World => Lib.run_eql_slice_nil (P := Tryz.prog) W 52 3 A l.length c 0 0 Tryz.underlying52
 rcases A with _ | ad
 ·have hl0 : l = [] := List.map_eq_nil_iff.1 hr.nilrows
  have hc0 : c = 0 := hr.nil rfl
  subst hl0 hc0
  simp only [List.length_nil] at hnil ⊢
  clear hr
  go_enter Tryz.func167, Tryz.ntmps167
  go_wp2_with fail
  go_ret
  exact ⟨_, rfl, Own.nil _ _ _ _, tB⟩
 ·clear hr
  go_enter Tryz.func167, Tryz.ntmps167
  go_wp2_with (at_builtin; refine wpList_app rfl _ _ _ rfl elN w.heap.size _ [] rfl (Own.made w (Nat.le_refl _)) (some ad) l.length c rfl (l.map encI) (by simp) (fun h => by cases h) (Hr.out.keep ((Below.refl _ _).alloc (Nat.le_refl _) _)).rd (rowsJ l) (by unfold maxLen; simp; omega) (by simp; omega) (by simp) ?_; intro v' w3 hown3 hb3)
  go_ret
  exact ⟨v', rfl, by simpa using hown3, ((Below.refl _ _).alloc (Nat.le_refl _) _).trans hb3⟩
/- Accounts in tables: contracts of acct.own, copied, place, Find. -/
theorem acctOwn (x : AcctV) (w : World) (hl : x.clients.val.length ≤ 1048576) (hg : Rs w 1 (x.clients.val.map encI) x.clients.A x.clients.c) :
  Calls Tryz.prog 137 #[.agg #[.int .i64 x.id, .int .i64 x.member, .int .i64 x.kind, .slice x.clients.A x.clients.val.length x.clients.c]] w fun e w' => ∃ s : SlOf _, s.val = x.clients.val ∧ e = .returned (.agg #[.int .i64 x.id, .int .i64 x.member, .int .i64 x.kind, .slice s.A s.val.length s.c]) ∧ Own w' w.heap.size 3 1 (.slice s.A s.val.length s.c) (s.val.map encI) ∧ Below w.heap.size w w' := by
 have HG := hid hg
 clear hg
 go_enter Tryz.func137, Tryz.ntmps137
 go_wp2_with (first | (go_at_call 167; (with_reducible refine (natsClone x.clients.val x.clients.A x.clients.c _ (by omega) (HG.out.keep tB)).mono ?_); rintro e w3 ⟨v3, rfl, hown3, hb3⟩; obtain ⟨A3, c3, hv3, hrs3, hform3⟩ := hown3.rs; rw [List.length_map] at hv3; subst hv3; have HO3 := hid hown3; clear hown3 hrs3 hform3; obtain ⟨fc3, fg3, hc3, hf3, hz3⟩ := bget hb3; (try simp at hz3)) | fail)
 refine bodyPost_ret (v := .agg #[.int .i64 x.id, .int .i64 x.member, .int .i64 x.kind, .slice A3 x.clients.val.length c3]) (by simp [results, Tryz.results137, go_sem, hc3]; try rfl) rfl ⟨⟨A3, c3, x.clients.val⟩, rfl, rfl, ?_, ?_⟩
 ·refine Own.mono (base := w.heap.size + 2) ?_ (by omega)
  have h0 := HO3.out.mono (b := w.heap.size + 2) (by simp)
  (repeat' (first | (with_reducible assumption) | (with_reducible refine Own.farLow ?_ ?_ _) | (simp; done) | omega))
 ·exact tB
theorem acctCopied (l : List AcctV) (A : Option Addr) (c : Nat) (w : World) (hl : l.length ≤ 1000000) (hr : Rd w A 4 (l.map encAcctV)) (hg : ∀ x ∈ l, x.clients.val.length ≤ 1048576 ∧ Rs w 1 (x.clients.val.map encI) x.clients.A x.clients.c) :
  Calls Tryz.prog 105 #[.slice A l.length c] w fun e w' => ∃ (v : Value) (ys : List AcctV), e = .returned v ∧ ys.map lgA = l.map lgA ∧ Own w' w.heap.size 54 4 v (ys.map encAcctV) ∧ (∀ y ∈ ys, Own w' w.heap.size 3 1 (.slice y.clients.A y.clients.val.length y.clients.c) (y.clients.val.map encI)) ∧ Below w.heap.size w w' := by
 have HR := hid hr
 have HG := hid hg
 clear hr hg
 go_enter Tryz.func105, Tryz.ntmps105
 go_wp2_with fail
 go_loopw [3, 8] (fun v i wr => ∃ (k : Nat) (ys : List AcctV), k ≤ l.length ∧ i = .int .i64 k ∧ ys.map lgA = (l.take k).map lgA ∧ Own wr w.heap.size 54 4 v (ys.map encAcctV) ∧ (∀ y ∈ ys, Own wr w.heap.size 3 1 (.slice y.clients.A y.clients.val.length y.clients.c) (y.clients.val.map encI)) ∧ Below w.heap.size w wr) (fun _ i _ => l.length - (intOf i).toNat)
 case atStart => exact ⟨0, [], Nat.zero_le _, rfl, rfl, Own.nil _ _ _ _, fun y hy => absurd hy (by simp), Below.refl _ _⟩
 case round =>
  obtain ⟨k, ys, hk, rfl, hlg, hown, hgd, hbl⟩ := hrel
  have Hlg := hid hlg
  have Hown := hid hown
  have Hgd := hid hgd
  have Hbl := hid hbl
  have hz := hbl.size
  have hyl : ys.length = k := by have := congrArg List.length hlg; simp only [List.length_map, List.length_take] at this; omega
  clear hlg hown hgd hbl
  by_cases hlt : k < l.length
  ·have hki : (k : Int) < (l.length : Int) := by omega
   have dl := @dT k l.length hlt
   have hx := HG.out l[k] (List.getElem_mem hlt)
   have HX := hid (fun W (h : Below w.heap.size w W) => acctOwn l[k] W hx.1 (hx.2.keep h))
   clear hx
   obtain ⟨b, o, rfl, hb, hc⟩ := HR.out k (encAcctV l[k]) (by simp [hlt])
   have e0 := tC Hbl hb (hc 0 _ rfl)
   have e1 := tC Hbl hb (hc 1 _ rfl)
   have e2 := tC Hbl hb (hc 2 _ rfl)
   have e3 := tC Hbl hb (hc 3 _ rfl)
   simp only [Nat.add_zero] at e0
   clear hc
   have HM := hid (show (l.take (k + 1)).map lgA = (l.take k).map lgA ++ [lgA l[k]] from map_snoc hlt _)
   go_wp2_with (first | (go_at_call 137; (with_reducible refine (HX.out _ (by have hbl := Hbl.out; exact tB)).mono ?_); rintro e w1 ⟨s, hs, rfl, hown1, hb1⟩; have Hs := hid hs; have Hown1 := hid hown1; have Hb1 := hid hb1; have hz1 := hb1.size; (try simp at hz1); clear hown1 hb1 hs) | (at_builtin; refine wpList_appG rfl _ _ _ rfl elAcctV w.heap.size _ _ rfl (((Hown.out.alloc _).keep Hb1.out).alloc _) ⟨w1.heap.size, 0, none⟩ 1 1 rfl [encAcctV { l[k] with clients := s }] rfl rd_one (rowsAcctV [_]) (by unfold maxLen; simp; omega) (by simp; omega) (by simp; omega) ?_; intro v2 w2 hown2 hb2 hg2; have Hown2 := hid hown2; have Hb2 := hid hb2; have Hg2 := hid hg2; have hz2 := hb2.size; (try simp at hz2); clear hown2 hb2 hg2) | fail)
   go_roundw
   case rel =>
    have haw : Away 54 w1 w2 := (Away.below ((Below.refl _ _).alloc (Nat.le_refl _) _)).trans (Away.grown Hg2.out (Own.typed (((Hown.out.alloc _).keep Hb1.out).alloc _)))
    have ha1 : Away 54 wr w1 := (Away.below ((Below.refl _ _).alloc (Nat.le_refl _) _)).trans (Away.below Hb1.out)
    refine ⟨k + 1, ys ++ [{ l[k] with clients := s }], by omega, by go_num, ?_, ?_, ?_, ?_⟩
    ·rw [HM.out, List.map_append, Hlg.out]
     congr 1
     simp only [List.map_cons, List.map_nil, lgA, Hs.out]
    ·rw [List.map_append]; exact Hown2.out
    ·intro y hy
     rcases List.mem_append.1 hy with h | h
     ·exact (Hgd.out y h).away (ha1.trans haw) (by decide)
     ·rw [List.mem_singleton] at h
      subst h
      exact ((Hown1.out.mono (by simp; omega)).away haw (by decide))
    ·have hbl := Hbl.out
     have hb1 := Hb1.out
     have hb2 := Hb2.out
     exact tB
   case measure => simp [intOf]; omega
  ·have dl := @dF k l.length hlt
   have HM := hid (show l.take k = l from List.take_of_length_le (by omega))
   go_wp2_with fail
   go_ret
   exact ⟨_, ys, rfl, by rw [Hlg.out, HM.out], Hown.out, Hgd.out, Hbl.out⟩
/- Accounts in tables: contracts of acct.Find, Put. -/
theorem own_put4 {w : World} {base E : Nat} {v : Value} {rows : List (List Value)} (h : Own w base E 4 v rows) {g n c : Nat} (hv : v = .slice (some ⟨g, 0, none⟩) n c) {i : Nat} (hi : i < rows.length) (v0 v1 v2 v3 : Value) :
  Own ((((w.setCell ⟨g, i * 4, none⟩ v0).setCell ⟨g, i * 4 + 1, none⟩ v1).setCell ⟨g, i * 4 + 2, none⟩ v2).setCell ⟨g, i * 4 + 3, none⟩ v3) base E 4 v (rows.set i [v0, v1, v2, v3]) := by
 have hr := h.1 _ (List.getElem_mem hi)
 obtain ⟨p0, p1, p2, p3, he⟩ : ∃ p0 p1 p2 p3, rows[i] = [p0, p1, p2, p3] := by
  match h4 : rows[i], hr with
  | [p0, p1, p2, p3], _ => exact ⟨p0, p1, p2, p3, rfl⟩
 have h0 := h.put hv (List.getElem?_eq_getElem hi) (show 0 < 4 from by omega) v0
 have h1 := h0.put hv (List.getElem?_set_self (by simpa using hi)) (show 1 < 4 from by omega) v1
 have h2 := h1.put hv (List.getElem?_set_self (by simpa using hi)) (show 2 < 4 from by omega) v2
 have h3 := h2.put hv (List.getElem?_set_self (by simpa using hi)) (show 3 < 4 from by omega) v3
 simp only [List.set_set, he, List.set_cons_zero, List.set_cons_succ, Nat.add_zero] at h3
 exact h3
/- Accounts in tables: contracts of acct.Set, Of, Owner, Less. -/
theorem acctOfFn (x : AcctV) (mem : Int) (g : Nat) (w : World) (hcap : CapC w g [.int .i64 mem]) :
  Calls Tryz.prog 106 #[.agg #[.int .i64 x.id, .int .i64 x.member, .int .i64 x.kind, .slice x.clients.A x.clients.val.length x.clients.c], .pointer (some ⟨g, 0, none⟩)] w fun e w' => e = .returned (.bool (x.member != mem)) ∧ Below w.heap.size w w' := by
 have h0 := hcap.2 0 _ rfl
 have hg := hcap.1
 clear hcap
 go_enter Tryz.func106, Tryz.ntmps106
 go_wp2_with fail
 go_ret
 exact ⟨rfl, tB⟩
theorem acctOfIdx (l : List AcctV) (mem : Int) (A : Option Addr) (c g : Nat) (w : World) (hl : l.length ≤ 1099511627776) (hr : Rd w A 4 (l.map encAcctV)) (hcap : CapC w g [.int .i64 mem]) :
  Calls Tryz.prog 136 #[.slice A l.length c, .func (Fn.func 106) #[] #[.pointer (some ⟨g, 0, none⟩)]] w fun e w' => e = .returned (.int .i64 (idxOf (fun x : AcctV => x.member != mem) l)) ∧ Below w.heap.size w w' := by
 have Hr := hid hr
 have H0 := hid hcap
 clear hr hcap
 go_enter Tryz.func136, Tryz.ntmps136
 go_wp2_with fail
 go_loopw [8] (fun i wr => ∃ k : Nat, k ≤ l.length ∧ i = .int .i64 k ∧ Below w.heap.size w wr ∧ ∀ j (_ : j < l.length), j < k → (fun x : AcctV => x.member != mem) l[j] = false) (fun i _ => l.length - (intOf i).toNat)
 case atStart => exact ⟨0, Nat.zero_le _, rfl, Below.refl _ _, fun j _ h => absurd h (by omega)⟩
 case round =>
  obtain ⟨k, hk, rfl, hbl, hno⟩ := hrel
  have Hbl := hid hbl
  have Hno := hid hno
  have hz := hbl.size
  clear hbl hno
  by_cases hlt : k < l.length
  ·obtain ⟨b, o, rfl, hb, hc⟩ := Hr.out k (encAcctV l[k]) (by simp [hlt])
   have c0 := tC Hbl hb (hc 0 _ rfl)
   have c1 := tC Hbl hb (hc 1 _ rfl)
   have c2 := tC Hbl hb (hc 2 _ rfl)
   have c3 := tC Hbl hb (hc 3 _ rfl)
   have H0' := hid (H0.out.keep Hbl.out)
   simp only [Nat.add_zero] at c0
   clear hc
   cases hm : (fun x : AcctV => x.member != mem) l[k]
   ·have Hm := hid hm
    clear hm
    go_wp2_with (go_at_call 106; (with_reducible refine (acctOfFn l[k] mem g _ (H0'.out.keep tB)).mono ?_); rw [Hm.out]; rintro e w1 ⟨rfl, hb1⟩; have hz1 := hb1.size; have Hb1 := hid hb1; clear hb1)
    go_roundw
    case rel => exact ⟨k + 1, by omega, by go_num, Hbl.out.trans (Hb1.out.mono tZ), fun j hj h => by
     rcases Nat.lt_or_ge j k with h1 | h1
     ·exact Hno.out j hj h1
     ·obtain rfl : j = k := by omega
      exact Hm.out⟩
    case measure => simp [intOf]; omega
   ·have hi := idx_hit (p := fun x : AcctV => x.member != mem) hlt hm Hno.out
    have Hi := hid hi
    have Hm := hid hm
    clear hm hi
    go_wp2_with (go_at_call 106; (with_reducible refine (acctOfFn l[k] mem g _ (H0'.out.keep tB)).mono ?_); rw [Hm.out]; rintro e w1 ⟨rfl, hb1⟩; have hz1 := hb1.size; have Hb1 := hid hb1; clear hb1)
    go_ret
    exact ⟨by rw [Hi.out]; rfl, Hbl.out.trans (Hb1.out.mono tZ)⟩
  ·have hi := idx_miss (p := fun x : AcctV => x.member != mem) (l := l) (fun j hj => Hno.out j hj (by omega))
   have Hi := hid hi
   clear hi
   go_wp2_with fail
   go_ret
   exact ⟨by rw [Hi.out]; rfl, Hbl.out⟩
theorem zone_AcctV (z : Value) (h : (Tryz.prog.info? 54).bind (·.zero) = some z) : ∀ u ∈ z.cells, u.oneCell' = true := by
 have e : (Tryz.prog.info? 54).bind (·.zero) = some (.agg #[.int .i64 0, .int .i64 0, .int .i64 0, .slice none 0 0]) := by kernel_rfl
 rw [h] at e
 injection e with e
 subst e
 simp [Value.cells]
 decide
theorem acctOfDel (l : List AcctV) (mem : Int) (v : Value) (base g : Nat) (w : World) (hl : l.length ≤ 1048576) (hbs : base ≤ w.heap.size) (hown : Own w base 54 4 v (l.map encAcctV)) (hcap : CapC w g [.int .i64 mem]) (hgb : g < base) :
  Calls Tryz.prog 104 #[v, .func (Fn.func 106) #[] #[.pointer (some ⟨g, 0, none⟩)]] w fun e w' => ∃ v', e = .returned v' ∧ Own w' base 54 4 v' ((l.filter (fun x : AcctV => !x.member != mem)).map encAcctV) ∧ Below base w w' ∧ Away 54 w w' := by
 have HOWN := hid hown
 have HC := hid hcap
 obtain ⟨A, c, hv0, hrs, hform⟩ := hown.rs
 have hcc := hrs.cap
 have hroom := hrs.room
 rw [List.length_map] at hv0 hcc
 unfold maxLen at hroom
 subst hv0
 have HRD := hid hrs.rd
 have c1 := fun W h hc => acctOfIdx l mem A c g W (by omega) h hc
 clear hown hcap hrs
 rcases idxCases (fun x : AcctV => x.member != mem) l with ⟨k, hk, hm, hn, he⟩ | ⟨hn, he⟩
 rotate_left
 ·have HF := hid (show l.filter (fun x : AcctV => !x.member != mem) = l from by
   rw [List.filter_eq_self]
   intro x hx
   obtain ⟨j, hj, rfl⟩ := List.mem_iff_getElem.1 hx
   have h3 : (fun x : AcctV => x.member != mem) l[j] = false := hn j hj
   show (!((fun x : AcctV => x.member != mem) l[j])) = true
   rw [h3]; rfl)
  rw [he] at c1
  have C1 := hid c1
  clear c1 he hn hform
  go_enter Tryz.func104, Tryz.ntmps104
  go_wp2_with (go_at_call 136; (with_reducible refine (C1.out _ HRD.out HC.out).mono ?_); rintro e w1 ⟨rfl, hb1⟩)
  go_ret
  exact ⟨_, rfl, by rw [HF.out]; exact HOWN.out.keep hb1, hb1.mono hbs, Away.below hb1⟩
 rw [he] at c1
 have C1 := hid c1
 have HM := hid hm
 have HN := hid hn
 obtain ⟨g0, rfl, hg0, hg1⟩ : ∃ g0, A = some ⟨g0, 0, none⟩ ∧ base ≤ g0 ∧ g0 < w.heap.size := by
  rcases hform with ⟨_, h2, _⟩ | h
  ·exfalso; have := congrArg List.length h2; simp at this; rw [this] at hk; simp at hk
  ·exact h
 have kb : ((k : Int) == -1) = false := by rw [beq_eq_false_iff_ne]; omega
 clear c1 hform hn he hm
 go_enter Tryz.func104, Tryz.ntmps104
 go_wp2_with (go_at_call 136; (with_reducible refine (C1.out _ HRD.out HC.out).mono ?_); rintro e w1 ⟨rfl, hb1⟩; have hz1 := hb1.size; have Hb1 := hid hb1; clear hb1)
 go_loopw [5, 6] (fun i j wr => ∃ (n m : Nat) (rows : List (List Value)), n ≤ l.length ∧ m < n ∧ j = .int .i64 n ∧ i = .int .i64 m ∧ Own wr base 54 4 (.slice (some ⟨g0, 0, none⟩) l.length c) rows ∧ rows.take m = ((l.take n).filter (fun x : AcctV => !x.member != mem)).map encAcctV ∧ rows.drop n = (l.drop n).map encAcctV ∧ Below base w wr ∧ Away 54 w wr) (fun _ j _ => l.length - (intOf j).toNat)
 case atStart =>
  have hft : (l.take (k + 1)).filter (fun x : AcctV => !x.member != mem) = l.take k := by
   rw [List.take_succ_eq_append_getElem hk, List.filter_append]
   have h1 : (l.take k).filter (fun x : AcctV => !x.member != mem) = l.take k := by
    rw [List.filter_eq_self]
    intro x hx
    obtain ⟨j, hj, rfl⟩ := List.mem_iff_getElem.1 hx
    rw [List.length_take] at hj
    have h3 : (fun x : AcctV => x.member != mem) l[j] = false := HN.out j (by omega) (by omega)
    show (!((fun x : AcctV => x.member != mem) (l.take k)[j])) = true
    rw [List.getElem_take, h3]; rfl
   have h2 : (fun x : AcctV => x.member != mem) l[k] = true := HM.out
   rw [h1, List.filter_cons]
   simp [h2]
  exact ⟨k + 1, k, l.map encAcctV, by omega, by omega, by go_num, rfl, HOWN.out.keep Hb1.out, by rw [hft, List.map_take], by rw [List.map_drop], Hb1.out.mono hbs, Away.below Hb1.out⟩
 case round =>
  obtain ⟨n, m, rows, hn, hmn, rfl, rfl, hown, htk, hdr, hbl, haw⟩ := hrel
  have Haw := hid haw
  have HT5 := hid hown.typed
  clear haw
  have Hown := hid hown
  have Htk := hid htk
  have Hdr := hid hdr
  have Hbl := hid hbl
  have hz := hbl.size
  have hrl := hown.rd.2.1
  have hrl2 : rows.length ≤ l.length ∧ l.length ≤ rows.length := by omega
  have ml : (m : Int) < (l.length : Int) := by omega
  have HCr := hid (HC.out.low hgb hbl)
  obtain ⟨cur, hblk⟩ := hown.blk rfl
  have fz := fun i => hblk.frozen i
  have hg0l := hblk.lt
  clear hown htk hdr hbl hrl hblk
  by_cases hlt : n < l.length
  ·have hrow : rows[n]? = some (encAcctV l[n]) := by
    have := congrArg (fun z => z[0]?) Hdr.out
    simpa [List.getElem?_drop, hlt] using this
   obtain ⟨b, o, e, hb, hc⟩ := (Hown.out.rd).1 n _ hrow
   injection e with e
   injection e with e1 e2 _
   subst e1 e2
   have c0 := hc 0 _ rfl
   have c1 := hc 1 _ rfl
   have c2 := hc 2 _ rfl
   have c3 := hc 3 _ rfl
   simp only [Nat.add_zero, Nat.zero_add] at c0 c1 c2 c3
   have HS := hid (show (l.take (n + 1)).filter (fun x : AcctV => !x.member != mem) = (l.take n).filter (fun x : AcctV => !x.member != mem) ++ [l[n]].filter (fun x : AcctV => !x.member != mem) from by rw [List.take_succ_eq_append_getElem hlt, List.filter_append])
   have HD1 := hid (show rows.drop (n + 1) = (l.drop (n + 1)).map encAcctV from by
    have := congrArg (List.drop 1) Hdr.out
    rw [List.drop_drop, ← List.map_drop, List.drop_drop] at this; exact this)
   clear hc hrow
   cases hm : (fun x : AcctV => x.member != mem) l[n]
   ·have HF1 := hid (show [l[n]].filter (fun x : AcctV => !x.member != mem) = [l[n]] from by have h2 := hm; simp at h2; simp [h2])
    have Hm := hid hm
    have hmr : m < rows.length := by omega
    have HPU := hid (fun W (h : Own W base 54 4 (.slice (some ⟨g0, 0, none⟩) l.length c) rows) => own_put4 h rfl hmr (.int .i64 l[n].id) (.int .i64 l[n].member) (.int .i64 l[n].kind) (.slice l[n].clients.A l[n].clients.val.length l[n].clients.c))
    have hr5 := Hown.out.1 _ (List.getElem_mem hmr)
    obtain ⟨p0, p1, p2, p3, he5⟩ : ∃ p0 p1 p2 p3, rows[m] = [p0, p1, p2, p3] := by
     match h4 : rows[m], hr5 with
     | [p0, p1, p2, p3], _ => exact ⟨p0, p1, p2, p3, rfl⟩
    obtain ⟨b5, o5, e5, _, hcm⟩ := (Hown.out.rd).1 m [p0, p1, p2, p3] (by rw [List.getElem?_eq_getElem hmr, he5])
    injection e5 with e5
    injection e5 with e1 e2 _
    subst e1 e2
    have d0 := hcm 0 _ rfl
    have d1 := hcm 1 _ rfl
    have d2 := hcm 2 _ rfl
    have d3 := hcm 3 _ rfl
    simp only [Nat.add_zero, Nat.zero_add] at d0 d1 d2 d3
    clear hm hcm he5 hr5
    go_wp2_with (go_at_call 106; (with_reducible refine (acctOfFn l[n] mem g _ (HCr.out.keep tB)).mono ?_); rw [Hm.out]; rintro e w2 ⟨rfl, hb2⟩; obtain ⟨fc2, fg2, hc2, hf2, hz2⟩ := bget hb2; (try simp at hz2); have Hb2 := hid hb2; clear hb2)
    go_roundw
    case rel =>
     refine ⟨n + 1, m + 1, rows.set m (encAcctV l[n]), by omega, by omega, by go_num, by go_num, ?_, ?_, ?_, ?_, ?_⟩
     ·exact HPU.out _ ((Hown.out.alloc _).keep Hb2.out)
     ·rw [HS.out, HF1.out, List.map_append, ← Htk.out, List.take_succ_eq_append_getElem (by rw [List.length_set]; exact hmr), List.getElem_set_self, List.take_set_of_le (Nat.le_refl _)]
      rfl
     ·rw [List.drop_set_of_lt (by omega)]; exact HD1.out
     ·have hbl := Hbl.out; have hb2 := Hb2.out; exact tB
     ·refine Haw.out.trans ?_
      (repeat' (refine Away.setTy (p := ⟨g0, _, none⟩) ?_ (HT5.out g0 rfl) _))
      exact (Away.below ((Below.refl _ _).alloc (Nat.le_refl _) _)).trans (Away.below Hb2.out)
    case measure => simp [intOf]; omega
   ·have HF1 := hid (show [l[n]].filter (fun x : AcctV => !x.member != mem) = [] from by have h2 := hm; simp at h2; simp [h2])
    have Hm := hid hm
    clear hm
    go_wp2_with (go_at_call 106; (with_reducible refine (acctOfFn l[n] mem g _ (HCr.out.keep tB)).mono ?_); rw [Hm.out]; rintro e w2 ⟨rfl, hb2⟩; have hz2 := hb2.size; have Hb2 := hid hb2; clear hb2)
    go_roundw
    case rel => exact ⟨n + 1, m, rows, by omega, by omega, by go_num, rfl, (Hown.out.alloc _).keep Hb2.out, by rw [HS.out, HF1.out, List.append_nil]; exact Htk.out, HD1.out, by have hbl := Hbl.out; have hb2 := Hb2.out; exact tB, Haw.out.trans ((Away.below ((Below.refl _ _).alloc (Nat.le_refl _) _)).trans (Away.below Hb2.out))⟩
    case measure => simp [intOf]; omega
  ·have HT := hid (show l.take n = l from List.take_of_length_le (by omega))
   have d1 : decide ((n : Int) < (l.length : Int)) = false := by simp; omega
   have cm : ¬ c = m := by omega
   have cm' : ¬ m = c := by omega
   have z1 := hid (fun (z : Value) (h : (Tryz.prog.info? 54).bind (·.zero) = some z) => zone_AcctV z h)
   go_wp2_with (refine wpList_clearR rfl _ _ rfl elAcctV z1.out (base := base) (g := g0) (n := l.length) (c := c) (i := m) rfl (fun _ => rfl) rfl (by omega) Hown.out ?_; intro w3 hown3 ho3; have HO3 := hid hown3; have Ho3 := hid ho3; clear hown3 ho3)
   go_ret
   exact ⟨_, rfl, by rw [← HT.out, ← Htk.out]; exact HO3.out, below_only Hbl.out Ho3.out (by omega) hg0, Haw.out.trans (Away.only Ho3.out (HT5.out _ rfl))⟩
theorem cap1Ac {w : World} {g : Nat} {u : Value} (hg : g < w.heap.size) (h0 : w.cell? ⟨g, 0, none⟩ = some u) : CapC w g [u] := by
 refine ⟨hg, fun j v hv => ?_⟩
 match j with
 | 0 => simp at hv; subst hv; exact h0
 | j + 1 => simp at hv
def AcctPost1 (w : World) (L : List Acct) (e : Ending) (w' : World) : Prop :=
 ∃ (v : Value) (ys : List AcctV), e = .returned v ∧ ys.map lgA = L ∧ Own w' w.heap.size 54 4 v (ys.map encAcctV) ∧ (∀ y ∈ ys, Rs w' 1 (y.clients.val.map encI) y.clients.A y.clients.c) ∧ Below w.heap.size w w'
theorem filter_lg {ys l : List AcctV} (h : ys.map lgA = l.map lgA) (mem : Int) : (ys.filter (fun x => !(x.member != mem))).map lgA = (ofA l mem).map lgA := by
 have e : ∀ z : List AcctV, (z.filter (fun x => !(x.member != mem))).map lgA = (z.map lgA).filter (fun a => a.member == mem) := fun z => by
  rw [List.filter_map]
  congr 1
  apply List.filter_congr
  intro x _
  simp [bne, lgA]
 have e2 : (ofA l mem).map lgA = (l.map lgA).filter (fun a => a.member == mem) := by
  unfold ofA
  rw [List.filter_map]; rfl
 rw [e, e2, h]
theorem acctOf (l : List AcctV) (mem : Int) (A : Option Addr) (c : Nat) (w : World) (hl : l.length ≤ 900000) (hr : Rs w 4 (l.map encAcctV) A c) (hg : ∀ x ∈ l, x.clients.val.length ≤ 1048576 ∧ GoodA w x) :
  Calls Tryz.prog 70 #[.slice A l.length c, .int .i64 mem] w (AcctPost1 w ((ofA l mem).map lgA)) := by
 have HR := hid hr
 have HG := hid (fun W (h : Below w.heap.size w W) => acctCopied l A c W (by omega) (HR.out.rd.keep h) (fun x hx => ⟨(hg x hx).1, (hg x hx).2.keep h⟩))
 clear hr hg
 go_enter Tryz.func70, Tryz.ntmps70
 go_wp2_with (first | (go_at_call 105; (with_reducible refine (HG.out _ tB).mono ?_); rintro e w3 ⟨v3, ys, rfl, hlg3, hown3, hys3, hb3⟩; have HYL := hid (show ys.length = l.length from by have := congrArg List.length hlg3; simpa using this); have HL3 := hid hlg3; have HO3 := hid hown3; have HY3 := hid hys3; clear hown3 hlg3 hys3; obtain ⟨fc3, fg3, hc3, hf3, hz3⟩ := bget hb3; (try simp at hz3)) | (go_at_call 104; (with_reducible refine (acctOfDel ys mem v3 (w.heap.size + 1) w.heap.size _ (by rw [HYL.out]; omega) (by omega) ?_ (cap1Ac ?_ ?_) (by omega)).mono ?_); (focus (exact HO3.out.mono (by simp))); (focus (first | omega | (simp; done) | (simp; omega))); (focus (simp [hc3, go_sem]; done)); rintro e w4 ⟨v4, rfl, hown4, hb4, haw4⟩; have HO4 := hid hown4; have HA4 := hid haw4; clear hown4 haw4; have Hb4 := hid hb4; clear hb4) | fail)
 go_ret
 refine ⟨_, ys.filter (fun x => !(x.member != mem)), rfl, filter_lg HL3.out mem, HO4.out.mono (by omega), fun y hy => ?_, ?_⟩
 ·exact Own.good ((HY3.out y (List.mem_filter.1 hy).1).away HA4.out (by decide))
 ·have hb4 := Hb4.out
  exact tB
end Go.Proofs.YtalgfpegaobacaaGreatDoor
