/- Joined. -/
import Derived.Test.YtalgfpegaobacaaGreatDoorQz11
import Derived.Test.YtalgfpegaobacaaGreatDoorQz13
import Derived.Test.YtalgfpegaobacaaGreatDoorQz14
namespace Go.Proofs.YtalgfpegaobacaaGreatDoor
set_option linter.all false
set_option maxHeartbeats 8000000
set_option maxRecDepth 100000
open Go.RowKit
open Lib (hid)
/- What lots are worth, and count, plain. -/
def vC (E : Asset → Int → Int) (ats : List Asset) : List Lot → Int
 | [] => 0
 | x :: t => if (findAsset ats x.asset).2 then (if E (findAsset ats x.asset).1 x.qty = 0 then vC E ats t else E (findAsset ats x.asset).1 x.qty) else 11
def vL (F : Asset → Int → Int) (ats : List Asset) (l : List Lot) : List Int := l.map fun x => F (findAsset ats x.asset).1 x.qty
def vaC (E : Asset → Int → Int) (ats : List Asset) (l : List Lot) : Int := if isL l then vC E ats l else 3
def vaL (E F : Asset → Int → Int) (ats : List Asset) (l : List Lot) : List Int := if vaC E ats l = 0 then vL F ats l else []
def valC (ats : List Asset) (l : List Lot) (cash : Int) : Int := if vaC countE ats l = 0 then sum64C (vL countN ats l ++ [cash]) else vaC countE ats l
def valN (ats : List Asset) (l : List Lot) (cash : Int) : Int := if vaC countE ats l = 0 then sum64N (vL countN ats l ++ [cash]) else 0
theorem vC_none {E : Asset → Int → Int} {ats : List Asset} {x : Lot} {t : List Lot} (h : (findAsset ats x.asset).2 = false) : vC E ats (x :: t) = 11 := by
 unfold vC; rw [h]; rfl
theorem vC_bad {E : Asset → Int → Int} {ats : List Asset} {x : Lot} {t : List Lot} (h : (findAsset ats x.asset).2 = true) (h2 : E (findAsset ats x.asset).1 x.qty ≠ 0) : vC E ats (x :: t) = E (findAsset ats x.asset).1 x.qty := by
 unfold vC; rw [h, if_pos rfl, if_neg h2]
theorem vC_step {E : Asset → Int → Int} {ats : List Asset} {x : Lot} {t : List Lot} (h : (findAsset ats x.asset).2 = true) (h2 : E (findAsset ats x.asset).1 x.qty = 0) : vC E ats (x :: t) = vC E ats t := by
 show (if (findAsset ats x.asset).2 then (if E (findAsset ats x.asset).1 x.qty = 0 then vC E ats t else E (findAsset ats x.asset).1 x.qty) else 11) = _
 rw [h, if_pos rfl, if_pos h2]
theorem countN64 (x : Asset) (q : Int) : In64 (countN x q) := by
 unfold countN
 split
 ·rename_i h
  have h1 := count_le h.1 h.2.1
  have h2 := in64_iff.1 h.2.2
  unfold In64 at *
  omega
 ·unfold In64; omega
theorem vL_len (F : Asset → Int → Int) (ats : List Asset) (l : List Lot) : (vL F ats l).length = l.length := by unfold vL; simp
theorem vL64 {F : Asset → Int → Int} (hF : ∀ x q, In64 (F x q)) (ats : List Asset) (l : List Lot) : ∀ z ∈ vL F ats l, In64 z := by
 intro z hz
 obtain ⟨x, _, rfl⟩ := List.mem_map.1 hz
 exact hF _ _
/- Instruments in tables: the reference's Find, Put, Table. -/
structure InstV where
 id : Int
 mult : Int
 price : Int
 next : Int
 moves : SlOf Int
 deriving DecidableEq
def encInstV (x : InstV) : List Value := [.int .i64 x.id, .int .i64 x.mult, .int .i64 x.price, .int .i64 x.next, .slice x.moves.A x.moves.val.length x.moves.c]
theorem rowsInstV (l : List InstV) : ∀ r ∈ l.map encInstV, r.length = 5 ∧ ∀ u ∈ r, u.oneCell' = true := by
 intro r hr
 obtain ⟨m, _, rfl⟩ := List.mem_map.1 hr
 refine ⟨rfl, ?_⟩
 simp only [encInstV, List.mem_cons, List.not_mem_nil, or_false, forall_eq_or_imp, forall_eq]
 exact ⟨rfl, rfl, rfl, rfl, rfl⟩
theorem elInstV : Elem Tryz.prog 23 58 5 56 := elem_of Tryz.underlying23 (z := .agg #[.int .i64 0, .int .i64 0, .int .i64 0, .int .i64 0, .slice none 0 0]) (by kernel_rfl) rfl (by omega)
def findInstV (l : List InstV) (id : Int) : InstV × Bool := match l.find? (fun m => m.id == id) with | some m => (m, true) | none => (⟨0, 0, 0, 0, ⟨none, 0, []⟩⟩, false)
theorem findInstV_hit {l : List InstV} {id : Int} {k : Nat} (h : k < l.length) (hm : (l[k].id == id) = true) (hn : ∀ j (_ : j < l.length), j < k → (l[j].id == id) = false) : findInstV l id = (l[k], true) := by
 have : l.find? (fun m => m.id == id) = some l[k] := by
  rw [List.find?_eq_some_iff_getElem]
  exact ⟨hm, k, h, rfl, fun j hj => by simp [hn j (by omega) hj]⟩
 simp [findInstV, this]
theorem findInstV_miss {l : List InstV} {id : Int} (hn : ∀ j (_ : j < l.length), (l[j].id == id) = false) : findInstV l id = (⟨0, 0, 0, 0, ⟨none, 0, []⟩⟩, false) := by
 have : l.find? (fun m => m.id == id) = none := by
  rw [List.find?_eq_none]
  intro x hx
  obtain ⟨j, hj, rfl⟩ := List.mem_iff_getElem.1 hx
  simp [hn j hj]
 simp [findInstV, this]
def lgI (x : InstV) : Inst := ⟨x.id, x.mult, x.price, x.next, x.moves.val⟩
def GoodI (w : World) (x : InstV) : Prop := Rs w 1 (x.moves.val.map encI) x.moves.A x.moves.c
theorem GoodI.keep {w w' : World} {x : InstV} (h : GoodI w x) (hb : Below w.heap.size w w') : GoodI w' x := Rs.keep h hb
def okV (x : InstV) : Bool := decide (okI (lgI x))
theorem ref13IsV (x : InstV) (w : World) (hl : x.moves.val.length ≤ 1099511627776) (hg : GoodI w x) :
  Calls Tryz.prog 50 #[.agg #[.int .i64 x.id, .int .i64 x.mult, .int .i64 x.price, .int .i64 x.next, .slice x.moves.A x.moves.val.length x.moves.c]] w fun e w' => e = .returned (.bool (okV x)) ∧ Below w.heap.size w w' :=
 ref13Is (lgI x) x.moves.A x.moves.c w hl hg.rd
theorem ref13Find (l : List InstV) (id : Int) (A : Option Addr) (c : Nat) (w : World) (hl : l.length ≤ 1099511627776) (hr : Rd w A 5 (l.map encInstV)) :
  Calls Tryz.prog 91 #[.slice A l.length c, .int .i64 id] w fun e w' => e = .returned (.tuple #[.agg #[.int .i64 (findInstV l id).1.id, .int .i64 (findInstV l id).1.mult, .int .i64 (findInstV l id).1.price, .int .i64 (findInstV l id).1.next, .slice (findInstV l id).1.moves.A (findInstV l id).1.moves.val.length (findInstV l id).1.moves.c], .bool (findInstV l id).2]) ∧ Below w.heap.size w w' := by
 have Hr := hid hr
 clear hr
 go_enter Tryz.func91, Tryz.ntmps91
 go_wp2_with fail
 go_loopw [6] (fun i wr => ∃ k : Nat, k ≤ l.length ∧ i = .int .i64 k ∧ Below w.heap.size w wr ∧ (wr.cell? ⟨w.heap.size, 0, none⟩ = some (.int .i64 0) ∧ wr.cell? ⟨w.heap.size, 1, none⟩ = some (.int .i64 0) ∧ wr.cell? ⟨w.heap.size, 2, none⟩ = some (.int .i64 0) ∧ wr.cell? ⟨w.heap.size, 3, none⟩ = some (.int .i64 0) ∧ wr.cell? ⟨w.heap.size, 4, none⟩ = some (.slice none 0 0) ∧ wr.frozen? ⟨w.heap.size, 0, none⟩ = false ∧ wr.frozen? ⟨w.heap.size, 1, none⟩ = false ∧ wr.frozen? ⟨w.heap.size, 2, none⟩ = false ∧ wr.frozen? ⟨w.heap.size, 3, none⟩ = false ∧ wr.frozen? ⟨w.heap.size, 4, none⟩ = false) ∧ ∀ j (_ : j < l.length), j < k → (l[j].id == id) = false) (fun i _ => l.length - (intOf i).toNat)
 case atStart => exact ⟨0, Nat.zero_le _, rfl, tB, by simp [go_sem], fun j _ h => absurd h (by omega)⟩
 case round =>
  obtain ⟨k, hk, rfl, hbl, ⟨g0, g1, g2, g3, g4, f0, f1, f2, f3, f4⟩, hno⟩ := hrel
  have Hbl := hid hbl
  have Hno := hid hno
  have hz := hbl.size
  clear hbl hno
  by_cases hlt : k < l.length
  ·obtain ⟨b, o, rfl, hb, hc⟩ := Hr.out k (encInstV l[k]) (by simp [hlt])
   have c0 := tC Hbl hb (hc 0 _ rfl)
   have c1 := tC Hbl hb (hc 1 _ rfl)
   have c2 := tC Hbl hb (hc 2 _ rfl)
   have c3 := tC Hbl hb (hc 3 _ rfl)
   have c4 := tC Hbl hb (hc 4 _ rfl)
   simp only [Nat.add_zero] at c0
   clear hc
   cases hm : (l[k].id == id)
   ·have Hm := hid hm
    go_wp2_with fail
    go_roundw
    case rel => exact ⟨k + 1, by omega, by go_num, Hbl.out, ⟨g0, g1, g2, g3, g4, f0, f1, f2, f3, f4⟩, fun j hj h => by
     rcases Nat.lt_or_ge j k with h1 | h1
     ·exact Hno.out j hj h1
     ·obtain rfl : j = k := by omega
      exact Hm.out⟩
    case measure => simp [intOf]; omega
   ·have hi := findInstV_hit hlt hm Hno.out
    have Hi := hid hi
    clear hi
    go_wp2_with fail
    rw [Hi.out]
    have hbl := Hbl.out
    refine bodyPost_ret (by simp [results, Tryz.results91, go_sem, g0, g1, g2, g3, g4]; try rfl) rfl ⟨rfl, ?_⟩
    exact tB
  ·have hi := findInstV_miss (l := l) (fun j hj => Hno.out j hj (by omega))
   have Hi := hid hi
   clear hi
   go_wp2_with fail
   rw [Hi.out]
   have hbl := Hbl.out
   refine bodyPost_ret (by simp [results, Tryz.results91, go_sem, g0, g1, g2, g3, g4]; try rfl) rfl ⟨rfl, ?_⟩
   exact tB
/- Instruments in tables: contracts of inst.own, copied, at. -/
theorem elJ : Elem Tryz.prog 56 2 1 8 := elem_of Tryz.underlying56 (z := .int .i64 0) (by kernel_rfl) rfl (by omega)
theorem intsClone (l : List Int) (A : Option Addr) (c : Nat) (w : World) (hl : l.length ≤ 1099511627776) (hr : Rs w 1 (l.map encI) A c) :
  Calls Tryz.prog 231 #[.slice A l.length c] w fun e w' => ∃ v, e = .returned v ∧ Own w' w.heap.size 2 1 v (l.map encI) ∧ Below w.heap.size w w' := by
 have Hr := hid hr
 have hnil := fun W : World => Lib.run_eql_slice_nil (P := Tryz.prog) W 56 2 A l.length c 0 0 Tryz.underlying56
 rcases A with _ | ad
 ·have hl0 : l = [] := List.map_eq_nil_iff.1 hr.nilrows
  have hc0 : c = 0 := hr.nil rfl
  subst hl0 hc0
  simp only [List.length_nil] at hnil ⊢
  clear hr
  go_enter Tryz.func231, Tryz.ntmps231
  go_wp2_with fail
  go_ret
  exact ⟨_, rfl, Own.nil _ _ _ _, tB⟩
 ·clear hr
  go_enter Tryz.func231, Tryz.ntmps231
  go_wp2_with (at_builtin; refine wpList_app rfl _ _ _ rfl elJ w.heap.size _ [] rfl (Own.made w (Nat.le_refl _)) (some ad) l.length c rfl (l.map encI) (by simp) (fun h => by cases h) (Hr.out.keep ((Below.refl _ _).alloc (Nat.le_refl _) _)).rd (rowsJ l) (by unfold maxLen; simp; omega) (by simp; omega) (by simp) ?_; intro v' w3 hown3 hb3)
  go_ret
  exact ⟨v', rfl, by simpa using hown3, ((Below.refl _ _).alloc (Nat.le_refl _) _).trans hb3⟩
theorem instOwn (x : InstV) (w : World) (hl : x.moves.val.length ≤ 1048576) (hg : Rs w 1 (x.moves.val.map encI) x.moves.A x.moves.c) :
  Calls Tryz.prog 219 #[.agg #[.int .i64 x.id, .int .i64 x.mult, .int .i64 x.price, .int .i64 x.next, .slice x.moves.A x.moves.val.length x.moves.c]] w fun e w' => ∃ s : SlOf _, s.val = x.moves.val ∧ e = .returned (.agg #[.int .i64 x.id, .int .i64 x.mult, .int .i64 x.price, .int .i64 x.next, .slice s.A s.val.length s.c]) ∧ Own w' w.heap.size 2 1 (.slice s.A s.val.length s.c) (s.val.map encI) ∧ Below w.heap.size w w' := by
 have HG := hid hg
 clear hg
 go_enter Tryz.func219, Tryz.ntmps219
 go_wp2_with (first | (go_at_call 231; (with_reducible refine (intsClone x.moves.val x.moves.A x.moves.c _ (by omega) (HG.out.keep tB)).mono ?_); rintro e w3 ⟨v3, rfl, hown3, hb3⟩; obtain ⟨A3, c3, hv3, hrs3, hform3⟩ := hown3.rs; rw [List.length_map] at hv3; subst hv3; have HO3 := hid hown3; clear hown3 hrs3 hform3; obtain ⟨fc3, fg3, hc3, hf3, hz3⟩ := bget hb3; (try simp at hz3)) | fail)
 refine bodyPost_ret (v := .agg #[.int .i64 x.id, .int .i64 x.mult, .int .i64 x.price, .int .i64 x.next, .slice A3 x.moves.val.length c3]) (by simp [results, Tryz.results219, go_sem, hc3]; try rfl) rfl ⟨⟨A3, c3, x.moves.val⟩, rfl, rfl, ?_, ?_⟩
 ·refine Own.mono (base := w.heap.size + 2) ?_ (by omega)
  have h0 := HO3.out.mono (b := w.heap.size + 2) (by simp)
  (repeat' (first | (with_reducible assumption) | (with_reducible refine Own.farLow ?_ ?_ _) | (simp; done) | omega))
 ·exact tB
/- Instruments in tables: contracts of inst.at, Find, Put. -/
theorem instAtFn (x : InstV) (id : Int) (g : Nat) (w : World) (hcap : CapC w g [.int .i64 id]) :
  Calls Tryz.prog 230 #[.agg #[.int .i64 x.id, .int .i64 x.mult, .int .i64 x.price, .int .i64 x.next, .slice x.moves.A x.moves.val.length x.moves.c], .pointer (some ⟨g, 0, none⟩)] w fun e w' => e = .returned (.bool (x.id == id)) ∧ Below w.heap.size w w' := by
 have h0 := hcap.2 0 _ rfl
 have hg := hcap.1
 clear hcap
 go_enter Tryz.func230, Tryz.ntmps230
 go_wp2_with fail
 go_ret
 exact ⟨rfl, tB⟩
theorem instAtIdx (l : List InstV) (id : Int) (A : Option Addr) (c g : Nat) (w : World) (hl : l.length ≤ 1099511627776) (hr : Rd w A 5 (l.map encInstV)) (hcap : CapC w g [.int .i64 id]) :
  Calls Tryz.prog 229 #[.slice A l.length c, .func (Fn.func 230) #[] #[.pointer (some ⟨g, 0, none⟩)]] w fun e w' => e = .returned (.int .i64 (idxOf (fun x : InstV => x.id == id) l)) ∧ Below w.heap.size w w' := by
 have Hr := hid hr
 have H0 := hid hcap
 clear hr hcap
 go_enter Tryz.func229, Tryz.ntmps229
 go_wp2_with fail
 go_loopw [8] (fun i wr => ∃ k : Nat, k ≤ l.length ∧ i = .int .i64 k ∧ Below w.heap.size w wr ∧ ∀ j (_ : j < l.length), j < k → (fun x : InstV => x.id == id) l[j] = false) (fun i _ => l.length - (intOf i).toNat)
 case atStart => exact ⟨0, Nat.zero_le _, rfl, Below.refl _ _, fun j _ h => absurd h (by omega)⟩
 case round =>
  obtain ⟨k, hk, rfl, hbl, hno⟩ := hrel
  have Hbl := hid hbl
  have Hno := hid hno
  have hz := hbl.size
  clear hbl hno
  by_cases hlt : k < l.length
  ·obtain ⟨b, o, rfl, hb, hc⟩ := Hr.out k (encInstV l[k]) (by simp [hlt])
   have c0 := tC Hbl hb (hc 0 _ rfl)
   have c1 := tC Hbl hb (hc 1 _ rfl)
   have c2 := tC Hbl hb (hc 2 _ rfl)
   have c3 := tC Hbl hb (hc 3 _ rfl)
   have c4 := tC Hbl hb (hc 4 _ rfl)
   have H0' := hid (H0.out.keep Hbl.out)
   simp only [Nat.add_zero] at c0
   clear hc
   cases hm : (fun x : InstV => x.id == id) l[k]
   ·have Hm := hid hm
    clear hm
    go_wp2_with (go_at_call 230; (with_reducible refine (instAtFn l[k] id g _ (H0'.out.keep tB)).mono ?_); rw [Hm.out]; rintro e w1 ⟨rfl, hb1⟩; have hz1 := hb1.size; have Hb1 := hid hb1; clear hb1)
    go_roundw
    case rel => exact ⟨k + 1, by omega, by go_num, Hbl.out.trans (Hb1.out.mono tZ), fun j hj h => by
     rcases Nat.lt_or_ge j k with h1 | h1
     ·exact Hno.out j hj h1
     ·obtain rfl : j = k := by omega
      exact Hm.out⟩
    case measure => simp [intOf]; omega
   ·have hi := idx_hit (p := fun x : InstV => x.id == id) hlt hm Hno.out
    have Hi := hid hi
    have Hm := hid hm
    clear hm hi
    go_wp2_with (go_at_call 230; (with_reducible refine (instAtFn l[k] id g _ (H0'.out.keep tB)).mono ?_); rw [Hm.out]; rintro e w1 ⟨rfl, hb1⟩; have hz1 := hb1.size; have Hb1 := hid hb1; clear hb1)
    go_ret
    exact ⟨by rw [Hi.out]; rfl, Hbl.out.trans (Hb1.out.mono tZ)⟩
  ·have hi := idx_miss (p := fun x : InstV => x.id == id) (l := l) (fun j hj => Hno.out j hj (by omega))
   have Hi := hid hi
   clear hi
   go_wp2_with fail
   go_ret
   exact ⟨by rw [Hi.out]; rfl, Hbl.out⟩
theorem cap1 {w : World} {g : Nat} {u : Value} (hg : g < w.heap.size) (h0 : w.cell? ⟨g, 0, none⟩ = some u) : CapC w g [u] := by
 refine ⟨hg, fun j v hv => ?_⟩
 match j with
 | 0 => simp at hv; subst hv; exact h0
 | j + 1 => simp at hv
theorem instAt (l : List InstV) (id : Int) (A : Option Addr) (c : Nat) (w : World) (hl : l.length ≤ 1099511627776) (hr : Rd w A 5 (l.map encInstV)) :
  Calls Tryz.prog 218 #[.slice A l.length c, .int .i64 id] w fun e w' => e = .returned (.int .i64 (idxOf (fun x : InstV => x.id == id) l)) ∧ Below w.heap.size w w' := by
 have Hr := hid hr
 clear hr
 go_enter Tryz.func218, Tryz.ntmps218
 go_wp2_with (first | (go_at_call 229; (with_reducible refine (instAtIdx l id A c _ _ hl (Hr.out.keep tB) (cap1 ?_ ?_)).mono ?_); (focus (simp; done)); (focus (first | (simp [go_sem]; done) | (simp [go_sem, ↓IntWalk.iteOmega]; done))); rintro e w1 ⟨rfl, hb1⟩) | fail)
 go_ret
 exact ⟨rfl, tB⟩
theorem idx_findV (l : List InstV) (id : Int) : (∃ k, ∃ h : k < l.length, (l[k].id == id) = true ∧ (∀ j (_ : j < l.length), j < k → (l[j].id == id) = false) ∧ idxOf (fun x : InstV => x.id == id) l = k ∧ findInstV l id = (l[k], true)) ∨ ((∀ j (_ : j < l.length), (l[j].id == id) = false) ∧ idxOf (fun x : InstV => x.id == id) l = -1 ∧ findInstV l id = (⟨0, 0, 0, 0, ⟨none, 0, []⟩⟩, false)) := by
 rcases idxCases (fun x : InstV => x.id == id) l with ⟨k, hk, hm, hn, he⟩ | ⟨hn, he⟩
 ·exact .inl ⟨k, hk, hm, hn, he, findInstV_hit hk hm hn⟩
 ·exact .inr ⟨hn, he, findInstV_miss hn⟩
theorem instFind (l : List InstV) (id : Int) (A : Option Addr) (c : Nat) (w : World) (hl : l.length ≤ 1000000) (hr : Rd w A 5 (l.map encInstV)) (hg : ∀ x ∈ l, x.moves.val.length ≤ 1048576 ∧ GoodI w x) :
  Calls Tryz.prog 206 #[.slice A l.length c, .int .i64 id] w fun e w' => ∃ y : InstV, e = .returned (.tuple #[.agg #[.int .i64 y.id, .int .i64 y.mult, .int .i64 y.price, .int .i64 y.next, .slice y.moves.A y.moves.val.length y.moves.c], .bool (findInstV l id).2]) ∧ lgI y = lgI (findInstV l id).1 ∧ GoodI w' y ∧ Below w.heap.size w w' := by
 have c1 := fun W (h : Rd W A 5 (l.map encInstV)) => instAt l id A c W (by omega) h
 have HR := hid hr
 rcases idx_findV l id with ⟨k, hk, hm, hn, he, hf⟩ | ⟨hn, he, hf⟩
 ·rw [hf]
  rw [he] at c1
  have C1 := hid c1
  have kl : (k : Int) < (l.length : Int) := by omega
  have kk : decide ((k : Int) < 0) = false := by simp
  obtain ⟨b, o, rfl, hb, hc⟩ := hr k (encInstV l[k]) (by simp [hk])
  have e0 := hc 0 _ rfl
  have e1 := hc 1 _ rfl
  have e2 := hc 2 _ rfl
  have e3 := hc 3 _ rfl
  have e4 := hc 4 _ rfl
  simp only [Nat.add_zero] at e0
  have hx := hg l[k] (List.getElem_mem hk)
  have HX := hid (fun W (h : Below w.heap.size w W) => instOwn l[k] W hx.1 (hx.2.keep h))
  clear hr he hm hn hc c1 hf hg hx
  go_enter Tryz.func206, Tryz.ntmps206
  go_wp2_with (first | (go_at_call 218; (with_reducible refine cM (C1.out _ (HR.out.keep tB)) fun w1 hb1 fc1 fg1 hc1 hf1 hz1 => ?_); try simp at hz1) | (go_at_call 219; (with_reducible refine (HX.out _ tB).mono ?_); rintro e w2 ⟨s, hs, rfl, hown2, hb2⟩; have Hs := hid hs; have Hown2 := hid hown2; clear hs hown2; obtain ⟨fc2, fg2, hc2, hf2, hz2⟩ := bget hb2; (try simp at hz2)) | fail)
  refine bodyPost_ret (v := .tuple #[.agg #[.int .i64 l[k].id, .int .i64 l[k].mult, .int .i64 l[k].price, .int .i64 l[k].next, .slice s.A s.val.length s.c], .bool true]) (by simp [results, Tryz.results206, go_sem, hc2, hc1, ↓IntWalk.iteOmega]; try rfl) rfl ⟨{ l[k] with moves := s }, rfl, ?_, ?_, ?_⟩
  ·simp only [lgI, Hs.out]
  ·have h0 := Hown2.out.mono (b := w.heap.size + 1) (by omega)
   refine Own.good (base := w.heap.size + 1) (E := 2) (n := s.val.length) ?_
   (repeat' (first | (with_reducible assumption) | (with_reducible refine Own.farLow ?_ ?_ _) | (simp; done) | omega))
  ·exact tB
 ·rw [hf]
  rw [he] at c1
  have C1 := hid c1
  clear hr he hn c1 hf hg
  go_enter Tryz.func206, Tryz.ntmps206
  go_wp2_with (go_at_call 218; (with_reducible refine cM (C1.out _ (HR.out.keep tB)) fun w1 hb1 fc1 fg1 hc1 hf1 hz1 => ?_); try simp at hz1)
  refine bodyPost_ret (v := .tuple #[.agg #[.int .i64 0, .int .i64 0, .int .i64 0, .int .i64 0, .slice none 0 0], .bool false]) (by simp [results, Tryz.results206, go_sem, hc1]; try rfl) rfl ⟨⟨0, 0, 0, 0, ⟨none, 0, []⟩⟩, rfl, rfl, Rs.empty _ _, ?_⟩
  exact tB
/- Contracts of cover.values, Value, Worth. -/
theorem elIv : Elem Tryz.prog 56 2 1 8 := elem_of Tryz.underlying56 (z := .int .i64 0) (by kernel_rfl) rfl (by omega)
theorem rowsIv (l : List Int) : ∀ r ∈ l.map encI, r.length = 1 ∧ ∀ u ∈ r, u.oneCell' = true := by
 intro r hr
 obtain ⟨m, _, rfl⟩ := List.mem_map.1 hr
 exact ⟨rfl, by simp [encI]; rfl⟩
def ValsPost (w : World) (L : List Int) (code : Int) (e : Ending) (w' : World) : Prop :=
 ∃ v, e = .returned (.tuple #[v, .int .i64 code]) ∧ Own w' w.heap.size 2 1 v (L.map encI) ∧ Below w.heap.size w w'
theorem valuesCount (ats : List Asset) (l : List Lot) (A B : Option Addr) (c d : Nat) (w : World) (ha : ats.length ≤ 1000000) (hl : l.length ≤ 1000000) (hin : ∀ y ∈ l, In64 y.qty) (hra : Rd w A 3 (ats.map encAsset)) (hr : Rd w B 3 (l.map encLot)) :
  Calls Tryz.prog 175 #[.slice A ats.length c, .slice B l.length d, .func (Fn.func 176) #[] #[]] w (ValsPost w (vaL countE countN ats l) (vaC countE ats l)) := by
 have HR := hid hr
 have HIN := hid hin
 have CF := hid (fun id W (h : Below w.heap.size w W) => assetFind ats id A c W (by omega) (hra.keep h))
 have ci := fun W (h : Below w.heap.size w W) => lotIs l B d W hl (hr.keep h)
 clear hr hin hra
 cases hi : isL l
 ·rw [hi] at ci
  have CI := hid ci
  have HC := hid (show vaC countE ats l = 3 from by unfold vaC; rw [hi]; rfl)
  have HL := hid (show vaL countE countN ats l = [] from by unfold vaL; rw [HC.out]; rfl)
  rw [HC.out, HL.out]
  clear ci hi
  go_enter Tryz.func175, Tryz.ntmps175
  go_wp2_with (first | (go_at_call 194; (with_reducible refine cM (CI.out _ tB) fun w1 hb1 fc1 fg1 hc1 hf1 hz1 => ?_); (try simp at hz1)) | fail)
  go_ret2
  exact ⟨_, rfl, Own.nil _ _ _ _, tB⟩
 rw [hi] at ci
 have CI := hid ci
 have HC := hid (show vaC countE ats l = vC countE ats l from by unfold vaC; rw [hi]; rfl)
 have HL := hid (show vaL countE countN ats l = if vC countE ats l = 0 then vL countN ats l else [] from by unfold vaL; rw [HC.out])
 generalize vaL countE countN ats l = RL at *
 generalize vaC countE ats l = RC at *
 clear ci hi
 go_enter Tryz.func175, Tryz.ntmps175
 go_wp2_with (first | (go_at_call 194; (with_reducible refine cM (CI.out _ tB) fun w1 hb1 fc1 fg1 hc1 hf1 hz1 => ?_); (try simp at hz1)) | fail)
 have Hb1 := hid hb1
 clear hc1 hf1 hb1
 go_loopw [8, 20] (fun v i wr => ∃ k : Nat, k ≤ l.length ∧ i = .int .i64 k ∧ vC countE ats l = vC countE ats (l.drop k) ∧ Own wr w.heap.size 2 1 v ((vL countN ats (l.take k)).map encI) ∧ Below w.heap.size w wr) (fun _ i _ => l.length - (intOf i).toNat)
 case atStart => exact ⟨0, Nat.zero_le _, rfl, rfl, Own.nil _ _ _ _, Hb1.out⟩
 case round =>
  obtain ⟨k, hk, rfl, hv, hown, hbl⟩ := hrel
  have HV := hid hv
  have Hown := hid hown
  have Hbl := hid hbl
  have hz := hbl.size
  clear hv hown hbl
  by_cases hlt : k < l.length
  ·have kl : (k : Int) < (l.length : Int) := by omega
   have dl := @dT k l.length hlt
   obtain ⟨b, o, rfl, hb, hc⟩ := HR.out k (encLot l[k]) (by simp [hlt])
   have e0 := tC Hbl hb (hc 0 _ rfl)
   have e1 := tC Hbl hb (hc 1 _ rfl)
   have e2 := tC Hbl hb (hc 2 _ rfl)
   simp only [Nat.add_zero] at e0
   clear hc
   have hbw : b < wr.heap.size := by omega
   have hq := HIN.out l[k] (List.getElem_mem hlt)
   have HD := hid (drop_cons' hlt)
   have HM := hid (show vL countN ats (l.take (k + 1)) = vL countN ats (l.take k) ++ [countN (findAsset ats l[k].asset).1 l[k].qty] from map_snoc hlt _)
   have hvl := vL_len countN ats (l.take k)
   have htl : (l.take k).length ≤ 1000000 := by rw [List.length_take]; omega
   have cf := CF.out l[k].asset
   have cv := fun W => assetCount (findAsset ats l[k].asset).1 l[k].qty W hq
   cases hf : (findAsset ats l[k].asset).2
   ·have HN := hid (show vC countE ats l = 11 from by rw [HV.out, HD.out]; exact vC_none hf)
    rw [hf] at cf
    generalize (findAsset ats l[k].asset).1 = y at *
    have CFK := hid cf
    clear cf cv hf HD hvl
    go_wp2_with (first | (go_at_call 195; (with_reducible refine cM (CFK.out _ (by have hbl := Hbl.out; exact tB)) fun w2 hb2 fc2 fg2 hc2 hf2 hz2 => ?_); (try simp at hz2)) | fail)
    go_ret2
    exact ⟨_, by rw [HC.out, HN.out]; rfl, by rw [HL.out, HN.out]; exact Own.nil _ _ _ _, by have hbl := Hbl.out; exact tB⟩
   rw [hf] at cf
   by_cases h0 : countE (findAsset ats l[k].asset).1 l[k].qty = 0
   ·have HN := hid (show vC countE ats l = vC countE ats (l.drop (k + 1)) from by rw [HV.out, HD.out]; exact vC_step hf h0)
    rw [h0] at cv
    clear hf h0
    generalize countN (findAsset ats l[k].asset).1 l[k].qty = n at *
    generalize (findAsset ats l[k].asset).1 = y at *
    generalize vL countN ats (l.take k) = Z at *
    have CFK := hid cf
    have CV := hid cv
    clear cf cv HD
    have hzl : (Z.map encI).length ≤ 1000000 := by rw [List.length_map]; omega
    clear hvl htl
    go_wp2_with (first | (go_at_call 195; (with_reducible refine cM (CFK.out _ (by have hbl := Hbl.out; exact tB)) fun w2 hb2 fc2 fg2 hc2 hf2 hz2 => ?_); (try simp at hz2)) | (go_at_call 176; (with_reducible refine cM (CV.out _) fun w3 hb3 fc3 fg3 hc3 hf3 hz3 => ?_); (try simp at hz3)) | (at_builtin; refine wpList_app rfl _ _ _ rfl elIv w.heap.size _ _ rfl (Hown.out.keep tB) (some ⟨_, 0, none⟩) 1 1 rfl [encI n] rfl (fun h => by cases h) (rd_oneN (by simp)) (rowsIv [n]) (by unfold maxLen; omega) (by omega) tZ ?_; intro v4 w4 hown4 hb4; obtain ⟨fc4, fg4, hc4, hf4, hz4⟩ := bget hb4; (try simp at hz4)) | fail)
    go_roundw
    case rel => exact ⟨k + 1, by omega, by go_num, HN.out, by rw [HM.out, List.map_append]; exact hown4, by have hbl := Hbl.out; exact tB⟩
    case measure => simp [intOf]; omega
   ·have HN := hid (show vC countE ats l = countE (findAsset ats l[k].asset).1 l[k].qty from by rw [HV.out, HD.out]; exact vC_bad hf h0)
    have n0 : (countE (findAsset ats l[k].asset).1 l[k].qty != 0) = true := by simpa using h0
    have n1 : (countE (findAsset ats l[k].asset).1 l[k].qty == 0) = false := by simpa using h0
    have HN0 := hid (show ¬ vC countE ats l = 0 from by rw [HN.out]; exact h0)
    clear hf h0
    generalize countE (findAsset ats l[k].asset).1 l[k].qty = code at *
    generalize countN (findAsset ats l[k].asset).1 l[k].qty = n at *
    generalize (findAsset ats l[k].asset).1 = y at *
    have CFK := hid cf
    have CV := hid cv
    clear cf cv HD hvl
    go_wp2_with (first | (go_at_call 195; (with_reducible refine cM (CFK.out _ (by have hbl := Hbl.out; exact tB)) fun w2 hb2 fc2 fg2 hc2 hf2 hz2 => ?_); (try simp at hz2)) | (go_at_call 176; (with_reducible refine cM (CV.out _) fun w3 hb3 fc3 fg3 hc3 hf3 hz3 => ?_); (try simp at hz3)) | fail)
    go_ret2
    exact ⟨_, by rw [HC.out, HN.out]; rfl, by rw [HL.out, if_neg HN0.out]; exact Own.nil _ _ _ _, by have hbl := Hbl.out; exact tB⟩
  ·have dl := @dF k l.length hlt
   have HN := hid (show vC countE ats l = 0 from by rw [HV.out, List.drop_eq_nil_of_le (by omega)]; rfl)
   have HT := hid (List.take_of_length_le (show l.length ≤ k by omega))
   go_wp2_with fail
   go_ret2
   exact ⟨_, by rw [HC.out, HN.out]; rfl, by rw [HL.out, if_pos HN.out, ← HT.out]; exact Hown.out, by have hbl := Hbl.out; exact tB⟩
theorem coverValue (ats : List Asset) (l : List Lot) (cash : Int) (A B : Option Addr) (c d : Nat) (w : World) (ha : ats.length ≤ 1000000) (hl : l.length ≤ 1000000) (hcash : In64 cash) (hin : ∀ y ∈ l, In64 y.qty) (hra : Rd w A 3 (ats.map encAsset)) (hr : Rd w B 3 (l.map encLot)) :
  Calls Tryz.prog 144 #[.slice A ats.length c, .slice B l.length d, .int .i64 cash] w fun e w' => e = .returned (.tuple #[.int .i64 (valN ats l cash), .int .i64 (valC ats l cash)]) ∧ Below w.heap.size w w' := by
 have cv := fun W (h : Below w.heap.size w W) => valuesCount ats l A B c d W ha hl hin (hra.keep h) (hr.keep h)
 clear hra hr hin
 by_cases h0 : vaC countE ats l = 0
 ·have HC := hid (show valC ats l cash = sum64C (vL countN ats l ++ [cash]) from by unfold valC; rw [if_pos h0])
  have HN := hid (show valN ats l cash = sum64N (vL countN ats l ++ [cash]) from by unfold valN; rw [if_pos h0])
  rw [HC.out, HN.out]
  rw [h0, show vaL countE countN ats l = vL countN ats l from by unfold vaL; rw [if_pos h0]] at cv
  have CS := hid (fun W A2 c2 (h : Rd W A2 1 ((vL countN ats l ++ [cash]).map encI)) => fixSum64 (vL countN ats l ++ [cash]) A2 c2 W (by rw [List.length_append, vL_len]; simp; omega) (fun z hz => by
   rcases List.mem_append.1 hz with h | h
   ·exact vL64 countN64 ats l z h
   ·rw [List.mem_singleton] at h; subst h; exact hcash) h)
  have hzl : ((vL countN ats l).map encI).length ≤ 1000000 := by rw [List.length_map, vL_len]; omega
  have CV := hid cv
  clear cv h0 HC HN
  generalize vL countN ats l = Z at *
  obtain ⟨Y, hY⟩ : ∃ Y, Y = Z ++ [cash] := ⟨_, rfl⟩
  have HYE := hid (show Z.map encI ++ [encI cash] = Y.map encI from by rw [hY, List.map_append]; rfl)
  rw [← hY] at CS ⊢
  clear hY
  go_enter Tryz.func144, Tryz.ntmps144
  go_wp2_with (first | (go_at_call 175; (with_reducible refine (CV.out _ tB).mono ?_); rintro e w1 ⟨v1, rfl, hown1, hb1⟩; have HO1 := hid hown1; clear hown1; obtain ⟨fc1, fg1, hc1, hf1, hz1⟩ := bget hb1; (try simp at hz1)) | (at_builtin; refine wpList_app rfl _ _ _ rfl elIv w.heap.size _ _ rfl ((HO1.out.mono tZ).keep tB) (some ⟨_, 0, none⟩) 1 1 rfl [encI cash] rfl (fun h => by cases h) (rd_oneN (by simp)) (rowsIv [cash]) (by unfold maxLen; omega) (by omega) tZ ?_; intro v2 w2 hown2 hb2; rw [HYE.out] at hown2; obtain ⟨A2, c2, hv2, hrs2, _⟩ := hown2.rs; (rw [List.length_map] at hv2); subst hv2; have HS2 := hid hrs2.rd; clear hown2 hrs2; obtain ⟨fc2, fg2, hc2, hf2, hz2⟩ := bget hb2; (try simp at hz2)) | (go_at_call 135; (with_reducible refine cM (CS.out _ _ _ (HS2.out.keep tB)) fun w3 hb3 fc3 fg3 hc3 hf3 hz3 => ?_); (try simp at hz3)) | fail)
  go_ret2
  exact ⟨rfl, tB⟩
 ·have HC := hid (show valC ats l cash = vaC countE ats l from by unfold valC; rw [if_neg h0])
  have HN := hid (show valN ats l cash = 0 from by unfold valN; rw [if_neg h0])
  rw [HC.out, HN.out]
  have n0 : (vaC countE ats l != 0) = true := by simpa using h0
  have n1 : (vaC countE ats l == 0) = false := by simpa using h0
  have CV := hid cv
  clear cv h0 HC HN
  generalize vaC countE ats l = code at *
  go_enter Tryz.func144, Tryz.ntmps144
  go_wp2_with (first | (go_at_call 175; (with_reducible refine (CV.out _ tB).mono ?_); rintro e w1 ⟨v1, rfl, hown1, hb1⟩; have HO1 := hid hown1; clear hown1; obtain ⟨fc1, fg1, hc1, hf1, hz1⟩ := bget hb1; (try simp at hz1)) | fail)
  go_ret2
  exact ⟨rfl, tB⟩
end Go.Proofs.YtalgfpegaobacaaGreatDoor
