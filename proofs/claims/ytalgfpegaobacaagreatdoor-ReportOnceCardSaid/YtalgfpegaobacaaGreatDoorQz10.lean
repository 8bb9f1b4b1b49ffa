/- Joined. -/
import Derived.Test.YtalgfpegaobacaaGreatDoorQz4
import Derived.Test.YtalgfpegaobacaaGreatDoorQz5
import Derived.Outline
import Derived.Deep.RegionWith
namespace Go.Proofs.YtalgfpegaobacaaGreatDoor
set_option linter.all false
set_option maxHeartbeats 4000000
set_option maxRecDepth 100000
open Go.RowKit
open Lib (hid)
/- Slices of the reference's whole numbers, read or owned. -/
def BigV (w : World) (L : Nat) (v : Value) (n : Int) : Prop := ∃ s A l c, v = .agg #[.bool s, .slice A l.length c] ∧ IsBig w n s A l c ∧ l.length ≤ L
theorem BigV.keep {w w' : World} {L : Nat} {v : Value} {n : Int} (h : BigV w L v n) (hb : Below w.heap.size w w') : BigV w' L v n := by
 obtain ⟨s, A, l, c, h1, h2, h3⟩ := h
 exact ⟨s, A, l, c, h1, h2.keep hb, h3⟩
theorem BigV.mono {w : World} {L M : Nat} {v : Value} {n : Int} (h : BigV w L v n) (hL : L ≤ M) : BigV w M v n := by
 obtain ⟨s, A, l, c, h1, h2, h3⟩ := h
 exact ⟨s, A, l, c, h1, h2, by omega⟩
theorem isBig_zero (w : World) : IsBig w 0 false none [] 0 := ⟨fun i r hr => by simp at hr, bit_nil, top_nil, rfl, by simp, by simp, rfl⟩
theorem BigV.zero (w : World) (L : Nat) : BigV w L (.agg #[.bool false, .slice none 0 0]) 0 := ⟨false, none, [], 0, rfl, isBig_zero w, by simp⟩
def BigR (w : World) (L : Nat) (r : List Value) (n : Int) : Prop := ∃ s A l c, r = [.bool s, .slice A l.length c] ∧ IsBig w n s A l c ∧ l.length ≤ L
theorem BigR.keep {w w' : World} {L : Nat} {v : List Value} {n : Int} (h : BigR w L v n) (hb : Below w.heap.size w w') : BigR w' L v n := by
 obtain ⟨s, A, l, c, h1, h2, h3⟩ := h
 exact ⟨s, A, l, c, h1, h2.keep hb, h3⟩
theorem BigR.mono {w : World} {L M : Nat} {v : List Value} {n : Int} (h : BigR w L v n) (hL : L ≤ M) : BigR w M v n := by
 obtain ⟨s, A, l, c, h1, h2, h3⟩ := h
 exact ⟨s, A, l, c, h1, h2, by omega⟩
theorem BigR.far {w : World} {L : Nat} {r : List Value} {n : Int} (h : BigR w L r n) {p : Addr} {v0 : Value} (hp : w.cell? p = some v0) (hne : ∀ k x, v0 ≠ .int k x) (u : Value) : BigR (w.setCell p u) L r n := by
 obtain ⟨s, A, l, c, h1, h2, h3⟩ := h
 exact ⟨s, A, l, c, h1, h2.far hp hne u, h3⟩
def OwnB (w : World) (base L : Nat) (v : Value) (ns : List Int) : Prop := ∃ rows, Each (BigR w L) rows ns ∧ Own w base 141 2 v rows
theorem OwnB.keep {w w' : World} {base L : Nat} {v : Value} {ns : List Int} (h : OwnB w base L v ns) (hb : Below w.heap.size w w') : OwnB w' base L v ns := by
 obtain ⟨rows, h1, h2⟩ := h
 exact ⟨rows, h1.imp fun _ _ h => h.keep hb, h2.keep hb⟩
theorem OwnB.mono {w : World} {base b L M : Nat} {v : Value} {ns : List Int} (h : OwnB w base L v ns) (hb : b ≤ base) (hL : L ≤ M) : OwnB w b M v ns := by
 obtain ⟨rows, h1, h2⟩ := h
 exact ⟨rows, h1.imp fun _ _ h => h.mono hL, h2.mono hb⟩
theorem OwnB.at {w : World} {base L : Nat} {g n c : Nat} {ns : List Int} (h : OwnB w base L (.slice (some ⟨g, 0, none⟩) n c) ns) {i : Nat} {x : Int} (hx : ns[i]? = some x) :
  ∃ s A l d, w.cell? ⟨g, i * 2, none⟩ = some (.bool s) ∧ w.cell? ⟨g, i * 2 + 1, none⟩ = some (.slice A l.length d) ∧ IsBig w x s A l d ∧ l.length ≤ L := by
 obtain ⟨rows, h1, h2⟩ := h
 obtain ⟨hi, rfl⟩ := List.getElem?_eq_some_iff.1 hx
 obtain ⟨r, hr, s, A, l, d, rfl, hB, hl⟩ := h1.get hi
 obtain ⟨b, o, hA, hb, hc⟩ := h2.rd.1 i _ hr
 injection hA with hA
 injection hA with e1 e2 _
 subst e1 e2
 have c0 := hc 0 _ rfl
 have c1 := hc 1 _ rfl
 simp only [Nat.zero_add, Nat.add_zero] at c0 c1
 exact ⟨s, A, l, d, c0, c1, hB, hl⟩
theorem OwnB.len {w : World} {base L : Nat} {A : Option Addr} {n c : Nat} {ns : List Int} (h : OwnB w base L (.slice A n c) ns) : n = ns.length ∧ n ≤ c ∧ c ≤ maxLen := by
 obtain ⟨rows, h1, h2⟩ := h
 have h3 := h2.rd
 exact ⟨h3.2.1.trans h1.len, by omega, h3.2.2.2⟩
theorem OwnB.frozen {w : World} {base L : Nat} {g n c : Nat} {ns : List Int} (h : OwnB w base L (.slice (some ⟨g, 0, none⟩) n c) ns) : (∀ i, w.frozen? ⟨g, i, none⟩ = false) ∧ base ≤ g ∧ g < w.heap.size := by
 obtain ⟨rows, h1, h2⟩ := h
 obtain ⟨cur, hk⟩ := h2.blk rfl
 have h3 := h2.block g rfl
 exact ⟨fun i => hk.frozen i, h3⟩
theorem OwnB.store {w : World} {base L M : Nat} {g n c : Nat} {ns : List Int} (h : OwnB w base L (.slice (some ⟨g, 0, none⟩) n c) ns) {i : Nat} (hi : i < ns.length) {s : Bool} {A : Option Addr} {l : List Int} {d : Nat} {x : Int} (hB : IsBig w x s A l d) (hl : l.length ≤ M) (hL : L ≤ M) :
  OwnB ((w.setCell ⟨g, i * 2, none⟩ (.bool s)).setCell ⟨g, i * 2 + 1, none⟩ (.slice A l.length d)) base M (.slice (some ⟨g, 0, none⟩) n c) (ns.set i x) := by
 obtain ⟨s0, A0, l0, d0, c0, c1, _, _⟩ := h.at (List.getElem?_eq_getElem hi)
 obtain ⟨rows, h1, h2⟩ := h
 have hi' : i < rows.length := by rw [h1.len]; exact hi
 have hr := h2.1 _ (List.getElem_mem hi')
 obtain ⟨p, q, he⟩ : ∃ p q, rows[i] = [p, q] := by
  match h4 : rows[i], hr with
  | [p, q], _ => exact ⟨p, q, rfl⟩
 have k1 := h2.put rfl (List.getElem?_eq_getElem hi') (show 0 < 2 from by omega) (.bool s)
 have k2 := k1.put rfl (List.getElem?_set_self (by simpa using hi')) (show 1 < 2 from by omega) (.slice A l.length d)
 simp only [List.set_set, he, List.set_cons_zero, List.set_cons_succ, Nat.add_zero] at k2
 have c1' : (w.setCell ⟨g, i * 2, none⟩ (.bool s)).cell? ⟨g, i * 2 + 1, none⟩ = some (.slice A0 l0.length d0) := by
  rw [World.cell?_setCell_other _ _ _ _ (by intro e; injection e with _ e _; omega)]; exact c1
 refine ⟨_, ⟨by rw [List.length_set, List.length_set, h1.len], fun j a b ha hb => ?_⟩, k2⟩
 rw [List.getElem?_set] at ha hb
 split at ha
 ·rename_i e
  subst e
  try rw [if_pos hi'] at ha
  rw [if_pos rfl, if_pos hi] at hb
  injection ha with ha
  injection hb with hb
  subst ha hb
  exact ⟨s, A, l, d, rfl, (hB.far c0 (by simp) _).far c1' (by simp) _, hl⟩
 ·rename_i e
  rw [if_neg e] at hb
  exact (((h1.pt j a b ha hb).far c0 (by simp) _).far c1' (by simp) _).mono hL
/- Legs: contracts of vec.Is, Get, the reference's Is, Get. -/
structure Leg where
 inst : Int
 qty : Int
 deriving DecidableEq
def encLeg (x : Leg) : List Value := [.int .i64 x.inst, .int .i64 x.qty]
def okLeg (x : Leg) : Prop := In64 x.inst ∧ In64 x.qty
theorem rowsLeg (l : List Leg) : ∀ r ∈ l.map encLeg, r.length = 2 ∧ ∀ u ∈ r, u.oneCell' = true := by
 intro r hr
 obtain ⟨m, _, rfl⟩ := List.mem_map.1 hr
 refine ⟨rfl, ?_⟩
 simp only [encLeg, List.mem_cons, List.not_mem_nil, or_false, forall_eq_or_imp, forall_eq]
 exact ⟨rfl, rfl⟩
theorem elLeg : Elem Tryz.prog 80 64 2 16 := elem_of Tryz.underlying80 (z := .agg #[.int .i64 0, .int .i64 0]) (by kernel_rfl) rfl (by omega)
def isF : Int → List Leg → Bool
 | _, [] => true
 | a, x :: l => decide (a < x.inst) && decide (x.inst ≤ 8) && decide (x.qty ≠ 0) && isF x.inst l
def getF (i : Int) : List Leg → Int
 | [] => 0
 | x :: l => if x.inst = i then x.qty else getF i l
def isV (l : List Leg) : Bool := isF 0 l
theorem isF_yes {a : Int} {x : Leg} {l : List Leg} (h1 : a < x.inst ∧ x.inst ≤ 8) (h3 : (x.qty == 0) = false) : isF a (x :: l) = isF x.inst l := by
 have : x.qty ≠ 0 := by simpa using h3
 simp [isF, h1.1, h1.2, this]
theorem isF_no {a : Int} {x : Leg} {l : List Leg} (h1 : ¬ (a < x.inst ∧ x.inst ≤ 8)) : isF a (x :: l) = false := by
 simp only [isF, Bool.and_eq_false_iff, decide_eq_false_iff_not]
 omega
theorem isF_no0 {a : Int} {x : Leg} {l : List Leg} (h3 : (x.qty == 0) = true) : isF a (x :: l) = false := by
 have : x.qty = 0 := by simpa using h3
 simp [isF, this]
theorem vecIs (l : List Leg) (A : Option Addr) (c : Nat) (w : World) (hl : l.length ≤ 1099511627776) (hr : Rd w A 2 (l.map encLeg)) :
  Calls Tryz.prog 160 #[.slice A l.length c] w fun e w' => e = .returned (.bool (isV l)) ∧ Below w.heap.size w w' := by
 have HR := hid hr
 clear hr
 go_enter Tryz.func160, Tryz.ntmps160
 go_wp2_with fail
 go_loopw [3, 8] (fun a i wr => ∃ (k : Nat) (x : Int), k ≤ l.length ∧ i = .int .i64 k ∧ a = .int .i64 x ∧ isV l = isF x (l.drop k) ∧ Below w.heap.size w wr) (fun _ i _ => l.length - (intOf i).toNat)
 case atStart => exact ⟨0, 0, Nat.zero_le _, rfl, rfl, rfl, Below.refl _ _⟩
 case round =>
  obtain ⟨k, x, hk, rfl, rfl, hv, hbl⟩ := hrel
  have Hbl := hid hbl
  have HV := hid hv
  have hz := hbl.size
  clear hbl hv
  by_cases hlt : k < l.length
  ·obtain ⟨be, oe, rfl, hbe, hqe⟩ := HR.out k (encLeg l[k]) (by simp [hlt])
   replace hqe := fun j v hv => (Hbl.out.cell (p := ⟨be, oe + k * 2 + j, none⟩) hbe).trans (hqe j v hv)
   have e0 := hqe 0 _ rfl
   have e1 := hqe 1 _ rfl
   simp only [Nat.add_zero] at e0
   clear hqe
   have HD := hid (drop_cons' hlt)
   cases hq : (l[k].qty == 0)
   ·by_cases hg : x < l[k].inst ∧ l[k].inst ≤ 8
    ·have HN := hid (isF_yes (l := l.drop (k + 1)) hg hq)
     go_wp2_with fail
     go_roundw
     case rel => exact ⟨k + 1, _, by omega, by go_num, rfl, by rw [HV.out, HD.out, HN.out], by have hbl := Hbl.out; exact tB⟩
     case measure => simp [intOf]; omega
    ·have HN := hid (isF_no (l := l.drop (k + 1)) hg)
     go_wp2_with fail
     all_goals
      go_ret
      exact ⟨by rw [HV.out, HD.out, HN.out]; first | done | rfl, by (have hbl := Hbl.out; exact tB)⟩
   ·have HN := hid (isF_no0 (a := x) (l := l.drop (k + 1)) hq)
    go_wp2_with fail
    all_goals
     go_ret
     exact ⟨by rw [HV.out, HD.out, HN.out]; first | done | rfl, by (have hbl := Hbl.out; exact tB)⟩
  ·have HD := hid (drop_all (l := l) (k := k) (by omega))
   go_wp2_with fail
   go_ret
   exact ⟨by rw [HV.out, HD.out]; rfl, Hbl.out⟩
theorem vecGet (l : List Leg) (id : Int) (A : Option Addr) (c : Nat) (w : World) (hl : l.length ≤ 1099511627776) (hr : Rd w A 2 (l.map encLeg)) :
  Calls Tryz.prog 191 #[.slice A l.length c, .int .i64 id] w fun e w' => e = .returned (.int .i64 (getF id l)) ∧ Below w.heap.size w w' := by
 have HR := hid hr
 clear hr
 go_enter Tryz.func191, Tryz.ntmps191
 go_wp2_with fail
 go_loopw [9] (fun i wr => ∃ k : Nat, k ≤ l.length ∧ i = .int .i64 k ∧ getF id l = getF id (l.drop k) ∧ Below w.heap.size w wr) (fun i _ => l.length - (intOf i).toNat)
 case atStart => exact ⟨0, Nat.zero_le _, rfl, rfl, Below.refl _ _⟩
 case round =>
  obtain ⟨k, hk, rfl, hv, hbl⟩ := hrel
  have Hbl := hid hbl
  have HV := hid hv
  have hz := hbl.size
  clear hbl hv
  by_cases hlt : k < l.length
  ·obtain ⟨be, oe, rfl, hbe, hqe⟩ := HR.out k (encLeg l[k]) (by simp [hlt])
   replace hqe := fun j v hv => (Hbl.out.cell (p := ⟨be, oe + k * 2 + j, none⟩) hbe).trans (hqe j v hv)
   have e0 := hqe 0 _ rfl
   have e1 := hqe 1 _ rfl
   simp only [Nat.add_zero] at e0
   clear hqe
   have HD := hid (drop_cons' hlt)
   cases hq : (l[k].inst == id)
   ·have HN := hid (show getF id (l[k] :: l.drop (k + 1)) = getF id (l.drop (k + 1)) from by rw [getF, if_neg (by simpa using hq)])
    go_wp2_with fail
    go_roundw
    case rel => exact ⟨k + 1, by omega, by go_num, by rw [HV.out, HD.out, HN.out], by (have hbl := Hbl.out; exact tB)⟩
    case measure => simp [intOf]; omega
   ·have HN := hid (show getF id (l[k] :: l.drop (k + 1)) = l[k].qty from by rw [getF, if_pos (by simpa using hq)])
    go_wp2_with fail
    go_ret
    exact ⟨by rw [HV.out, HD.out, HN.out]; first | done | rfl, by (have hbl := Hbl.out; exact tB)⟩
  ·have HD := hid (drop_all (l := l) (k := k) (by omega))
   go_wp2_with fail
   go_ret
   exact ⟨by rw [HV.out, HD.out]; rfl, Hbl.out⟩
theorem isF_bad {a : Int} {x : Leg} {l : List Leg} (h : ¬ a < x.inst ∨ 8 < x.inst ∨ (x.qty == 0) = true) : isF a (x :: l) = false := by
 rcases h with h | h | h
 ·exact isF_no (by omega)
 ·exact isF_no (by omega)
 ·exact isF_no0 h
theorem refIs11 (l : List Leg) (A : Option Addr) (c : Nat) (w : World) (hl : l.length ≤ 1099511627776) (hr : Rd w A 2 (l.map encLeg)) :
  Calls Tryz.prog 92 #[.slice A l.length c] w fun e w' => e = .returned (.bool (isV l)) ∧ Below w.heap.size w w' := by
 have HR := hid hr
 clear hr
 go_enter Tryz.func92, Tryz.ntmps92
 go_wp2_with fail
 go_loopw [3] (fun i wr => ∃ (k : Nat) (x : Int), k ≤ l.length ∧ i = .int .i64 k ∧ isV l = isF x (l.drop k) ∧ Below w.heap.size w wr ∧ (k = 0 ∧ x = 0 ∨ 0 < k ∧ x = (l.getD (k - 1) ⟨0, 0⟩).inst ∧ 1 ≤ x)) (fun i _ => l.length - (intOf i).toNat)
 case atStart => exact ⟨0, 0, Nat.zero_le _, rfl, rfl, Below.refl _ _, .inl ⟨rfl, rfl⟩⟩
 case round =>
  obtain ⟨k, x, hk, rfl, hv, hbl, hx⟩ := hrel
  have Hbl := hid hbl
  have HV := hid hv
  have hz := hbl.size
  clear hbl hv
  by_cases hlt : k < l.length
  ·obtain ⟨be, oe, rfl, hbe, hqe⟩ := HR.out k (encLeg l[k]) (by simp [hlt])
   replace hqe := fun j v hv => (Hbl.out.cell (p := ⟨be, oe + k * 2 + j, none⟩) hbe).trans (hqe j v hv)
   have e0 := hqe 0 _ rfl
   have e1 := hqe 1 _ rfl
   simp only [Nat.add_zero] at e0
   clear hqe
   have HD := hid (drop_cons' hlt)
   have WK := hid (show IntKind.i64.wrap ((k : Int) - 1) = (k : Int) - 1 from IntWalk.i64_in _ (by omega))
   have TK := hid (show ((k : Int) - 1).toNat = k - 1 from by omega)
   rcases hx with ⟨k0, hx⟩ | ⟨k0, hx, x1⟩
   ·have g0 : decide (0 < k) = false := by simp; omega
    have K0 := hid k0
    have X0 := hid hx
    have x0 : 0 ≤ x ∧ x ≤ 0 := by omega
    clear k0 hx
    by_cases t0 : l[k].inst < 1
    ·have d0 := decide_eq_true t0
     have HN := hid (isF_bad (a := x) (x := l[k]) (l := l.drop (k + 1)) (by first | (left; omega) | (right; left; omega) | (right; right; assumption)))
     have wk := WK.out
     have tk := TK.out
     go_wp2_with fail
     go_quiet (fail)
     clear wk tk
     go_wp2_with fail
     go_ret
     exact ⟨by rw [HV.out, HD.out, HN.out]; first | done | rfl, by (have hbl := Hbl.out; exact tB)⟩
    have d0 := decide_eq_false t0
    by_cases t1 : 8 < l[k].inst
    ·have d1 := decide_eq_true t1
     have HN := hid (isF_bad (a := x) (x := l[k]) (l := l.drop (k + 1)) (by first | (left; omega) | (right; left; omega) | (right; right; assumption)))
     have wk := WK.out
     have tk := TK.out
     go_wp2_with fail
     go_quiet (fail)
     clear wk tk
     go_wp2_with fail
     go_ret
     exact ⟨by rw [HV.out, HD.out, HN.out]; first | done | rfl, by (have hbl := Hbl.out; exact tB)⟩
    have d1 := decide_eq_false t1
    cases t2 : (l[k].qty == 0)
    rotate_left
    ·have HN := hid (isF_bad (a := x) (x := l[k]) (l := l.drop (k + 1)) (by first | (left; omega) | (right; left; omega) | (right; right; assumption)))
     have wk := WK.out
     have tk := TK.out
     go_wp2_with fail
     go_quiet (fail)
     clear wk tk
     go_wp2_with fail
     go_ret
     exact ⟨by rw [HV.out, HD.out, HN.out]; first | done | rfl, by (have hbl := Hbl.out; exact tB)⟩
    have X1 : x < l[k].inst := by omega
    have HN := hid (isF_yes (a := x) (x := l[k]) (l := l.drop (k + 1)) ⟨by omega, by omega⟩ t2)
    have wk := WK.out
    have tk := TK.out
    go_wp2_with fail
    go_quiet (fail)
    clear wk tk
    go_wp2_with fail
    go_roundw
    case rel => exact ⟨k + 1, l[k].inst, by omega, by go_num, by rw [HV.out, HD.out, HN.out], by (have hbl := Hbl.out; exact tB), .inr ⟨by omega, by rw [Nat.add_sub_cancel, getD_at hlt], by omega⟩⟩
    case measure => simp [intOf]; omega
   ·have g0 : decide (0 < k) = true := by simpa using k0
    have g1 : (0 : Int) ≤ (k : Int) - 1 := by omega
    have hk1 : k - 1 < l.length := by omega
    rw [getD_at hk1] at hx
    obtain ⟨b1, o1, q1, hb1, hq1⟩ := HR.out (k - 1) (encLeg l[k - 1]) (by simp [hk1])
    injection q1 with q1
    injection q1 with q1 q2 _
    subst q1 q2
    have f0 := tC Hbl hbe (hq1 0 _ rfl)
    simp only [Nat.add_zero] at f0
    rw [← hx] at f0
    have X0 := hid hx
    clear hq1 hx
    by_cases t0 : l[k].inst < 1
    ·have d0 := decide_eq_true t0
     have HN := hid (isF_bad (a := x) (x := l[k]) (l := l.drop (k + 1)) (by first | (left; omega) | (right; left; omega) | (right; right; assumption)))
     have wk := WK.out
     have tk := TK.out
     go_wp2_with fail
     go_quiet (fail)
     clear wk tk
     go_wp2_with fail
     go_ret
     exact ⟨by rw [HV.out, HD.out, HN.out]; first | done | rfl, by (have hbl := Hbl.out; exact tB)⟩
    have d0 := decide_eq_false t0
    by_cases t1 : 8 < l[k].inst
    ·have d1 := decide_eq_true t1
     have HN := hid (isF_bad (a := x) (x := l[k]) (l := l.drop (k + 1)) (by first | (left; omega) | (right; left; omega) | (right; right; assumption)))
     have wk := WK.out
     have tk := TK.out
     go_wp2_with fail
     go_quiet (fail)
     clear wk tk
     go_wp2_with fail
     go_ret
     exact ⟨by rw [HV.out, HD.out, HN.out]; first | done | rfl, by (have hbl := Hbl.out; exact tB)⟩
    have d1 := decide_eq_false t1
    cases t2 : (l[k].qty == 0)
    rotate_left
    ·have HN := hid (isF_bad (a := x) (x := l[k]) (l := l.drop (k + 1)) (by first | (left; omega) | (right; left; omega) | (right; right; assumption)))
     have wk := WK.out
     have tk := TK.out
     go_wp2_with fail
     go_quiet (fail)
     clear wk tk
     go_wp2_with fail
     go_ret
     exact ⟨by rw [HV.out, HD.out, HN.out]; first | done | rfl, by (have hbl := Hbl.out; exact tB)⟩
    by_cases t3 : l[k].inst ≤ x
    ·have d3 := decide_eq_true t3
     have HN := hid (isF_bad (a := x) (x := l[k]) (l := l.drop (k + 1)) (by first | (left; omega) | (right; left; omega) | (right; right; assumption)))
     have wk := WK.out
     have tk := TK.out
     go_wp2_with fail
     go_quiet (fail)
     clear wk tk
     go_wp2_with fail
     go_ret
     exact ⟨by rw [HV.out, HD.out, HN.out]; first | done | rfl, by (have hbl := Hbl.out; exact tB)⟩
    have d3 := decide_eq_false t3
    have HN := hid (isF_yes (a := x) (x := l[k]) (l := l.drop (k + 1)) ⟨by omega, by omega⟩ t2)
    have wk := WK.out
    have tk := TK.out
    go_wp2_with fail
    go_quiet (fail)
    clear wk tk
    go_wp2_with fail
    go_roundw
    case rel => exact ⟨k + 1, l[k].inst, by omega, by go_num, by rw [HV.out, HD.out, HN.out], by (have hbl := Hbl.out; exact tB), .inr ⟨by omega, by rw [Nat.add_sub_cancel, getD_at hlt], by omega⟩⟩
    case measure => simp [intOf]; omega
  ·have HD := hid (drop_all (l := l) (k := k) (by omega))
   go_wp2_with fail
   go_ret
   exact ⟨by rw [HV.out, HD.out]; rfl, Hbl.out⟩
/- Contracts of vec.none, ContainsFunc of it, vec.Same. -/
theorem vecNone (l : List Leg) (A : Option Addr) (c : Nat) (w : World) (hl : l.length ≤ 1099511627776) (hr : Rd w A 2 (l.map encLeg)) :
  Calls Tryz.prog 162 #[.slice A l.length c] w fun e w' => e = .returned (.bool (!isV l)) ∧ Below w.heap.size w w' := by
 have HR := hid hr
 clear hr
 go_enter Tryz.func162, Tryz.ntmps162
 go_wp2_with (go_at_call 160; (with_reducible refine cM (vecIs l A c _ hl HR.out) fun w1 hb1 fc1 fg1 hc1 hf1 hz1 => ?_); try simp at hz1)
 go_ret
 exact ⟨rfl, tB⟩
def Short (ls : List (List Leg)) : Prop := ls.length ≤ 1099511627776 ∧ ∀ l ∈ ls, l.length ≤ 1099511627776
theorem Short.pt {ls : List (List Leg)} (h : Short ls) {i : Nat} (hi : i < ls.length) : ls[i].length ≤ 1099511627776 := h.2 _ (List.getElem_mem hi)
theorem vecIndex (ls : List (List Leg)) (A : Option Addr) (c : Nat) (w : World) (hl : Short ls) (hr : RsS 2 encLeg w ls A c) :
  Calls Tryz.prog 205 #[.slice A ls.length c, .func (Fn.func 162) #[] #[]] w fun e w' => e = .returned (.int .i64 (idxOf (fun l => !isV l) ls)) ∧ Below w.heap.size w w' := by
 have HR := hid hr
 have HL := hid hl
 have hl1 := hl.1
 clear hr hl
 go_enter Tryz.func205, Tryz.ntmps205
 go_wp2_with fail
 go_loopw [8] (fun i wr => ∃ k : Nat, k ≤ ls.length ∧ i = .int .i64 k ∧ Below w.heap.size w wr ∧ ∀ j (_ : j < ls.length), j < k → (!isV ls[j]) = false) (fun i _ => ls.length - (intOf i).toNat)
 case atStart => exact ⟨0, Nat.zero_le _, rfl, Below.refl _ _, fun j _ h => absurd h (by omega)⟩
 case round =>
  obtain ⟨k, hk, rfl, hbl, hno⟩ := hrel
  have Hbl := hid hbl
  have Hno := hid hno
  have hz := hbl.size
  clear hbl hno
  by_cases hlt : k < ls.length
  ·obtain ⟨b, o, B, d, rfl, hb, hq, hrk⟩ := HR.out.row hlt
   have e0 := (Hbl.out.cell (p := ⟨b, o + k, none⟩) hb).trans hq
   have HK := hid (hrk.keep Hbl.out)
   have HKL := HL.out.pt hlt
   clear hq hrk
   cases hm : (!isV ls[k])
   ·have Hm := hid hm
    clear hm
    go_wp2_with (go_at_call 162; (with_reducible refine (vecNone ls[k] B d _ HKL HK.out.rd).mono ?_); rw [Hm.out]; rintro e w1 ⟨rfl, hb1⟩; have hz1 := hb1.size; have Hb1 := hid hb1; clear hb1)
    go_roundw
    case rel => exact ⟨k + 1, by omega, by go_num, Hbl.out.trans (Hb1.out.mono hz), fun j hj h => by
     rcases Nat.lt_or_ge j k with h1 | h1
     ·exact Hno.out j hj h1
     ·obtain rfl : j = k := by omega
      exact Hm.out⟩
    case measure => simp [intOf]; omega
   ·have hi := idx_hit (p := fun l => !isV l) hlt hm Hno.out
    have Hi := hid hi
    have Hm := hid hm
    clear hm hi
    go_wp2_with (go_at_call 162; (with_reducible refine (vecNone ls[k] B d _ HKL HK.out.rd).mono ?_); rw [Hm.out]; rintro e w1 ⟨rfl, hb1⟩; have hz1 := hb1.size; have Hb1 := hid hb1; clear hb1)
    go_ret
    exact ⟨by rw [Hi.out]; rfl, Hbl.out.trans (Hb1.out.mono hz)⟩
  ·have hi := idx_miss (p := fun l => !isV l) (l := ls) (fun j hj => Hno.out j hj (by omega))
   have Hi := hid hi
   clear hi
   go_wp2_with fail
   go_ret
   exact ⟨by rw [Hi.out]; rfl, Hbl.out⟩
def allV (ls : List (List Leg)) : Bool := ls.all isV
theorem idx_none (ls : List (List Leg)) : decide (0 ≤ idxOf (fun l => !isV l) ls) = !allV ls := by
 unfold idxOf allV
 cases h : ls.findIdx? (fun l => !isV l) with
 | none =>
  rw [List.findIdx?_eq_none_iff] at h
  have : ls.all isV = true := by rw [List.all_eq_true]; intro x hx; simpa using h x hx
  simp [this]
 | some k =>
  rw [List.findIdx?_eq_some_iff_getElem] at h
  obtain ⟨hk, h1, _⟩ := h
  have : ls.all isV = false := by
   rw [List.all_eq_false]; exact ⟨_, List.getElem_mem hk, by simpa using h1⟩
  simp [this]
theorem vecContains (ls : List (List Leg)) (A : Option Addr) (c : Nat) (w : World) (hl : Short ls) (hr : RsS 2 encLeg w ls A c) :
  Calls Tryz.prog 190 #[.slice A ls.length c, .func (Fn.func 162) #[] #[]] w fun e w' => e = .returned (.bool (!allV ls)) ∧ Below w.heap.size w w' := by
 have HR := hid hr
 have HL := hid hl
 have HI := hid (idx_none ls)
 clear hr hl
 go_enter Tryz.func190, Tryz.ntmps190
 go_wp2_with (go_at_call 205; (with_reducible refine cM (vecIndex ls A c _ HL.out HR.out) fun w1 hb1 fc1 fg1 hc1 hf1 hz1 => ?_); try simp at hz1)
 go_ret
 exact ⟨by rw [← HI.out]; rfl, tB⟩
/- Contract of vec.Add. -/
def sumG (ls : List (List Leg)) (i : Int) : Int := (ls.map (getF i)).sum
def sumsL (f : Int → Int) : Nat → List Leg
 | 0 => []
 | n + 1 => sumsL f n ++ (if f ((n : Int) + 1) = 0 then [] else [⟨(n : Int) + 1, f ((n : Int) + 1)⟩])
def fitN (f : Int → Int) : Nat → Bool
 | 0 => true
 | n + 1 => fitN f n && in64 (f ((n : Int) + 1))
def vecC (f : Int → Int) : Int := if fitN f 8 then 0 else 7
def vecL (f : Int → Int) : List Leg := if fitN f 8 then sumsL f 8 else []
def addC (ls : List (List Leg)) : Int := if allV ls then vecC (sumG ls) else 3
def addL (ls : List (List Leg)) : List Leg := if allV ls then vecL (sumG ls) else []
theorem fit_mono {f : Int → Int} {n m : Nat} (h : n ≤ m) (hm : fitN f m = true) : fitN f n = true := by
 induction m with
 | zero =>
  obtain rfl : n = 0 := by omega
  rfl
 | succ m ih =>
  rcases Nat.lt_or_ge n (m + 1) with h1 | h1
  ·simp only [fitN, Bool.and_eq_true] at hm; exact ih (by omega) hm.1
  ·obtain rfl : n = m + 1 := by omega
   exact hm
theorem fit_no {f : Int → Int} {n : Nat} (hn : n < 8) (h : in64 (f ((n : Int) + 1)) = false) : fitN f 8 = false := by
 cases h8 : fitN f 8 with
 | false => rfl
 | true =>
  have := fit_mono (show n + 1 ≤ 8 from hn) h8
  simp [fitN, h] at this
theorem sumsL_len (f : Int → Int) : ∀ n, (sumsL f n).length ≤ n
 | 0 => by simp [sumsL]
 | n + 1 => by
  have := sumsL_len f n
  simp only [sumsL, List.length_append]
  split <;> simp <;> omega
def LegsPost (w : World) (c : Int) (l : List Leg) (e : Ending) (w' : World) : Prop :=
 ∃ v, e = .returned (.tuple #[v, .int .i64 c]) ∧ Own w' w.heap.size 64 2 v (l.map encLeg) ∧ Below w.heap.size w w'
def Legs64 (l : List Leg) : Prop := ∀ x ∈ l, In64 x.qty
theorem get64 {l : List Leg} {i : Int} (h : Legs64 l) : In64 (getF i l) := by
 induction l with
 | nil => simp [getF, In64]
 | cons x l ih =>
  simp only [getF]
  split
  ·exact h x (by simp)
  ·exact ih fun y hy => h y (by simp [hy])
theorem elI : Elem Tryz.prog 56 2 1 8 := elem_of Tryz.underlying56 (z := .int .i64 0) (by kernel_rfl) rfl (by omega)
theorem rowsI (l : List Int) : ∀ r ∈ l.map encI, r.length = 1 ∧ ∀ u ∈ r, u.oneCell' = true := by
 intro r hr
 obtain ⟨m, _, rfl⟩ := List.mem_map.1 hr
 exact ⟨rfl, by simp [encI]; rfl⟩
theorem vecAdd (ls : List (List Leg)) (A : Option Addr) (c : Nat) (w : World) (hl : Short ls) (h64 : ∀ l ∈ ls, Legs64 l) (hr : RsS 2 encLeg w ls A c) :
  Calls Tryz.prog 169 #[.slice A ls.length c] w (LegsPost w (addC ls) (addL ls)) := by
 have HR := hid hr
 have HL := hid hl
 have H64 := hid h64
 have hl1 := hl.1
 clear hr hl h64
 cases ha : allV ls
 ·have HC := hid (show addC ls = 3 from by unfold addC; rw [ha]; rfl)
  have HA := hid (show addL ls = [] from by unfold addL; rw [ha]; rfl)
  have C1 := hid (fun W h => ha ▸ vecContains ls A c W HL.out h)
  clear ha
  go_enter Tryz.func169, Tryz.ntmps169
  go_wp2_with (go_at_call 190; (with_reducible refine cM (C1.out _ HR.out) fun w1 hb1 fc1 fg1 hc1 hf1 hz1 => ?_); try simp at hz1)
  go_ret2
  exact ⟨_, by rw [HC.out]; rfl, by rw [HA.out]; exact Own.nil _ _ _ _, tB⟩
 have HC := hid (show addC ls = vecC (sumG ls) from by unfold addC; rw [ha]; rfl)
 have HA := hid (show addL ls = vecL (sumG ls) from by unfold addL; rw [ha]; rfl)
 have C1 := hid (fun W h => ha ▸ vecContains ls A c W HL.out h)
 clear ha
 go_enter Tryz.func169, Tryz.ntmps169
 go_wp2_with (go_at_call 190; (with_reducible refine cM (C1.out _ HR.out) fun w1 hb1 fc1 fg1 hc1 hf1 hz1 => ?_); try simp at hz1)
 have Hb1 := hid hb1
 clear hc1 hf1 hb1
 go_loopw [4, 5] (fun v i wr => ∃ j : Nat, j ≤ 8 ∧ i = .int .i64 ((j : Int) + 1) ∧ fitN (sumG ls) j = true ∧ Own wr w.heap.size 64 2 v ((sumsL (sumG ls) j).map encLeg) ∧ Below w.heap.size w wr) (fun _ i _ => 9 - (intOf i).toNat)
 case atStart => exact ⟨0, Nat.zero_le _, rfl, rfl, Own.nil _ _ _ _, Hb1.out⟩
 case round =>
  obtain ⟨j, hj, rfl, hfit, hown, hbl⟩ := hrel
  have Hfit := hid hfit
  have Hown := hid hown
  have Hbl := hid hbl
  have hz := hbl.size
  have hsl := sumsL_len (sumG ls) j
  clear hfit hown hbl
  by_cases h8 : j < 8
  ·have d8 : decide ((j : Int) + 1 ≤ 8) = true := by simp; omega
   obtain ⟨wo, hwo⟩ : ∃ wo : World, wo = wr := ⟨_, rfl⟩
   subst hwo
   go_wp2_with fail
   go_loopw [6, 19] (fun v i wr => ∃ k : Nat, k ≤ ls.length ∧ i = .int .i64 k ∧ Own wr wo.heap.size 2 1 v (((ls.map (getF ((j : Int) + 1))).take k).map encI) ∧ Below wo.heap.size wo wr) (fun _ i _ => ls.length - (intOf i).toNat)
   case atStart => exact ⟨0, Nat.zero_le _, rfl, Own.nil _ _ _ _, Below.refl _ _⟩
   case round =>
    obtain ⟨k, hk, rfl, hown2, hbl2⟩ := hrel
    have Hown2 := hid hown2
    have Hbl2 := hid hbl2
    have hz2 := hbl2.size
    clear hown2 hbl2
    by_cases hlt : k < ls.length
    ·obtain ⟨b, o, B, d, rfl, hb, hq, hrk⟩ := HR.out.row hlt
     have hball := Hbl.out.trans (Hbl2.out.mono hz)
     have e0 := (hball.cell (p := ⟨b, o + k, none⟩) hb).trans hq
     have HK := hid (hrk.keep hball)
     have HKL := HL.out.pt hlt
     have HS : Hid (((ls.map (getF ((j : Int) + 1))).take (k + 1)).map encI = ((ls.map (getF ((j : Int) + 1))).take k).map encI ++ [encI (getF ((j : Int) + 1) ls[k])]) := by
      unfold Hid; rw [map_snoc (by simpa using hlt)]; simp
     have hlen : (((ls.map (getF ((j : Int) + 1))).take k).map encI).length ≤ k := by simp; omega
     clear hq hrk hball
     obtain ⟨g, hg⟩ : ∃ g, g = getF ((j : Int) + 1) ls[k] := ⟨_, rfl⟩
     have c3 := fun W (h : Rd W B 2 (ls[k].map encLeg)) => vecGet ls[k] ((j : Int) + 1) B d W HKL h
     rw [← hg] at HS c3
     have C3 := hid c3
     clear hg c3
     go_wp2_with (first | (go_at_call 191; (with_reducible refine (C3.out _ HK.out.rd).mono ?_); rintro e w3 ⟨rfl, hb3⟩; have hz3 := hb3.size; have Hb3 := hid hb3; clear hb3) | (at_builtin; refine wpList_app rfl _ _ _ rfl elI wo.heap.size _ _ rfl ((Hown2.out.keep Hb3.out).alloc _) (some ⟨w3.heap.size, 0, none⟩) 1 1 rfl [encI g] rfl (fun h => by cases h) rd_one (rowsI [g]) (by unfold maxLen; omega) (by omega) (by simp; omega) ?_; intro v' w4 hown4 hb4))
     go_roundw
     case rel => exact ⟨k + 1, by omega, by go_num, by rw [HS.out]; exact hown4, ((Hbl2.out.trans (Hb3.out.mono hz2)).alloc (by omega) _).trans hb4⟩
     case measure => simp [intOf]; omega
    ·obtain rfl : k = ls.length := by omega
     have ho := Hown2.out
     rw [List.take_of_length_le (by simp)] at ho
     obtain ⟨A', c', rfl, _, _, hr', _⟩ := ho.shape
     obtain ⟨is, his⟩ : ∃ is, is = ls.map (getF ((j : Int) + 1)) := ⟨_, rfl⟩
     have hisl : is.length = ls.length := by rw [his, List.length_map]
     have hsum : is.sum = sumG ls ((j : Int) + 1) := by rw [his]; rfl
     have hi64 : ∀ n ∈ is, In64 n := by
      rw [his]; intro n hn; obtain ⟨l, h1, rfl⟩ := List.mem_map.1 hn; exact get64 (H64.out l h1)
     rw [← his] at hr'
     have Hr' := hid hr'
     have I64 := hid hi64
     have lis : is.length ≤ 1099511627776 := by omega
     rw [← his]
     have HSM := hid hsum
     clear hr' ho his hi64 hisl hsum
     simp only [List.length_map]
     cases h64 : in64 is.sum
     ·have N64 := hid (in64_no h64)
      have HF := hid (fit_no (f := sumG ls) h8 (by rw [← HSM.out]; exact h64))
      clear h64
      go_wp2_with (go_at_call 135; (with_reducible refine (fixSumNo is A' c' _ lis I64.out Hr'.out N64.out).mono ?_); rintro e w5 ⟨rfl, hb5⟩; have Hb5 := hid hb5; clear hb5)
      go_ret2
      exact ⟨_, by rw [HC.out, vecC, HF.out]; rfl, by rw [HA.out, vecL, HF.out]; exact Own.nil _ _ _ _, Hbl.out.trans ((Hbl2.out.mono hz).trans (Hb5.out.mono (by omega)))⟩
     ·have N64 := hid (in64_iff.1 h64)
      have HF := hid (show fitN (sumG ls) (j + 1) = true from by rw [fitN, Hfit.out, ← HSM.out, h64]; rfl)
      clear h64
      obtain ⟨n, hn⟩ : ∃ n, n = is.sum := ⟨_, rfl⟩
      have c5 := fun W h => fixSumYes is A' c' W lis I64.out h N64.out
      rw [← hn] at HSM c5
      have C5 := hid c5
      clear c5 hn
      cases hq : (n == 0)
      ·have hne : sumsL (sumG ls) (j + 1) = sumsL (sumG ls) j ++ [⟨(j : Int) + 1, n⟩] := by
        rw [sumsL, ← HSM.out, if_neg (by simpa using hq)]
       have HNE := hid hne
       clear hne
       go_wp2_with (first | (go_at_call 135; (with_reducible refine (C5.out _ Hr'.out).mono ?_); rintro e w5 ⟨rfl, hb5⟩; have hz5 := hb5.size; have Hb5 := hid hb5; clear hb5) | (at_builtin; refine wpList_app rfl _ _ _ rfl elLeg w.heap.size _ _ rfl (((Hown.out.keep Hbl2.out).keep Hb5.out).alloc _) (some ⟨w5.heap.size, 0, none⟩) 1 1 rfl [encLeg ⟨(j : Int) + 1, n⟩] rfl (fun h => by cases h) rd_one (rowsLeg [⟨(j : Int) + 1, n⟩]) (by unfold maxLen; simp; omega) (by simp; omega) (by simp; omega) ?_; intro v' w6 hown6 hb6))
       go_roundw
       case rel => exact ⟨j + 1, by omega, by go_num, HF.out, by rw [HNE.out, List.map_append]; exact hown6, ((Hbl.out.trans ((Hbl2.out.mono hz).trans (Hb5.out.mono (by omega)))).alloc (by omega) _).trans hb6⟩
       case measure => simp [intOf]; omega
      ·have hne : sumsL (sumG ls) (j + 1) = sumsL (sumG ls) j := by
        rw [sumsL, ← HSM.out, if_pos (by simpa using hq), List.append_nil]
       have HNE := hid hne
       clear hne
       go_wp2_with (go_at_call 135; (with_reducible refine (C5.out _ Hr'.out).mono ?_); rintro e w5 ⟨rfl, hb5⟩; have hz5 := hb5.size; have Hb5 := hid hb5; clear hb5)
       go_roundw
       case rel => exact ⟨j + 1, by omega, by go_num, HF.out, by rw [HNE.out]; exact (Hown.out.keep Hbl2.out).keep Hb5.out, Hbl.out.trans ((Hbl2.out.mono hz).trans (Hb5.out.mono (by omega)))⟩
       case measure => simp [intOf]; omega
  ·obtain rfl : j = 8 := by omega
   go_wp2_with fail
   go_ret2
   exact ⟨_, by rw [HC.out, vecC, Hfit.out]; rfl, by rw [HA.out, vecL, Hfit.out]; exact Hown.out, Hbl.out⟩
/- Contracts of vec.Gross, With, Same. -/
def absL (l : List Leg) : List Int := l.map fun x => iabs x.qty
def absF (l : List Leg) : Bool := l.all fun x => in64 (iabs x.qty)
def grossC (l : List Leg) : Int := if isV l then (if absF l then (if in64 (absL l).sum then 0 else 7) else 7) else 3
def grossN (l : List Leg) : Int := if isV l then (if absF l then (if in64 (absL l).sum then (absL l).sum else 0) else 0) else 0
theorem vecGross (l : List Leg) (A : Option Addr) (c : Nat) (w : World) (hl : l.length ≤ 1099511627776) (h64 : Legs64 l) (hr : Rd w A 2 (l.map encLeg)) :
  Calls Tryz.prog 134 #[.slice A l.length c] w fun e w' => e = .returned (.tuple #[.int .i64 (grossN l), .int .i64 (grossC l)]) ∧ Below w.heap.size w w' := by
 have HR := hid hr
 have H64 := hid h64
 have c1 := fun W (h : Rd W A 2 (l.map encLeg)) => vecNone l A c W hl h
 clear hr h64
 cases hv : isV l
 ·rw [hv] at c1
  have HC := hid (show grossC l = 3 from by unfold grossC; rw [hv]; rfl)
  have HA := hid (show grossN l = 0 from by unfold grossN; rw [hv]; rfl)
  have C1 := hid c1
  clear c1 hv
  go_enter Tryz.func134, Tryz.ntmps134
  go_wp2_with (go_at_call 162; (with_reducible refine cM (C1.out _ HR.out) fun w1 hb1 fc1 fg1 hc1 hf1 hz1 => ?_); try simp at hz1)
  go_ret2
  exact ⟨by rw [HC.out, HA.out]; rfl, tB⟩
 rw [hv] at c1
 have HC := hid (show grossC l = if absF l then (if in64 (absL l).sum then 0 else 7) else 7 from by unfold grossC; rw [hv]; rfl)
 have HA := hid (show grossN l = if absF l then (if in64 (absL l).sum then (absL l).sum else 0) else 0 from by unfold grossN; rw [hv]; rfl)
 have C1 := hid c1
 clear c1 hv
 go_enter Tryz.func134, Tryz.ntmps134
 go_wp2_with (go_at_call 162; (with_reducible refine cM (C1.out _ HR.out) fun w1 hb1 fc1 fg1 hc1 hf1 hz1 => ?_); try simp at hz1)
 have Hb1 := hid hb1
 clear hc1 hf1 hb1
 go_loopw [4, 13] (fun v i wr => ∃ k : Nat, k ≤ l.length ∧ i = .int .i64 k ∧ (absF l = absF (l.drop k) ∧ absF (l.take k) = true) ∧ Own wr w.heap.size 2 1 v ((absL (l.take k)).map encI) ∧ Below w.heap.size w wr) (fun _ i _ => l.length - (intOf i).toNat)
 case atStart => exact ⟨0, Nat.zero_le _, rfl, ⟨rfl, rfl⟩, Own.nil _ _ _ _, Hb1.out⟩
 case round =>
  obtain ⟨k, hk, rfl, hv, hown, hbl⟩ := hrel
  have Hown := hid hown
  clear hown
  have Hbl := hid hbl
  have HV := hid hv
  have hz := hbl.size
  clear hbl hv
  by_cases hlt : k < l.length
  ·obtain ⟨be, oe, rfl, hbe, hqe⟩ := HR.out k (encLeg l[k]) (by simp [hlt])
   replace hqe := fun j v hv => (Hbl.out.cell (p := ⟨be, oe + k * 2 + j, none⟩) hbe).trans (hqe j v hv)
   have e0 := hqe 0 _ rfl
   have e1 := hqe 1 _ rfl
   simp only [Nat.add_zero] at e0
   clear hqe
   have HD := hid (drop_cons' hlt)
   have hq := H64.out l[k] (List.getElem_mem hlt)
   have HS : Hid ((absL (l.take (k + 1))).map encI = (absL (l.take k)).map encI ++ [encI (iabs l[k].qty)]) := by
    unfold Hid absL; rw [map_snoc hlt]; simp
   have hlen : ((absL (l.take k)).map encI).length ≤ k := by unfold absL; simp; omega
   cases hm : in64 (iabs l[k].qty)
   ·have HM := hid (in64_no hm)
    have HN : Hid (absF (l[k] :: l.drop (k + 1)) = false) := by unfold Hid absF; simp only [List.all_cons]; rw [hm]; rfl
    clear hm
    go_wp2_with (go_at_call 163; (with_reducible refine (fixAbsNo l[k].qty _ hq HM.out).mono ?_); rintro e w2 ⟨rfl, hb2⟩; have hz2 := hb2.size; have Hb2 := hid hb2; clear hb2)
    go_ret2
    exact ⟨by rw [HC.out, HA.out, HV.out.1, HD.out, HN.out]; rfl, by (have hbl := Hbl.out; have hb2 := Hb2.out; exact tB)⟩
   ·have HM := hid (in64_iff.1 hm)
    have HN : Hid (absF (l[k] :: l.drop (k + 1)) = absF (l.drop (k + 1))) := by unfold Hid absF; simp only [List.all_cons]; rw [hm]; rfl
    have HT : Hid (absF (l.take (k + 1)) = true) := by
     unfold Hid; rw [List.take_succ_eq_append_getElem hlt]; unfold absF; rw [List.all_append]
     have := HV.out.2; unfold absF at this; rw [this]; simp [hm]
    clear hm
    obtain ⟨n, hn⟩ : ∃ n, n = iabs l[k].qty := ⟨_, rfl⟩
    have c2 := fun W => fixAbsYes l[k].qty W hq HM.out
    rw [← hn] at HS c2
    have C2 := hid c2
    clear hn c2
    go_wp2_with (first | (go_at_call 163; (with_reducible refine cM (C2.out _) fun w2 hb2 fc2 fg2 hc2 hf2 hz2 => ?_); (try simp at hz2); have Hb2 := hid hb2; clear hb2) | (at_builtin; refine wpList_app rfl _ _ _ rfl elI w.heap.size _ _ rfl (((Hown.out.alloc _).keep Hb2.out).alloc _) (some ⟨w2.heap.size, 0, none⟩) 1 1 rfl [encI n] rfl (fun h => by cases h) rd_one (rowsI [n]) (by unfold maxLen; exact tE) tE tZ ?_; intro v' w3 hown3 hb3))
    go_roundw
    case rel => exact ⟨k + 1, by omega, by go_num, ⟨by rw [HV.out.1, HD.out, HN.out], HT.out⟩, by rw [HS.out]; exact hown3, by have hbl := Hbl.out; have hb2 := Hb2.out; exact tB⟩
    case measure => simp [intOf]; omega
  ·have hT := List.take_of_length_le (show l.length ≤ k by omega)
   have ho := Hown.out
   have hv2 := HV.out.2
   rw [hT] at ho hv2
   obtain ⟨A', c', rfl, _, _, hr', _⟩ := ho.shape
   have Hr' := hid hr'
   have I64 : Hid (∀ n ∈ absL l, In64 n) := by
    intro n hn
    obtain ⟨x, hx, rfl⟩ := List.mem_map.1 hn
    unfold absF at hv2
    exact in64_iff.1 (List.all_eq_true.1 hv2 x hx)
   have HV2 := hid hv2
   obtain ⟨is, his⟩ : ∃ is, is = absL l := ⟨_, rfl⟩
   have hisl : is.length = l.length := by rw [his]; unfold absL; rw [List.length_map]
   have lis : is.length ≤ 1099511627776 := by omega
   rw [← his] at Hr' HC HA I64
   rw [← his]
   clear hT ho hv2 hr' his hisl
   simp only [List.length_map]
   cases hs : in64 is.sum
   ·have N64 := hid (in64_no hs)
    have HSF := hid hs
    clear hs
    go_wp2_with (go_at_call 135; (with_reducible refine (fixSumNo is A' c' _ lis I64.out Hr'.out N64.out).mono ?_); rintro e w2 ⟨rfl, hb2⟩; have hz2 := hb2.size; have Hb2 := hid hb2; clear hb2)
    go_ret2
    exact ⟨by rw [HC.out, HA.out, HV2.out, HSF.out]; rfl, by (have hbl := Hbl.out; have hb2 := Hb2.out; exact tB)⟩
   ·have N64 := hid (in64_iff.1 hs)
    have HSF := hid hs
    clear hs
    go_wp2_with (go_at_call 135; (with_reducible refine (fixSumYes is A' c' _ lis I64.out Hr'.out N64.out).mono ?_); rintro e w2 ⟨rfl, hb2⟩; have hz2 := hb2.size; have Hb2 := hid hb2; clear hb2)
    go_ret2
    exact ⟨by rw [HC.out, HA.out, HV2.out, HSF.out]; rfl, by (have hbl := Hbl.out; have hb2 := Hb2.out; exact tB)⟩
/- Contracts of the reference's Same (11), the law's Few, several, lives. -/
theorem Rs.addr {w : World} {k : Nat} {rows : List (List Value)} {A : Option Addr} {c : Nat} (h : Rs w k rows A c) (h0 : 0 < rows.length) : ∃ b o, A = some ⟨b, o, none⟩ ∧ b < w.heap.size := by
 obtain ⟨b, o, hA, hb, _⟩ := h.rd 0 rows[0] (List.getElem?_eq_getElem h0)
 exact ⟨b, o, hA, hb⟩
theorem law11Few (l : List Leg) (A : Option Addr) (c : Nat) (w : World) (hl : l.length ≤ maxLen) (hr : Rs w 2 (l.map encLeg) A c) :
  Calls Tryz.prog 47 #[.slice A l.length c] w fun e w' => e = .returned (.slice A (l.take 12).length c) ∧ w = w' := by
 have hml : (l.length : Int) ≤ 9223372036854775807 := by unfold maxLen at hl; omega
 have hcap := hr.cap
 have hroom := hr.room
 rw [List.length_map] at hcap
 unfold maxLen at hroom
 by_cases h : 12 < l.length
 ·have HT := hid (show (l.take 12).length = 12 from by rw [List.length_take]; omega)
  obtain ⟨b, o, rfl, hb⟩ := hr.addr (by rw [List.length_map]; omega)
  clear hr
  go_enter Tryz.func47, Tryz.ntmps47
  go_wp2_with fail
  go_ret
  exact ⟨by rw [HT.out]; rfl, rfl⟩
 ·have HT := hid (show (l.take 12).length = l.length from by rw [List.length_take]; omega)
  clear hr
  go_enter Tryz.func47, Tryz.ntmps47
  go_wp2_with fail
  go_ret
  exact ⟨by rw [HT.out]; rfl, rfl⟩
theorem law11FewN (l : List Leg) (m : Nat) (hm : Hid ((l.take 12).length = m)) (A : Option Addr) (c : Nat) (w : World) (hl : l.length ≤ maxLen) (hr : Rs w 2 (l.map encLeg) A c) :
  Calls Tryz.prog 47 #[.slice A l.length c] w fun e w' => e = .returned (.slice A m c) ∧ w = w' := by
 rw [← hm.out]; exact law11Few l A c w hl hr
theorem elLs : Elem Tryz.prog 203 80 1 24 := elem_of Tryz.underlying203 (z := .slice none 0 0) (by kernel_rfl) rfl (by omega)
theorem rows1 (v : Value) (h : v.oneCell' = true) : ∀ r ∈ [enc1 v], r.length = 1 ∧ ∀ u ∈ r, u.oneCell' = true := by
 intro r hr
 simp [enc1] at hr
 subst hr
 exact ⟨rfl, by simp [h]⟩
/- The law VecAdds: its walk. -/
theorem addL_len (ls : List (List Leg)) : (addL ls).length ≤ 8 := by
 unfold addL vecL
 split
 ·split
  ·exact sumsL_len _ 8
  ·simp
 ·simp
/- Vectors: plain laws. -/
theorem fit_iff {f : Int → Int} : ∀ {n : Nat}, fitN f n = true ↔ ∀ i : Int, 1 ≤ i → i ≤ n → In64 (f i)
 | 0 => by simp [fitN]; intro i h1 h2; omega
 | n + 1 => by
  simp only [fitN, Bool.and_eq_true]
  rw [fit_iff (n := n), in64_iff]
  constructor
  ·rintro ⟨h1, h2⟩ i hi1 hi2
   by_cases h : i < (n : Int) + 1
   ·exact h1 i hi1 (by omega)
   ·have : i = (n : Int) + 1 := by omega
    subst this; exact h2
  ·intro h
   exact ⟨fun i h1 h2 => h i h1 (by omega), h _ (by omega) (by omega)⟩
section
open Go.ChangeShapes Go.WideShapes Go.ChangeAt Go.RowKit Go.Joins
/- Legs handed in. -/
theorem Leg_cells {H : Type} {enc : TypeId × Value → H} {W : World} {spare : Nat → Bool} {held : Bool} (cs : List Value) (n : Nat) (y : DataW H × List MemPlace) (hlen : cs.length = 2) (h : DataW.trod enc Tryz.prog W 0 spare held n 64 cs = some y) : ∃ x : Leg, okLeg x ∧ cs = encLeg x := by
 obtain ⟨xs, n, _, rfl, _, hxs, hf⟩ := DataW.trod_struct Tryz.underlying64 h
 match cs, hlen, xs, hxs with
 | [c0, c1], _, [y0, y1], _ =>
  have h0 : DataW.trod enc Tryz.prog W 0 spare held n 3 (([c0, c1].drop 0).take (Tryz.prog.cellsOf 3)) = some y0 := hf 0 _ rfl
  have h1 : DataW.trod enc Tryz.prog W 0 spare held n 2 (([c0, c1].drop 1).take (Tryz.prog.cellsOf 2)) = some y1 := hf 1 _ rfl
  obtain ⟨x0, e0, _, w0⟩ := DataW.trod_int (k := .i64) (by kernel_rfl) h0
  rw [show Tryz.prog.cellsOf _ = 1 from by kernel_rfl] at e0
  simp at e0
  subst e0
  obtain ⟨x1, e1, _, w1⟩ := DataW.trod_int (k := .i64) (by kernel_rfl) h1
  rw [show Tryz.prog.cellsOf _ = 1 from by kernel_rfl] at e1
  simp at e1
  subst e1
  exact ⟨⟨x0, x1⟩, ⟨in64_of_wf w0, in64_of_wf w1⟩, rfl⟩
theorem legs_cells {H : Type} {enc : TypeId × Value → H} {W : World} {spare : Nat → Bool} {held : Bool} {fuel : Nat} {cs : List Value} {y : DataW H × List MemPlace} (h : DataW.trod enc Tryz.prog W 0 spare held fuel 80 cs = some y) :
  ∃ (l : List Leg) (A : Option Addr) (c : Nat), cs = [.slice A l.length c] ∧ (∀ x ∈ l, okLeg x) ∧ Rs W 2 (l.map encLeg) A c := by
 obtain ⟨l, A, c, h1, h2, h3, h4, h5, h6⟩ := slice_open0 (enc1 := encLeg) Tryz.underlying80 (by kernel_rfl) (fun cs n y => Leg_cells cs n y) (fun _ _ => rfl) (by omega) h
 exact ⟨l, A, c, h1, h2, ⟨h6, by rw [List.length_map]; exact h3, h4, h5⟩⟩
end
end Go.Proofs.YtalgfpegaobacaaGreatDoor
