/- Joined. -/
import Derived.Test.YtalgfpegaobacaaGreatDoorQz17
import Derived.Test.YtalgfpegaobacaaGreatDoorQa11
namespace Go.Proofs.YtalgfpegaobacaaGreatDoor
set_option linter.all false
set_option maxHeartbeats 8000000
set_option maxRecDepth 100000
open Go.RowKit
open Lib (hid)
theorem find_ok {ats : List Asset} (h : ∀ a ∈ ats, okA a) {id : Int} (hf : (findAsset ats id).2 = true) : okA (findAsset ats id).1 := by
 unfold findAsset at *
 cases hq : ats.find? (fun m => m.id == id) with
 | none => rw [hq] at hf; cases hf
 | some m => exact h m (List.mem_of_find?_eq_some hq)
def refT (b : Bool) (ats : List Asset) (x : Lot) : Int := if b then countA (findAsset ats x.asset).1 x.qty else x.qty * (findAsset ats x.asset).1.price
def refS (b : Bool) (ats : List Asset) (l : List Lot) : Int := (l.map (refT b ats)).sum
def rsCv (b : Bool) (ats : List Asset) (l : List Lot) (cash : Int) : Int := if vaC worthE ats l = 0 then (if in64 (cash + refS b ats l) then 0 else 7) else vaC worthE ats l
def rsNv (b : Bool) (ats : List Asset) (l : List Lot) (cash : Int) : Int := if vaC worthE ats l = 0 then (if in64 (cash + refS b ats l) then cash + refS b ats l else 0) else 0
theorem refS_snoc {b : Bool} {ats : List Asset} {l : List Lot} {k : Nat} (h : k < l.length) : refS b ats (l.take (k + 1)) = refS b ats (l.take k) + refT b ats l[k] := by
 unfold refS; rw [map_snoc h, List.sum_append]; simp
theorem count_worth {x : Asset} {q : Int} (hx : okA x) (hq : 0 < q) : countE x q = worthE x q := by
 unfold countE worthE
 rw [if_pos hx, if_pos hx, if_neg (by omega)]
theorem okE_zero {n : Int} (h : okE n = 0) : in64 n = true := by
 unfold okE at h
 split at h
 ·assumption
 ·cases h
theorem vals_same {ats : List Asset} (h : ∀ a ∈ ats, okA a) : ∀ {l : List Lot} (_ : ∀ x ∈ l, rightL x = true), vC countE ats l = vC worthE ats l ∧ (vC worthE ats l = 0 → vL countN ats l = l.map (refT true ats) ∧ vL worthN ats l = l.map (refT false ats))
 | [], _ => ⟨rfl, fun _ => ⟨rfl, rfl⟩⟩
 | x :: t, hr => by
  have hi := vals_same h (l := t) fun y hy => hr y (List.mem_cons_of_mem _ hy)
  have hq : 0 < x.qty := (rightL_iff.1 (hr x (List.mem_cons_self ..))).2.2.2.2
  cases hf : (findAsset ats x.asset).2
  ·exact ⟨by rw [vC_none hf, vC_none hf], fun h0 => by rw [vC_none hf] at h0; cases h0⟩
  ·have ho := find_ok h hf
   have he := count_worth ho hq
   by_cases h0 : worthE (findAsset ats x.asset).1 x.qty = 0
   ·rw [vC_step hf h0, vC_step hf (he.trans h0)]
    refine ⟨hi.1, fun hz => ?_⟩
    obtain ⟨i1, i2⟩ := hi.2 hz
    have hin : in64 (x.qty * (findAsset ats x.asset).1.price) = true := by
     unfold worthE at h0
     rw [if_pos ho] at h0
     exact okE_zero h0
    have c1 : countN (findAsset ats x.asset).1 x.qty = refT true ats x := by unfold countN; rw [if_pos ⟨ho, by omega, hin⟩]; rfl
    have c2 : worthN (findAsset ats x.asset).1 x.qty = refT false ats x := by unfold worthN okN; rw [if_pos ho, if_pos hin]; rfl
    refine ⟨?_, ?_⟩
    ·show countN _ _ :: vL countN ats t = refT true ats x :: t.map (refT true ats)
     rw [i1, c1]
    ·show worthN _ _ :: vL worthN ats t = refT false ats x :: t.map (refT false ats)
     rw [i2, c2]
   ·rw [vC_bad hf h0, vC_bad hf (fun e => h0 (he.symm.trans e)), he]
    exact ⟨rfl, fun e => absurd e h0⟩
theorem va_same {ats : List Asset} (h : ∀ a ∈ ats, okA a) (l : List Lot) : vaC countE ats l = vaC worthE ats l ∧ (vaC worthE ats l = 0 → vL countN ats l = l.map (refT true ats) ∧ vL worthN ats l = l.map (refT false ats)) := by
 unfold vaC
 cases hl : isL l
 ·exact ⟨rfl, fun e => by cases e⟩
 ·have := vals_same h (isL_sort hl).2.1
  exact this
theorem val_ref {ats : List Asset} (h : ∀ a ∈ ats, okA a) (l : List Lot) (cash : Int) : valC ats l cash = rsCv true ats l cash ∧ valN ats l cash = rsNv true ats l cash := by
 obtain ⟨h1, h2⟩ := va_same h l
 unfold valC valN rsCv rsNv
 rw [h1]
 by_cases h0 : vaC worthE ats l = 0
 ·rw [if_pos h0, if_pos h0, if_pos h0, if_pos h0, (h2 h0).1]
  unfold sum64C sum64N
  rw [List.sum_append, show (l.map (refT true ats)).sum + [cash].sum = cash + refS true ats l from by unfold refS; simp; omega]
  exact ⟨rfl, rfl⟩
 ·rw [if_neg h0, if_neg h0, if_neg h0, if_neg h0]; exact ⟨rfl, rfl⟩
def insInstV (l : List InstV) (m : InstV) : List InstV := l.takeWhile (fun x => decide (x.id < m.id)) ++ m :: l.dropWhile (fun x => decide (x.id < m.id))
def putInstVC (ob : Bool) (l : List InstV) (m : InstV) : Int := if ob then (if (findInstV l m.id).2 then 12 else 0) else 2
def putInstVL (ob : Bool) (l : List InstV) (m : InstV) : List InstV := if ob = true ∧ (findInstV l m.id).2 = false then insInstV l m else []
def PutInstVPost (ob : Bool) (w : World) (l : List InstV) (m : InstV) (e : Ending) (w' : World) : Prop :=
 ∃ v, e = .returned (.tuple #[v, .int .i64 (putInstVC ob l m)]) ∧ Own w' w.heap.size 58 5 v ((putInstVL ob l m).map encInstV) ∧ Below w.heap.size w w'
theorem insInstV_len (l : List InstV) (m : InstV) : (insInstV l m).length = l.length + 1 := by
 unfold insInstV
 have := congrArg List.length (List.takeWhile_append_dropWhile (p := fun x : InstV => decide (x.id < m.id)) (l := l))
 simp only [List.length_append, List.length_cons] at this ⊢
 omega
theorem putInstVL_len (ob : Bool) (l : List InstV) (m : InstV) : (putInstVL ob l m).length ≤ l.length + 1 := by
 unfold putInstVL
 split
 ·rw [insInstV_len]; omega
 ·simp
def stepInstV (okf : InstV → Bool) (out : List InstV) (m : InstV) : List InstV := if putInstVC (okf m) out m = 0 then putInstVL (okf m) out m else out
def tabInstVN (okf : InstV → Bool) (l : List InstV) (k : Nat) : List InstV := (l.take k).foldl (stepInstV okf) []
theorem tabInstVN_succ {okf : InstV → Bool} {l : List InstV} {k : Nat} (h : k < l.length) : tabInstVN okf l (k + 1) = stepInstV okf (tabInstVN okf l k) l[k] := by
 unfold tabInstVN
 rw [List.take_succ_eq_append_getElem h, List.foldl_append]
 rfl
theorem tabInstVN_len (okf : InstV → Bool) (l : List InstV) : ∀ k, (tabInstVN okf l k).length ≤ k
 | 0 => by simp [tabInstVN]
 | k + 1 => by
  have ih := tabInstVN_len okf l k
  rcases Nat.lt_or_ge k l.length with h | h
  ·rw [tabInstVN_succ h]; unfold stepInstV; split
   ·have := putInstVL_len (okf l[k]) (tabInstVN okf l k) l[k]; omega
   ·omega
  ·have : tabInstVN okf l (k + 1) = tabInstVN okf l k := by unfold tabInstVN; rw [List.take_of_length_le (by omega), List.take_of_length_le h]
   rw [this]; omega
theorem tabInstV_at {okf : InstV → Bool} {l : List InstV} {k n : Nat} (h : k = n ∨ (k ≤ n ∧ l.length ≤ k)) : tabInstVN okf l k = tabInstVN okf l n := by
 rcases h with rfl | ⟨h1, h2⟩
 ·rfl
 ·unfold tabInstVN; rw [List.take_of_length_le h2, List.take_of_length_le (by omega)]
theorem ref13Put (ob : Bool) (l : List InstV) (m : InstV) (A : Option Addr) (c : Nat) (w : World) (hl : l.length ≤ 1048576) (hr : Rs w 5 (l.map encInstV) A c) (hform : (A = none ∧ l = [] ∧ c = 0) ∨ ∃ b o, A = some ⟨b, o, none⟩)
  (c1 : ∀ W, Below w.heap.size w W → Calls Tryz.prog 50 #[.agg #[.int .i64 m.id, .int .i64 m.mult, .int .i64 m.price, .int .i64 m.next, .slice m.moves.A m.moves.val.length m.moves.c]] W fun e w' => e = .returned (.bool ob) ∧ Below W.heap.size W w') :
  Calls Tryz.prog 113 #[.slice A l.length c, .agg #[.int .i64 m.id, .int .i64 m.mult, .int .i64 m.price, .int .i64 m.next, .slice m.moves.A m.moves.val.length m.moves.c]] w (PutInstVPost ob w l m) := by
 have HR := hid hr
 have HFO := hid hform
 have hlc := hr.cap
 have hcm := hr.room
 rw [List.length_map] at hlc
 have c2 := fun W (h : Rd W A 5 (l.map encInstV)) => ref13Find l m.id A c W (by omega) h
 cases ob
 ·have hp : putInstVL false l m = [] := by unfold putInstVL; rw [if_neg (fun h => by cases h.1)]
  have hq : putInstVC false l m = 2 := rfl
  have HP := hid hp
  have HQ := hid hq
  have C1 := hid c1
  clear hr c1 c2 hp hq hform hcm hlc
  go_enter Tryz.func113, Tryz.ntmps113
  go_wp2_with (go_at_call 50; (with_reducible refine cM (C1.out _ tB) fun w1 hb1 fc1 fg1 hc1 hf1 hz1 => ?_); try simp at hz1)
  go_ret2
  exact ⟨_, by rw [HQ.out]; rfl, by rw [HP.out]; exact Own.nil _ _ _ _, tB⟩
 cases hf : (findInstV l m.id).2
 rotate_left
 ·rw [hf] at c2
  have hp : putInstVL true l m = [] := by unfold putInstVL; rw [hf, if_neg (by simp)]
  have hq : putInstVC true l m = 12 := by unfold putInstVC; rw [hf]; rfl
  have HP := hid hp
  have HQ := hid hq
  have C1 := hid c1
  have C2 := hid c2
  clear hr c1 c2 hp hq hf hform hcm hlc
  go_enter Tryz.func113, Tryz.ntmps113
  go_wp2_with (first | (go_at_call 50; (with_reducible refine cM (C1.out _ tB) fun w1 hb1 fc1 fg1 hc1 hf1 hz1 => ?_); try simp at hz1) | (go_at_call 91; (with_reducible refine cM (C2.out _ (HR.out.rd.keep tB)) fun w2 hb2 fc2 fg2 hc2 hf2 hz2 => ?_); try simp at hz2) | fail)
  go_ret2
  exact ⟨_, by rw [HQ.out]; rfl, by rw [HP.out]; exact Own.nil _ _ _ _, tB⟩
 rw [hf] at c2
 have hp : putInstVL true l m = insInstV l m := by unfold putInstVL; rw [hf, if_pos ⟨rfl, rfl⟩]
 have hq : putInstVC true l m = 0 := by unfold putInstVC; rw [hf]; rfl
 have HP := hid hp
 have HQ := hid hq
 have C1 := hid c1
 have C2 := hid c2
 clear hr c1 c2 hp hq hf hform
 rcases HFO.out with ⟨rfl, rfl, rfl⟩ | ⟨b, o, rfl⟩
 ·have c2' := C2.out
  simp only [List.length_nil] at c2'
  have C2' := hid c2'
  clear c2' C2
  go_enter Tryz.func113, Tryz.ntmps113
  go_wp2_with (first | (go_at_call 50; (with_reducible refine cM (C1.out _ tB) fun w1 hb1 fc1 fg1 hc1 hf1 hz1 => ?_); try simp at hz1) | (go_at_call 91; (with_reducible refine cM (C2'.out _ (HR.out.rd.keep tB)) fun w2 hb2 fc2 fg2 hc2 hf2 hz2 => ?_); try simp at hz2) | fail)
  refine wp_loop_rounds 1 ?_
  rw [rounds_succ]
  go_wp2_with fail
  go_quiet (fail)
  go_wp2_with (first | (at_builtin; refine wpList_app rfl _ _ _ rfl elInstV w2.heap.size _ [] rfl (Own.nil _ _ _ _) none 0 0 rfl [] rfl (fun _ => rfl) (fun i r h => by simp at h) (fun r h => by simp at h) (by unfold maxLen; simp) (by simp) tZ ?_; intro v1 w3 hown1 hb3; obtain ⟨fc3, fg3, hc3, hf3, hz3⟩ := bget hb3; (try simp at hz3)) | (at_builtin; refine wpList_app rfl _ _ _ rfl elInstV w2.heap.size _ _ rfl (hown1.alloc _) (some ⟨w3.heap.size, 0, none⟩) 1 1 rfl [encInstV m] rfl (fun h => by cases h) rd_one (rowsInstV [m]) (by unfold maxLen; simp) (by simp) tZ ?_; intro v2 w4 hown2 hb4; obtain ⟨fc4, fg4, hc4, hf4, hz4⟩ := bget hb4; (try simp at hz4)) | (at_builtin; refine wpList_app rfl _ _ _ rfl elInstV w2.heap.size _ _ rfl hown2 none 0 0 rfl [] rfl (fun _ => rfl) (fun i r h => by simp at h) (fun r h => by simp at h) (by unfold maxLen; simp) (by simp) tZ ?_; intro v3 w5 hown3 hb5) | fail)
  go_ret2
  exact ⟨_, by rw [HQ.out]; rfl, by rw [HP.out]; exact (by simpa [insInstV] using hown3.mono tZ), tB⟩
 ·have HF := hid HR.out.rd
  go_enter Tryz.func113, Tryz.ntmps113
  go_wp2_with (first | (go_at_call 50; (with_reducible refine cM (C1.out _ tB) fun w1 hb1 fc1 fg1 hc1 hf1 hz1 => ?_); try simp at hz1) | (go_at_call 91; (with_reducible refine cM (C2.out _ (HR.out.rd.keep tB)) fun w2 hb2 fc2 fg2 hc2 hf2 hz2 => ?_); try simp at hz2) | fail)
  go_loopw [9] (fun i wr => ∃ k : Nat, k ≤ l.length ∧ i = .int .i64 k ∧ Below w.heap.size w wr ∧ w.heap.size < wr.heap.size ∧ (wr.cell? ⟨w.heap.size, 0, none⟩ = some (.int .i64 m.id) ∧ wr.cell? ⟨w.heap.size, 1, none⟩ = some (.int .i64 m.mult) ∧ wr.cell? ⟨w.heap.size, 2, none⟩ = some (.int .i64 m.price) ∧ wr.cell? ⟨w.heap.size, 3, none⟩ = some (.int .i64 m.next) ∧ wr.cell? ⟨w.heap.size, 4, none⟩ = some (.slice m.moves.A m.moves.val.length m.moves.c)) ∧ ∀ j (_ : j < l.length), j < k → decide (l[j].id < m.id) = true) (fun i _ => l.length - (intOf i).toNat)
  case atStart => exact ⟨0, Nat.zero_le _, rfl, tB, tZ, by simp [go_sem, hc1, hc2, ↓IntWalk.iteOmega], fun j _ h => absurd h (by omega)⟩
  case round =>
   obtain ⟨k, hk, rfl, hbl, hsz, ⟨g0, g1, g2, g3, g4⟩, hno⟩ := hrel
   have Hbl := hid hbl
   have Hno := hid hno
   have hz := hbl.size
   clear hbl hno
   have kl : (k : Int) ≤ (l.length : Int) := by omega
   by_cases hlt : k < l.length
   ·obtain ⟨b', o', e, hb, hc⟩ := HF.out k (encInstV l[k]) (by simp [hlt])
    injection e with e
    injection e with e1 e2 _
    subst e1 e2
    have c0 := tC Hbl hb (hc 0 _ rfl)
    simp only [Nat.add_zero] at c0
    clear hc
    have hck : ¬ c = k := by omega
    have hck' : ¬ k = c := by omega
    have kl' : (k : Int) < (l.length : Int) := by omega
    cases hm : decide (l[k].id < m.id)
    ·have hw := while_cut (p := fun x : InstV => decide (x.id < m.id)) Hno.out hk (fun _ => hm)
     have hin : insInstV l m = l.take k ++ [m] ++ l.drop k := by unfold insInstV; rw [hw.1, hw.2]; simp
     have HIN := hid hin
     clear hw hin
     go_wp2_with fail
     go_quiet (fail)
     go_wp2_with (first | (at_builtin; refine wpList_app rfl _ _ _ rfl elInstV wr.heap.size _ [] rfl (Own.nil _ _ _ _) (some ⟨b, o, none⟩) k _ rfl ((l.take k).map encInstV) (by simp; omega) (fun h => by cases h) (by rw [List.map_take]; exact rd_take' (HF.out.keep (by have hbl := Hbl.out; exact tB)) k) (rowsInstV _) (by unfold maxLen; simp; omega) (by simp; omega) tZ ?_; intro v1 w3 hown1 hb3; obtain ⟨fc3, fg3, hc3, hf3, hz3⟩ := bget hb3; (try simp at hz3)) | (at_builtin; refine wpList_app rfl _ _ _ rfl elInstV wr.heap.size _ _ rfl (hown1.alloc _) (some ⟨w3.heap.size, 0, none⟩) 1 1 rfl [encInstV m] rfl (fun h => by cases h) rd_one (rowsInstV [m]) (by unfold maxLen; simp; omega) (by simp; omega) tZ ?_; intro v2 w4 hown2 hb4; obtain ⟨fc4, fg4, hc4, hf4, hz4⟩ := bget hb4; (try simp at hz4)) | (at_builtin; refine wpList_app rfl _ _ _ rfl elInstV wr.heap.size _ _ rfl hown2 (some ⟨b, o + k * 5, none⟩) (l.length - k) (c - k) rfl ((l.drop k).map encInstV) (by simp) (fun h => by cases h) (by rw [List.map_drop]; exact rd_dropR (HF.out.keep (by have hbl := Hbl.out; exact tB)) k) (rowsInstV _) (by unfold maxLen; simp; omega) (by simp; omega) tZ ?_; intro v3 w5 hown3 hb5) | (at_builtin; refine wpList_app rfl _ _ _ rfl elInstV wr.heap.size _ _ rfl hown2 (some ⟨b, o, none⟩) 0 0 rfl [] rfl (fun h => by cases h) (fun i r h => by simp at h) (fun r h => by simp at h) (by unfold maxLen; simp; omega) (by simp; omega) tZ ?_; intro v3 w5 hown3 hb5) | fail)
     go_ret2
     exact ⟨_, by rw [HQ.out]; rfl, by rw [HP.out, HIN.out]; exact (by simpa using hown3.mono tZ), by have hbl := Hbl.out; exact tB⟩
    ·have Hm := hid hm
     go_wp2_with fail
     go_quiet (fail)
     go_wp2_with fail
     go_roundw
     case rel => exact ⟨k + 1, by omega, by go_num, by have hbl := Hbl.out; exact tB, by simpa using hsz, by simp [go_sem, g0, g1, g2, g3, g4], fun j hj h => by
      rcases Nat.lt_or_ge j k with h1 | h1
      ·exact Hno.out j hj h1
      ·obtain rfl : j = k := by omega
       exact Hm.out⟩
     case measure => simp [intOf]; omega
   ·have hw := while_cut (p := fun x : InstV => decide (x.id < m.id)) Hno.out hk (fun h => absurd h hlt)
    have hin : insInstV l m = l.take k ++ [m] ++ l.drop k := by unfold insInstV; rw [hw.1, hw.2]; simp
    have HIN := hid hin
    clear hw hin
    have hd : decide ((k : Int) < (l.length : Int)) = false := by simp; omega
    by_cases hck : c = k
    ·obtain rfl : k = c := hck.symm
     go_wp2_with fail
     go_quiet (fail)
     go_wp2_with (first | (at_builtin; refine wpList_app rfl _ _ _ rfl elInstV wr.heap.size _ [] rfl (Own.nil _ _ _ _) (some ⟨b, o, none⟩) k _ rfl ((l.take k).map encInstV) (by simp; omega) (fun h => by cases h) (by rw [List.map_take]; exact rd_take' (HF.out.keep (by have hbl := Hbl.out; exact tB)) k) (rowsInstV _) (by unfold maxLen; simp; omega) (by simp; omega) tZ ?_; intro v1 w3 hown1 hb3; obtain ⟨fc3, fg3, hc3, hf3, hz3⟩ := bget hb3; (try simp at hz3)) | (at_builtin; refine wpList_app rfl _ _ _ rfl elInstV wr.heap.size _ _ rfl (hown1.alloc _) (some ⟨w3.heap.size, 0, none⟩) 1 1 rfl [encInstV m] rfl (fun h => by cases h) rd_one (rowsInstV [m]) (by unfold maxLen; simp; omega) (by simp; omega) tZ ?_; intro v2 w4 hown2 hb4; obtain ⟨fc4, fg4, hc4, hf4, hz4⟩ := bget hb4; (try simp at hz4)) | (at_builtin; refine wpList_app rfl _ _ _ rfl elInstV wr.heap.size _ _ rfl hown2 (some ⟨b, o + k * 5, none⟩) (l.length - k) (c - k) rfl ((l.drop k).map encInstV) (by simp) (fun h => by cases h) (by rw [List.map_drop]; exact rd_dropR (HF.out.keep (by have hbl := Hbl.out; exact tB)) k) (rowsInstV _) (by unfold maxLen; simp; omega) (by simp; omega) tZ ?_; intro v3 w5 hown3 hb5) | (at_builtin; refine wpList_app rfl _ _ _ rfl elInstV wr.heap.size _ _ rfl hown2 (some ⟨b, o, none⟩) 0 0 rfl [] rfl (fun h => by cases h) (fun i r h => by simp at h) (fun r h => by simp at h) (by unfold maxLen; simp; omega) (by simp; omega) tZ ?_; intro v3 w5 hown3 hb5) | fail)
     go_ret2
     exact ⟨_, by rw [HQ.out]; rfl, by rw [HP.out, HIN.out, List.drop_eq_nil_of_le (show l.length ≤ k from by omega)]; exact (by simpa using hown3.mono tZ), by have hbl := Hbl.out; exact tB⟩
    ·have hck' : ¬ k = c := fun h => hck h.symm
     go_wp2_with fail
     go_quiet (fail)
     go_wp2_with (first | (at_builtin; refine wpList_app rfl _ _ _ rfl elInstV wr.heap.size _ [] rfl (Own.nil _ _ _ _) (some ⟨b, o, none⟩) k _ rfl ((l.take k).map encInstV) (by simp; omega) (fun h => by cases h) (by rw [List.map_take]; exact rd_take' (HF.out.keep (by have hbl := Hbl.out; exact tB)) k) (rowsInstV _) (by unfold maxLen; simp; omega) (by simp; omega) tZ ?_; intro v1 w3 hown1 hb3; obtain ⟨fc3, fg3, hc3, hf3, hz3⟩ := bget hb3; (try simp at hz3)) | (at_builtin; refine wpList_app rfl _ _ _ rfl elInstV wr.heap.size _ _ rfl (hown1.alloc _) (some ⟨w3.heap.size, 0, none⟩) 1 1 rfl [encInstV m] rfl (fun h => by cases h) rd_one (rowsInstV [m]) (by unfold maxLen; simp; omega) (by simp; omega) tZ ?_; intro v2 w4 hown2 hb4; obtain ⟨fc4, fg4, hc4, hf4, hz4⟩ := bget hb4; (try simp at hz4)) | (at_builtin; refine wpList_app rfl _ _ _ rfl elInstV wr.heap.size _ _ rfl hown2 (some ⟨b, o + k * 5, none⟩) (l.length - k) (c - k) rfl ((l.drop k).map encInstV) (by simp) (fun h => by cases h) (by rw [List.map_drop]; exact rd_dropR (HF.out.keep (by have hbl := Hbl.out; exact tB)) k) (rowsInstV _) (by unfold maxLen; simp; omega) (by simp; omega) tZ ?_; intro v3 w5 hown3 hb5) | (at_builtin; refine wpList_app rfl _ _ _ rfl elInstV wr.heap.size _ _ rfl hown2 (some ⟨b, o, none⟩) 0 0 rfl [] rfl (fun h => by cases h) (fun i r h => by simp at h) (fun r h => by simp at h) (by unfold maxLen; simp; omega) (by simp; omega) tZ ?_; intro v3 w5 hown3 hb5) | fail)
     go_ret2
     exact ⟨_, by rw [HQ.out]; rfl, by rw [HP.out, HIN.out]; exact (by simpa using hown3.mono tZ), by have hbl := Hbl.out; exact tB⟩
theorem own_formInstV {w : World} {base : Nat} {v : Value} {l : List InstV} (h : Own w base 58 5 v (l.map encInstV)) : ∃ A c, v = .slice A l.length c ∧ Rs w 5 (l.map encInstV) A c ∧ ((A = none ∧ l = [] ∧ c = 0) ∨ ∃ b o, A = some ⟨b, o, none⟩) := by
 obtain ⟨A, c, h1, h2, h3⟩ := h.rs
 rw [List.length_map] at h1
 refine ⟨A, c, h1, h2, ?_⟩
 rcases h3 with ⟨ha, hr, hc⟩ | ⟨g, ha, _⟩
 ·exact .inl ⟨ha, List.map_eq_nil_iff.1 hr, hc⟩
 ·exact .inr ⟨g, 0, ha⟩
theorem ref13Table (okf : InstV → Bool) (l : List InstV) (A : Option Addr) (c : Nat) (w : World) (hl : l.length ≤ maxLen) (hr : Rd w A 5 (l.map encInstV))
  (his : ∀ m ∈ l, ∀ W, Below w.heap.size w W → Calls Tryz.prog 50 #[.agg #[.int .i64 m.id, .int .i64 m.mult, .int .i64 m.price, .int .i64 m.next, .slice m.moves.A m.moves.val.length m.moves.c]] W fun e w' => e = .returned (.bool (okf m)) ∧ Below W.heap.size W w') :
  Calls Tryz.prog 73 #[.slice A l.length c] w fun e w' => ∃ v, e = .returned v ∧ Own w' w.heap.size 58 5 v ((tabInstVN okf l 10).map encInstV) ∧ Below w.heap.size w w' := by
 have HR := hid hr
 have HIS := hid his
 have hml : (l.length : Int) ≤ 9223372036854775807 := by unfold maxLen at hl; omega
 clear hr hl his
 go_enter Tryz.func73, Tryz.ntmps73
 go_wp2_with fail
 go_loopw [3, 4] (fun v i wr => ∃ k : Nat, k ≤ l.length ∧ k ≤ 10 ∧ i = .int .i64 k ∧ Own wr w.heap.size 58 5 v ((tabInstVN okf l k).map encInstV) ∧ Below w.heap.size w wr) (fun _ i _ => l.length - (intOf i).toNat)
 case atStart => exact ⟨0, Nat.zero_le _, Nat.zero_le _, rfl, Own.nil _ _ _ _, Below.refl _ _⟩
 case round =>
  obtain ⟨k, hk, hk10, rfl, hown, hbl⟩ := hrel
  have Hbl := hid hbl
  have Hown := hid hown
  have hz := hbl.size
  clear hbl hown
  by_cases hgo : k < l.length ∧ k < 10
  ·obtain ⟨hlt, h10⟩ := hgo
   have kl : (k : Int) < (l.length : Int) := by omega
   have k10 : (k : Int) < 10 := by omega
   have d10 : decide ((k : Int) < 10) = true := by simpa using k10
   obtain ⟨A1, c1, hv1, hms, hfo⟩ := own_formInstV Hown.out
   have Hms := hid hms
   have Hfo := hid hfo
   have hlen := tabInstVN_len okf l k
   subst hv1
   obtain ⟨b, o, rfl, hb, hc⟩ := HR.out k (encInstV l[k]) (by simp [hlt])
   have e0 := tC Hbl hb (hc 0 _ rfl)
   have e1 := tC Hbl hb (hc 1 _ rfl)
   have e2 := tC Hbl hb (hc 2 _ rfl)
   have e3 := tC Hbl hb (hc 3 _ rfl)
   have e4 := tC Hbl hb (hc 4 _ rfl)
   simp only [Nat.add_zero] at e0
   have hs := tabInstVN_succ (okf := okf) hlt
   have HS := hid hs
   have hst : stepInstV okf (tabInstVN okf l k) l[k] = if putInstVC (okf l[k]) (tabInstVN okf l k) l[k] = 0 then putInstVL (okf l[k]) (tabInstVN okf l k) l[k] else tabInstVN okf l k := rfl
   have HST := hid hst
   have HI := hid (fun W (h : Below wr.heap.size wr W) => HIS.out l[k] (List.getElem_mem hlt) W (Hbl.out.trans (h.mono hz)))
   clear hc hms hs hst hfo
   cases hq : (putInstVC (okf l[k]) (tabInstVN okf l k) l[k] == 0)
   ·have HQ := hid (show ¬ putInstVC (okf l[k]) (tabInstVN okf l k) l[k] = 0 from by simpa using hq)
    go_wp2_with (go_at_call 113; (with_reducible refine (ref13Put (okf l[k]) (tabInstVN okf l k) l[k] A1 c1 _ (by omega) Hms.out Hfo.out HI.out).mono ?_); rintro e w1 ⟨v1, rfl, hown1, hb1⟩; have Hown1 := hid hown1; have Hb1 := hid hb1; have hz1 := hb1.size; clear hown1 hb1)
    go_roundw
    case rel => exact ⟨k + 1, by omega, by omega, by go_num, by rw [HS.out, HST.out, if_neg HQ.out]; exact Hown.out.keep Hb1.out, Hbl.out.trans (Hb1.out.mono hz)⟩
    case measure => simp [intOf]; omega
   ·have HQ := hid (show putInstVC (okf l[k]) (tabInstVN okf l k) l[k] = 0 from by simpa using hq)
    go_wp2_with (go_at_call 113; (with_reducible refine (ref13Put (okf l[k]) (tabInstVN okf l k) l[k] A1 c1 _ (by omega) Hms.out Hfo.out HI.out).mono ?_); rintro e w1 ⟨v1, rfl, hown1, hb1⟩; have Hown1 := hid hown1; have Hb1 := hid hb1; have hz1 := hb1.size; clear hown1 hb1)
    go_roundw
    case rel => exact ⟨k + 1, by omega, by omega, by go_num, by rw [HS.out, HST.out, if_pos HQ.out]; exact Hown1.out.mono hz, Hbl.out.trans (Hb1.out.mono hz)⟩
    case measure => simp [intOf]; omega
  ·have ht := tabInstV_at (okf := okf) (l := l) (k := k) (n := 10) (by omega)
   have HT := hid ht
   clear ht
   by_cases hlt : k < l.length
   ·have d1 := @dT k l.length hlt
    have d2 : decide ((k : Int) < 10) = false := by simp; omega
    go_wp2_with fail
    go_ret
    exact ⟨_, rfl, by rw [← HT.out]; exact Hown.out, Hbl.out⟩
   ·have d1 := @dF k l.length hlt
    go_wp2_with fail
    go_ret
    exact ⟨_, rfl, by rw [← HT.out]; exact Hown.out, Hbl.out⟩
def short9 (x : InstV) : InstV := { x with moves := ⟨x.moves.A, x.moves.c, x.moves.val.take 9⟩ }
theorem good9 {w : World} {x : InstV} (h : GoodI w x) : GoodI w (short9 x) ∧ (short9 x).moves.val.length ≤ 9 := by
 refine ⟨?_, by simp [short9]; omega⟩
 unfold GoodI at *
 have := h.take 9
 rw [← List.map_take] at this
 exact this
def insts10 (l : List InstV) : List InstV := tabInstVN okV ((l.take 10).map short9) 10
theorem put_mem20 {ob : Bool} {t : List InstV} {m x : InstV} (h : x ∈ putInstVL ob t m) : x ∈ t ∨ x = m := by
 unfold putInstVL at h
 split at h
 ·unfold insInstV at h
  rcases List.mem_append.1 h with h | h
  ·exact .inl ((List.takeWhile_sublist _).subset h)
  ·rcases List.mem_cons.1 h with h | h
   ·exact .inr h
   ·exact .inl ((List.dropWhile_sublist _).subset h)
 ·cases h
theorem tab_mem20 (okf : InstV → Bool) (l : List InstV) : ∀ k, ∀ x ∈ tabInstVN okf l k, x ∈ l
 | 0, x, h => by simp [tabInstVN] at h
 | k + 1, x, h => by
  rcases Nat.lt_or_ge k l.length with hk | hk
  ·rw [tabInstVN_succ hk] at h
   unfold stepInstV at h
   split at h
   ·rcases put_mem20 h with h | h
    ·exact tab_mem20 okf l k x h
    ·subst h; exact List.getElem_mem hk
   ·exact tab_mem20 okf l k x h
  ·have e : tabInstVN okf l (k + 1) = tabInstVN okf l k := by unfold tabInstVN; rw [List.take_of_length_le (by omega), List.take_of_length_le hk]
   rw [e] at h
   exact tab_mem20 okf l k x h
theorem insts_good {w : World} {l : List InstV} (h : ∀ x ∈ l, GoodI w x) : ∀ x ∈ insts10 l, x.moves.val.length ≤ 9 ∧ GoodI w x := by
 intro x hx
 have h1 := tab_mem20 _ _ _ x hx
 obtain ⟨y, hy, rfl⟩ := List.mem_map.1 h1
 have := good9 (h y (List.mem_of_mem_take hy))
 exact ⟨this.2, this.1⟩
theorem insts_len (l : List InstV) : (insts10 l).length ≤ 10 := tabInstVN_len _ _ _
theorem row5 (a b c d : Int) (A : Option Addr) (n m : Nat) : ∀ r ∈ [[Value.int .i64 a, .int .i64 b, .int .i64 c, .int .i64 d, .slice A n m]], r.length = 5 ∧ ∀ u ∈ r, u.oneCell' = true := by
 intro r hr
 simp only [List.mem_singleton] at hr
 subst hr
 refine ⟨rfl, ?_⟩
 simp only [List.mem_cons, List.not_mem_nil, or_false, forall_eq_or_imp, forall_eq]
 exact ⟨rfl, rfl, rfl, rfl, rfl⟩
theorem law20Insts (l : List InstV) (A : Option Addr) (c : Nat) (w : World) (hl : l.length ≤ maxLen) (hr : Rd w A 5 (l.map encInstV)) (hg : ∀ x ∈ l, GoodI w x) :
  Calls Tryz.prog 36 #[.slice A l.length c] w fun e w' => ∃ v, e = .returned v ∧ Own w' w.heap.size 58 5 v ((insts10 l).map encInstV) ∧ Below w.heap.size w w' := by
 have HR := hid hr
 have HG := hid hg
 have hml : (l.length : Int) ≤ 9223372036854775807 := by unfold maxLen at hl; omega
 have htb := fun (W : World) (A : Option Addr) (c : Nat) (hb : Below w.heap.size w W) (hrs : Rs W 5 (((l.take 10).map short9).map encInstV) A c) => ref13Table okV ((l.take 10).map short9) A c W (by rw [List.length_map, List.length_take]; unfold maxLen; omega) hrs.rd (fun m hm W' hW' => ref13IsV m W' (by
  obtain ⟨y, hy, rfl⟩ := List.mem_map.1 hm
  have := (good9 (hg y (List.mem_of_mem_take hy))).2; omega) (by
  obtain ⟨y, hy, rfl⟩ := List.mem_map.1 hm
  exact (good9 (hg y (List.mem_of_mem_take hy))).1.keep (hb.trans (hW'.mono hb.size))))
 obtain ⟨fl, hfl⟩ : ∃ fl, fl = (l.take 10).map short9 := ⟨_, rfl⟩
 have hin : insts10 l = tabInstVN okV fl 10 := by unfold insts10; rw [hfl]
 rw [← hfl] at htb
 rw [hin]
 have HFL := hid hfl
 have HTB := hid htb
 clear hr hg hl htb hfl hin
 go_enter Tryz.func36, Tryz.ntmps36
 go_wp2_with fail
 go_loopw [3, 4] (fun v i wr => ∃ q : Nat, q ≤ l.length ∧ q ≤ 10 ∧ i = .int .i64 q ∧ Own wr w.heap.size 58 5 v (((l.take q).map short9).map encInstV) ∧ Below w.heap.size w wr) (fun _ i _ => l.length - (intOf i).toNat)
 case atStart => exact ⟨0, Nat.zero_le _, Nat.zero_le _, rfl, Own.nil _ _ _ _, tB⟩
 case round =>
  obtain ⟨q, hq, hq10, rfl, hown, hbl⟩ := hrel
  have Hown := hid hown
  have Hbl := hid hbl
  have hz := hbl.size
  clear hown hbl
  by_cases hgo : q < l.length ∧ q < 10
  ·obtain ⟨hlt, h10⟩ := hgo
   have hqi : (q : Int) < (l.length : Int) := by omega
   have dl := @dT q l.length hlt
   have d10 : decide ((q : Int) < 10) = true := by simp; omega
   have hx := HG.out l[q] (List.getElem_mem hlt)
   have hlen : ((l.take q).map short9).length ≤ 10 := by simp; omega
   obtain ⟨b, o, rfl, hb, hc⟩ := HR.out q (encInstV l[q]) (by simp [hlt])
   have e0 := tC Hbl hb (hc 0 _ rfl)
   have e1 := tC Hbl hb (hc 1 _ rfl)
   have e2 := tC Hbl hb (hc 2 _ rfl)
   have e3 := tC Hbl hb (hc 3 _ rfl)
   have e4 := tC Hbl hb (hc 4 _ rfl)
   simp only [Nat.add_zero] at e0
   clear hc
   have hcap := hx.cap
   have hroom := hx.room
   rw [List.length_map] at hcap
   unfold maxLen at hroom
   by_cases h9 : 9 < l[q].moves.val.length
   ·have d9 : decide (9 < (l[q].moves.val.length : Int)) = true := by simp; omega
    obtain ⟨bm, om, hA, hbm, _⟩ := hx.rd 0 (encI (l[q].moves.val[0]'(by omega))) (by rw [List.getElem?_map, List.getElem?_eq_getElem (by omega)]; rfl)
    rw [hA] at e4
    have HS : Hid (((l.take (q + 1)).map short9).map encInstV = ((l.take q).map short9).map encInstV ++ [[.int .i64 l[q].id, .int .i64 l[q].mult, .int .i64 l[q].price, .int .i64 l[q].next, .slice (some ⟨bm, om, none⟩) 9 l[q].moves.c]]) := by
     unfold Hid
     rw [map_snoc hlt short9, List.map_append]
     congr 1
     simp [encInstV, short9, hA]
     omega
    clear hx hA
    have n9 : 9 ≤ l[q].moves.c := by omega
    have n9i : (9 : Int) ≤ (l[q].moves.c : Int) := by omega
    go_wp2_with (at_builtin; refine wpList_app rfl _ _ _ rfl elInstV w.heap.size _ _ rfl (Hown.out.keep tB) (some ⟨_, 0, none⟩) 1 1 rfl [[.int .i64 l[q].id, .int .i64 l[q].mult, .int .i64 l[q].price, .int .i64 l[q].next, .slice (some ⟨bm, om, none⟩) 9 l[q].moves.c]] rfl (fun h => by cases h) (rd_oneN (by simp)) (row5 _ _ _ _ _ _ _) (by unfold maxLen; simp; omega) (by simp; omega) tZ ?_; intro v3 w3 hown3 hb3)
    go_roundw
    case rel => exact ⟨q + 1, by omega, by omega, by go_num, by rw [HS.out]; exact hown3, by have hbl := Hbl.out; exact tB⟩
    case measure => simp [intOf]; omega
   ·have d9 : decide (9 < (l[q].moves.val.length : Int)) = false := by simp; omega
    have HS : Hid (((l.take (q + 1)).map short9).map encInstV = ((l.take q).map short9).map encInstV ++ [[.int .i64 l[q].id, .int .i64 l[q].mult, .int .i64 l[q].price, .int .i64 l[q].next, .slice l[q].moves.A l[q].moves.val.length l[q].moves.c]]) := by
     unfold Hid
     rw [map_snoc hlt short9, List.map_append]
     congr 1
     simp [encInstV, short9]
     omega
    clear hx
    go_wp2_with (at_builtin; refine wpList_app rfl _ _ _ rfl elInstV w.heap.size _ _ rfl (Hown.out.keep tB) (some ⟨_, 0, none⟩) 1 1 rfl [[.int .i64 l[q].id, .int .i64 l[q].mult, .int .i64 l[q].price, .int .i64 l[q].next, .slice l[q].moves.A l[q].moves.val.length l[q].moves.c]] rfl (fun h => by cases h) (rd_oneN (by simp)) (row5 _ _ _ _ _ _ _) (by unfold maxLen; simp; omega) (by simp; omega) tZ ?_; intro v3 w3 hown3 hb3)
    go_roundw
    case rel => exact ⟨q + 1, by omega, by omega, by go_num, by rw [HS.out]; exact hown3, by have hbl := Hbl.out; exact tB⟩
    case measure => simp [intOf]; omega
  ·have HT := hid (show (l.take q).map short9 = fl from by
    rw [HFL.out]
    congr 1
    rcases Nat.lt_or_ge q 10 with h | h
    ·rw [List.take_of_length_le (by omega), List.take_of_length_le (by omega)]
    ·rw [show q = 10 by omega])
   have hown := Hown.out
   rw [HT.out] at hown
   obtain ⟨A4, c4, rfl, hrs4, _⟩ := own_formInstV hown
   have HRS := hid hrs4
   clear hown hrs4
   by_cases hlt : q < l.length
   ·have dl := @dT q l.length hlt
    have d10 : decide ((q : Int) < 10) = false := by simp; omega
    go_wp2_with (go_at_call 73; (with_reducible refine (HTB.out _ _ _ (by have hbl := Hbl.out; exact tB) (by have h1 := HRS.out; exact h1)).mono ?_); rintro e w5 ⟨v5, rfl, hown5, hb5⟩; obtain ⟨fc5, fg5, hc5, hf5, hz5⟩ := bget hb5; (try simp at hz5))
    go_ret
    exact ⟨_, rfl, hown5.mono (by omega), by have hbl := Hbl.out; exact tB⟩
   ·have dl := @dF q l.length hlt
    go_wp2_with (go_at_call 73; (with_reducible refine (HTB.out _ _ _ (by have hbl := Hbl.out; exact tB) (by have h1 := HRS.out; exact h1)).mono ?_); rintro e w5 ⟨v5, rfl, hown5, hb5⟩; obtain ⟨fc5, fg5, hc5, hf5, hz5⟩ := bget hb5; (try simp at hz5))
    go_ret
    exact ⟨_, rfl, hown5.mono (by omega), by have hbl := Hbl.out; exact tB⟩
end Go.Proofs.YtalgfpegaobacaaGreatDoor
