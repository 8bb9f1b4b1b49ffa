/- Joined. -/
import Derived.Test.YtalgfpegaobacaaGreatDoorQb4
namespace Go.Proofs.YtalgfpegaobacaaGreatDoor
set_option linter.all false
set_option maxHeartbeats 16000000
set_option maxRecDepth 100000
open Go.RowKit
open Lib (hid)
theorem pred_Ch {k : Nat} (h : 1 ≤ k) (hk : k ≤ 1000000) : (0 : Int) ≤ (k : Int) - 1 ∧ ((k : Int) - 1).toNat = k - 1 ∧ IntKind.i64.wrap ((k : Int) - 1) = (k : Int) - 1 :=
 ⟨by omega, by omega, IntWalk.i64_in _ (by omega)⟩
theorem ref16IsW (l : List Choice) (A : Option Addr) (c : Nat) (w : World) (hl : l.length ≤ 1000) (hr : Rd w A 5 (l.map encChoice)) :
  Calls Tryz.prog 54 #[.slice A l.length c] w fun e w' => ∃ b, e = .returned (.bool b) ∧ Below w.heap.size w w' := by
 have HR := hid hr
 clear hr
 go_enter Tryz.func54, Tryz.ntmps54
 go_wp2_with fail
 go_loopw [3] (fun i wr => ∃ k : Nat, k ≤ l.length ∧ i = .int .i64 k ∧ Below w.heap.size w wr) (fun i _ => l.length - (intOf i).toNat)
 case atStart => exact ⟨0, Nat.zero_le _, rfl, Below.refl _ _⟩
 case round =>
  obtain ⟨k, hk, rfl, hbl⟩ := hrel
  have Hbl := hid hbl
  have hz := hbl.size
  clear hbl
  by_cases hlt : k < l.length
  ·have kl : (k : Int) < (l.length : Int) := by omega
   have dl := @dT k l.length hlt
   obtain ⟨b, o, rfl, hb, hc⟩ := HR.out k (encChoice l[k]) (by simp [hlt])
   have e0 := tC Hbl hb (hc 0 _ rfl)
   have e1 := tC Hbl hb (hc 1 _ rfl)
   have e2 := tC Hbl hb (hc 2 _ rfl)
   have e3 := tC Hbl hb (hc 3 _ rfl)
   simp only [Nat.add_zero] at e0
   clear hc
   have hbw : b < wr.heap.size := by omega
   have hun : ((l[k].frm.acc == l[k].too.acc) = true ∧ (l[k].frm.cli == l[k].too.cli) = true) ∨ ((l[k].frm.acc == l[k].too.acc) = false) ∨ ((l[k].frm.acc == l[k].too.acc) = true ∧ (l[k].frm.cli == l[k].too.cli) = false) := by
    simp only [beq_iff_eq, beq_eq_false_iff_ne, ne_eq]
    omega
   rcases Nat.eq_zero_or_pos k with k0 | k0
   ·have g0 : decide (0 < k) = false := by simp; omega
    have g1 : decide ((0 : Int) < (k : Int)) = false := by simp; omega
    clear k0
    generalize l[k] = x at *
    rcases hun with ⟨u0, u1⟩ | u0 | ⟨u0, u1⟩
    ·rw [← eq_of_beq u0] at e2
     rw [← eq_of_beq u1] at e3
     clear u0 u1
     go_wp2_with fail
     go_quiet (fail)
     go_wp2_with fail
     go_ret
     exact ⟨_, rfl, by have hbl := Hbl.out; exact tB⟩
    all_goals
     go_wp2_with fail
     go_quiet (fail)
     go_wp2_with fail
     go_roundw
     case rel => exact ⟨k + 1, by omega, by go_num, by have hbl := Hbl.out; exact tB⟩
     case measure => simp [intOf]; omega
   ·have g0 : decide (0 < k) = true := by simpa using k0
    have g1 : decide ((0 : Int) < (k : Int)) = true := by simp; omega
    obtain ⟨b1, o1, q1, hb1, hc1⟩ := HR.out (k - 1) (encChoice (l[k - 1]'(by omega))) (by rw [List.getElem?_map, List.getElem?_eq_getElem (by omega)]; rfl)
    injection q1 with q1
    injection q1 with q1 q2 _
    subst q1 q2
    have f0 := tC Hbl hb (hc1 0 _ rfl)
    have f1 := tC Hbl hb (hc1 1 _ rfl)
    simp only [Nat.add_zero] at f0
    clear hc1 hb1
    have hk1 : k - 1 < l.length := by omega
    generalize l[k - 1] = z at *
    generalize l[k] = x at *
    have co := fun W => ref15Less z.frm x.frm W
    generalize lessU z.frm x.frm = lo at *
    have CO := hid co
    clear co
    have lk : (k : Int) - 1 < (l.length : Int) := by omega
    have k1 : (1 : Int) ≤ (k : Int) := by omega
    have k2 : 1 ≤ k := by omega
    have lk2 : (k : Int) ≤ (l.length : Int) := by omega
    have lk3 : (k : Int) < (l.length : Int) + 1 := by omega
    have lk4 : k < l.length + 1 := by omega
    obtain ⟨nk, tk, wk⟩ := pred_Ch k2 (by omega)
    rcases hun with ⟨u0, u1⟩ | u0 | ⟨u0, u1⟩
    ·rw [← eq_of_beq u0] at e2
     rw [← eq_of_beq u1] at e3
     clear u0 u1
     go_wp2_with fail
     go_quiet (fail)
     clear nk tk wk
     go_wp2_with fail
     go_ret
     exact ⟨_, rfl, by have hbl := Hbl.out; exact tB⟩
    all_goals
     cases lo
     ·go_wp2_with fail
      go_region_held3 (fun w' => (w'.cell? ⟨b, o + k * 5, none⟩ = some (.int .i64 x.frm.acc) ∧ w'.cell? ⟨b, o + k * 5 + 1, none⟩ = some (.int .i64 x.frm.cli) ∧ w'.cell? ⟨b, o + k * 5 + 2, none⟩ = some (.int .i64 x.too.acc) ∧ w'.cell? ⟨b, o + k * 5 + 3, none⟩ = some (.int .i64 x.too.cli)) ∧ w'.cell? ⟨b, o + (k - 1) * 5, none⟩ = some (.int .i64 z.frm.acc) ∧ w'.cell? ⟨b, o + (k - 1) * 5 + 1, none⟩ = some (.int .i64 z.frm.cli)) (exact tK) (first | (go_at_call 57; (with_reducible refine cM (CO.out _) fun w2 hb2 fc2 fg2 hc2 hf2 hz2 => ?_); (try simp at hz2)) | fail)
      all_goals
       clear nk tk wk
       go_wp2_with fail
       go_ret
       exact ⟨_, rfl, by have hbl := Hbl.out; exact tB⟩
     ·go_wp2_with fail
      go_region_held3 (fun w' => (w'.cell? ⟨b, o + k * 5, none⟩ = some (.int .i64 x.frm.acc) ∧ w'.cell? ⟨b, o + k * 5 + 1, none⟩ = some (.int .i64 x.frm.cli) ∧ w'.cell? ⟨b, o + k * 5 + 2, none⟩ = some (.int .i64 x.too.acc) ∧ w'.cell? ⟨b, o + k * 5 + 3, none⟩ = some (.int .i64 x.too.cli)) ∧ w'.cell? ⟨b, o + (k - 1) * 5, none⟩ = some (.int .i64 z.frm.acc) ∧ w'.cell? ⟨b, o + (k - 1) * 5 + 1, none⟩ = some (.int .i64 z.frm.cli)) (exact tK) (first | (go_at_call 57; (with_reducible refine cM (CO.out _) fun w2 hb2 fc2 fg2 hc2 hf2 hz2 => ?_); (try simp at hz2)) | fail)
      all_goals
       clear nk tk wk
       go_wp2_with fail
       go_roundw
       case rel => exact ⟨k + 1, by omega, by go_num, by have hbl := Hbl.out; exact tB⟩
       case measure => simp [intOf]; omega
  ·have dl := @dF k l.length hlt
   go_wp2_with fail
   go_ret
   exact ⟨_, rfl, Hbl.out⟩
end Go.Proofs.YtalgfpegaobacaaGreatDoor
