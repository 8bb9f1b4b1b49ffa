/- Joined. -/
import Derived.Test.YtalgfpegaobacaaGreatDoorQa2
import Derived.Test.YtalgfpegaobacaaGreatDoorQz15
import Derived.Test.YtalgfpegaobacaaGreatDoorQa8
namespace Go.Proofs.YtalgfpegaobacaaGreatDoor
set_option linter.all false
set_option maxHeartbeats 8000000
set_option maxRecDepth 100000
open Go.RowKit
open Lib (hid)
theorem refPosVOf (l : List PosV) (u : Un) (A : Option Addr) (c : Nat) (w : World) (hl : l.length ≤ 1000000) (hr : Rd w A 3 (l.map encPosV)) (hg : ∀ x ∈ l, GoodPosV w x) :
  Calls Tryz.prog 87 #[.slice A l.length c, .agg #[.int .i64 u.acc, .int .i64 u.cli]] w fun e w' => ∃ A2 c2, e = .returned (.slice A2 (ofK (l.map lgPosV) u).length c2) ∧ Rs w' 2 ((ofK (l.map lgPosV) u).map encLeg) A2 c2 ∧ Below w.heap.size w w' := by
 have HR := hid hr
 have HG := hid hg
 clear hr hg
 obtain ⟨R, hR⟩ : ∃ R, R = ofK (l.map lgPosV) u := ⟨_, rfl⟩
 rw [← hR]
 have HRR := hid hR
 clear hR
 go_enter Tryz.func87, Tryz.ntmps87
 go_wp2_with fail
 go_loopw [5] (fun i wr => ∃ k : Nat, k ≤ l.length ∧ i = .int .i64 k ∧ R = ofK ((l.drop k).map lgPosV) u ∧ Below w.heap.size w wr ∧ w.heap.size < wr.heap.size ∧ wr.cell? ⟨w.heap.size, 0, none⟩ = some (.int .i64 u.acc) ∧ wr.cell? ⟨w.heap.size, 1, none⟩ = some (.int .i64 u.cli)) (fun i _ => l.length - (intOf i).toNat)
 case atStart => exact ⟨0, Nat.zero_le _, rfl, HRR.out, tB, by simp, by simp [go_sem], by simp [go_sem]⟩
 case round =>
  obtain ⟨k, hk, rfl, hv, hbl, hsz, g0, g1⟩ := hrel
  have HV := hid hv
  have Hbl := hid hbl
  have hz := hbl.size
  clear hv hbl
  by_cases hlt : k < l.length
  ·have kl : (k : Int) < (l.length : Int) := by omega
   have dl := @dT k l.length hlt
   have hgk := HG.out l[k] (List.getElem_mem hlt)
   have HGK := hid (hgk.2.keep Hbl.out)
   have hd := lg_atPosV hlt
   clear hgk
   obtain ⟨b, o, rfl, hb, hc⟩ := HR.out k (encPosV l[k]) (by simp [hlt])
   have e0 := tC Hbl hb (hc 0 _ rfl)
   have e1 := tC Hbl hb (hc 1 _ rfl)
   have e2 := tC Hbl hb (hc 2 _ rfl)
   simp only [Nat.add_zero] at e0
   clear hc
   have hbw : b < wr.heap.size := by omega
   rcases un_tPosV (x := l[k].unit) (u := u) with h | h
   ·have HN := hid (show R = l[k].legs.val from by rw [HV.out, hd]; unfold ofK; rw [if_pos (show (lgPosV l[k]).unit = u from h)]; rfl)
    rw [h] at e0 e1
    clear hd h
    go_wp2_with fail
    go_quiet (fail)
    go_wp2_with fail
    go_ret
    exact ⟨l[k].legs.A, l[k].legs.c, by rw [HN.out]; rfl, by rw [HN.out]; exact HGK.out.keep tB, by have hbl := Hbl.out; exact tB⟩
   ·have HN := hid (show R = ofK ((l.drop (k + 1)).map lgPosV) u from by rw [HV.out, hd, ofK, if_neg (show ¬ (lgPosV l[k]).unit = u from un_dPosV h)])
    clear hd
    rcases h with h | h
    all_goals
     go_wp2_with fail
     go_quiet (fail)
     go_wp2_with fail
     go_roundw
     case rel => exact ⟨k + 1, by omega, by go_num, HN.out, by have hbl := Hbl.out; exact tB, by simp; omega, by simp [go_sem, g0, hsz, ↓IntWalk.iteOmega], by simp [go_sem, g1, hsz, ↓IntWalk.iteOmega]⟩
     case measure => simp [intOf]; omega
  ·have dl := @dF k l.length hlt
   have HD := hid (show R = [] from by rw [HV.out, drop_all (l := l) (k := k) (by omega)]; rfl)
   go_wp2_with fail
   go_ret
   exact ⟨none, 0, by rw [HD.out]; rfl, by rw [HD.out]; exact Rs.empty _ _, by have hbl := Hbl.out; exact tB⟩
end Go.Proofs.YtalgfpegaobacaaGreatDoor
