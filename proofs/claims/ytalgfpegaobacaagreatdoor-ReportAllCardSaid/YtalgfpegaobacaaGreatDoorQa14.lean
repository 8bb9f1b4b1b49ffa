/- Joined. -/
import Derived.Test.YtalgfpegaobacaaGreatDoorQa10
import Derived.Test.YtalgfpegaobacaaGreatDoorQa13
namespace Go.Proofs.YtalgfpegaobacaaGreatDoor
set_option linter.all false
set_option maxHeartbeats 8000000
set_option maxRecDepth 100000
open Go.RowKit
open Lib (hid)
theorem ref25Has (l : List Un) (u : Un) (A : Option Addr) (c : Nat) (w : World) (hl : l.length ≤ 2000000) (hr : Rd w A 2 (l.map encUn)) :
  Calls Tryz.prog 124 #[.slice A l.length c, .agg #[.int .i64 u.acc, .int .i64 u.cli]] w fun e w' => e = .returned (.bool (decide (u ∈ l))) ∧ Below w.heap.size w w' := by
 have HR := hid hr
 clear hr
 obtain ⟨R, hR⟩ : ∃ R, R = decide (u ∈ l) := ⟨_, rfl⟩
 rw [← hR]
 have HRR := hid hR
 clear hR
 go_enter Tryz.func124, Tryz.ntmps124
 go_wp2_with fail
 go_loopw [5] (fun i wr => ∃ k : Nat, k ≤ l.length ∧ i = .int .i64 k ∧ R = decide (u ∈ l.drop k) ∧ Below w.heap.size w wr ∧ w.heap.size < wr.heap.size ∧ wr.cell? ⟨w.heap.size, 0, none⟩ = some (.int .i64 u.acc) ∧ wr.cell? ⟨w.heap.size, 1, none⟩ = some (.int .i64 u.cli)) (fun i _ => l.length - (intOf i).toNat)
 case atStart => exact ⟨0, Nat.zero_le _, rfl, HRR.out, tB, by simp, by simp [go_sem], by simp [go_sem]⟩
 case round =>
  obtain ⟨k, hk, rfl, hv, hbl, hsz, g0, g1⟩ := hrel
  have HV := hid hv
  have Hbl := hid hbl
  have hz := hbl.size
  clear hv hbl
  by_cases hlt : k < l.length
  ·have kl : (k : Int) < (l.length : Int) := by omega
   have dl := @dT k l.length hlt
   obtain ⟨b, o, rfl, hb, hc⟩ := HR.out k (encUn l[k]) (by simp [hlt])
   have e0 := tC Hbl hb (hc 0 _ rfl)
   have e1 := tC Hbl hb (hc 1 _ rfl)
   simp only [Nat.add_zero] at e0
   clear hc
   have hbw : b < wr.heap.size := by omega
   have hd := drop_cons' hlt
   rcases un_tF (x := l[k]) (u := u) with h | h
   ·have HN := hid (show R = true from by rw [HV.out, hd]; exact decide_eq_true (by rw [h]; exact List.mem_cons_self ..))
    rw [h] at e0 e1
    clear hd h
    go_wp2_with fail
    go_quiet (fail)
    go_wp2_with fail
    go_ret
    exact ⟨by rw [HN.out]; rfl, by have hbl := Hbl.out; exact tB⟩
   ·have HN := hid (show R = decide (u ∈ l.drop (k + 1)) from by
     rw [HV.out, hd]
     refine decide_eq_decide.2 ⟨fun h2 => ?_, fun h2 => List.mem_cons_of_mem _ h2⟩
     rcases List.mem_cons.1 h2 with h3 | h3
     ·exact absurd h3.symm (un_dF h)
     ·exact h3)
    clear hd
    rcases h with h | h
    all_goals
     go_wp2_with fail
     go_quiet (fail)
     go_wp2_with fail
     go_roundw
     case rel => exact ⟨k + 1, by omega, by go_num, HN.out, by have hbl := Hbl.out; exact tB, by simp; omega, by simp [go_sem, g0, hsz, ↓IntWalk.iteOmega], by simp [go_sem, g1, hsz, ↓IntWalk.iteOmega]⟩
     case measure => simp [intOf]; omega
  ·have dl := @dF k l.length hlt
   have HD := hid (show R = false from by rw [HV.out, drop_all (l := l) (k := k) (by omega)]; simp)
   go_wp2_with fail
   go_ret
   exact ⟨by rw [HD.out]; rfl, by have hbl := Hbl.out; exact tB⟩
theorem ref17Get (l : List Flow) (u : Un) (A : Option Addr) (c : Nat) (w : World) (hl : l.length ≤ 1000000) (hr : Rd w A 3 (l.map encFlow)) :
  Calls Tryz.prog 85 #[.slice A l.length c, .agg #[.int .i64 u.acc, .int .i64 u.cli]] w fun e w' => e = .returned (.int .i64 (getPu l u)) ∧ Below w.heap.size w w' := by
 have HR := hid hr
 clear hr
 obtain ⟨R, hR⟩ : ∃ R, R = getPu l u := ⟨_, rfl⟩
 rw [← hR]
 have HRR := hid hR
 clear hR
 go_enter Tryz.func85, Tryz.ntmps85
 go_wp2_with fail
 go_loopw [5] (fun i wr => ∃ k : Nat, k ≤ l.length ∧ i = .int .i64 k ∧ R = getPu (l.drop k) u ∧ Below w.heap.size w wr ∧ w.heap.size < wr.heap.size ∧ wr.cell? ⟨w.heap.size, 0, none⟩ = some (.int .i64 u.acc) ∧ wr.cell? ⟨w.heap.size, 1, none⟩ = some (.int .i64 u.cli)) (fun i _ => l.length - (intOf i).toNat)
 case atStart => exact ⟨0, Nat.zero_le _, rfl, HRR.out, tB, by simp, by simp [go_sem], by simp [go_sem]⟩
 case round =>
  obtain ⟨k, hk, rfl, hv, hbl, hsz, g0, g1⟩ := hrel
  have HV := hid hv
  have Hbl := hid hbl
  have hz := hbl.size
  clear hv hbl
  by_cases hlt : k < l.length
  ·have kl : (k : Int) < (l.length : Int) := by omega
   have dl := @dT k l.length hlt
   have hd := drop_cons' hlt
   obtain ⟨b, o, rfl, hb, hc⟩ := HR.out k (encFlow l[k]) (by simp [hlt])
   have e0 := tC Hbl hb (hc 0 _ rfl)
   have e1 := tC Hbl hb (hc 1 _ rfl)
   have e2 := tC Hbl hb (hc 2 _ rfl)
   simp only [Nat.add_zero] at e0
   clear hc
   have hbw : b < wr.heap.size := by omega
   rcases un_tF (x := l[k].unit) (u := u) with h | h
   ·have HN := hid (show R = l[k].amount from by rw [HV.out, hd]; exact getPu_hit h)
    rw [h] at e0 e1
    clear hd h
    go_wp2_with fail
    go_quiet (fail)
    go_wp2_with fail
    go_ret
    exact ⟨by rw [HN.out]; rfl, by have hbl := Hbl.out; exact tB⟩
   ·have HN := hid (show R = getPu (l.drop (k + 1)) u from by rw [HV.out, hd]; exact getPu_miss (un_dF h))
    clear hd
    rcases h with h | h
    all_goals
     go_wp2_with fail
     go_quiet (fail)
     go_wp2_with fail
     go_roundw
     case rel => exact ⟨k + 1, by omega, by go_num, HN.out, by have hbl := Hbl.out; exact tB, by simp; omega, by simp [go_sem, g0, hsz, ↓IntWalk.iteOmega], by simp [go_sem, g1, hsz, ↓IntWalk.iteOmega]⟩
     case measure => simp [intOf]; omega
  ·have dl := @dF k l.length hlt
   have HD := hid (show R = 0 from by rw [HV.out, drop_all (l := l) (k := k) (by omega)]; rfl)
   go_wp2_with fail
   go_ret
   exact ⟨by rw [HD.out]; rfl, by have hbl := Hbl.out; exact tB⟩
theorem ref19OfW (l : List PosV) (u : Un) (A : Option Addr) (c : Nat) (w0 w : World) (hl : l.length ≤ 1000000) (hr : Rd w A 3 (l.map encPosV)) (hg : ∀ x ∈ l, GoodPosV w0 x) :
  Calls Tryz.prog 87 #[.slice A l.length c, .agg #[.int .i64 u.acc, .int .i64 u.cli]] w fun e w' => ∃ A2 c2, e = .returned (.slice A2 (ofK (l.map lgPosV) u).length c2) ∧ Rs w0 2 ((ofK (l.map lgPosV) u).map encLeg) A2 c2 ∧ Below w.heap.size w w' := by
 have HR := hid hr
 have HG := hid hg
 clear hr hg
 obtain ⟨R, hR⟩ : ∃ R, R = ofK (l.map lgPosV) u := ⟨_, rfl⟩
 rw [← hR]
 have HRR := hid hR
 clear hR
 go_enter Tryz.func87, Tryz.ntmps87
 go_wp2_with fail
 go_loopw [5] (fun i wr => ∃ k : Nat, k ≤ l.length ∧ i = .int .i64 k ∧ R = ofK ((l.drop k).map lgPosV) u ∧ Below w.heap.size w wr ∧ w.heap.size < wr.heap.size ∧ wr.cell? ⟨w.heap.size, 0, none⟩ = some (.int .i64 u.acc) ∧ wr.cell? ⟨w.heap.size, 1, none⟩ = some (.int .i64 u.cli)) (fun i _ => l.length - (intOf i).toNat)
 case atStart => exact ⟨0, Nat.zero_le _, rfl, HRR.out, tB, by simp, by simp [go_sem], by simp [go_sem]⟩
 case round =>
  obtain ⟨k, hk, rfl, hv, hbl, hsz, g0, g1⟩ := hrel
  have HV := hid hv
  have Hbl := hid hbl
  have hz := hbl.size
  clear hv hbl
  by_cases hlt : k < l.length
  ·have kl : (k : Int) < (l.length : Int) := by omega
   have dl := @dT k l.length hlt
   have hgk := HG.out l[k] (List.getElem_mem hlt)
   have HGK := hid hgk.2
   have hd := lg_atPosV hlt
   clear hgk
   obtain ⟨b, o, rfl, hb, hc⟩ := HR.out k (encPosV l[k]) (by simp [hlt])
   have e0 := tC Hbl hb (hc 0 _ rfl)
   have e1 := tC Hbl hb (hc 1 _ rfl)
   have e2 := tC Hbl hb (hc 2 _ rfl)
   simp only [Nat.add_zero] at e0
   clear hc
   have hbw : b < wr.heap.size := by omega
   rcases un_tPosV (x := l[k].unit) (u := u) with h | h
   ·have HN := hid (show R = l[k].legs.val from by rw [HV.out, hd]; unfold ofK; rw [if_pos (show (lgPosV l[k]).unit = u from h)]; rfl)
    rw [h] at e0 e1
    clear hd h
    go_wp2_with fail
    go_quiet (fail)
    go_wp2_with fail
    go_ret
    exact ⟨l[k].legs.A, l[k].legs.c, by rw [HN.out]; rfl, by rw [HN.out]; exact HGK.out, by have hbl := Hbl.out; exact tB⟩
   ·have HN := hid (show R = ofK ((l.drop (k + 1)).map lgPosV) u from by rw [HV.out, hd, ofK, if_neg (show ¬ (lgPosV l[k]).unit = u from un_dPosV h)])
    clear hd
    rcases h with h | h
    all_goals
     go_wp2_with fail
     go_quiet (fail)
     go_wp2_with fail
     go_roundw
     case rel => exact ⟨k + 1, by omega, by go_num, HN.out, by have hbl := Hbl.out; exact tB, by simp; omega, by simp [go_sem, g0, hsz, ↓IntWalk.iteOmega], by simp [go_sem, g1, hsz, ↓IntWalk.iteOmega]⟩
     case measure => simp [intOf]; omega
  ·have dl := @dF k l.length hlt
   have HD := hid (show R = [] from by rw [HV.out, drop_all (l := l) (k := k) (by omega)]; rfl)
   go_wp2_with fail
   go_ret
   exact ⟨none, 0, by rw [HD.out]; rfl, by rw [HD.out]; exact Rs.empty _ _, by have hbl := Hbl.out; exact tB⟩
theorem ref25Units (x : AcctV) (w : World) (hl : x.clients.val.length ≤ 1000000) (hg : GoodA w x) :
  Calls Tryz.prog 81 #[.agg #[.int .i64 x.id, .int .i64 x.member, .int .i64 x.kind, .slice x.clients.A x.clients.val.length x.clients.c]] w fun e w' => ∃ A c, e = .returned (.slice A (unitsN (lgA x)).length c) ∧ Rs w' 2 ((unitsN (lgA x)).map encUn) A c ∧ Below w.heap.size w w' := by
 have HG := hid hg
 clear hg
 by_cases hk : x.kind = 2
 ·have b1 : (x.kind == 2) = true := by simpa using hk
  have HU := hid (show unitsN (lgA x) = [⟨x.id, 0⟩] from if_pos hk)
  rw [HU.out]
  clear hk
  go_enter Tryz.func81, Tryz.ntmps81
  go_wp2_with (fail)
  go_ret
  exact ⟨_, _, rfl, rd_lit (by simp) (by simp [go_sem]) (by simp [go_sem]), tB⟩
 ·have b1 : (x.kind == 2) = false := by simpa using hk
  have HU := hid (show unitsN (lgA x) = unitsA (lgA x) from if_neg hk)
  rw [HU.out]
  clear hk
  go_enter Tryz.func81, Tryz.ntmps81
  go_wp2_with (first | (go_at_call 34; (with_reducible refine (ref15UnitsN x _ (by omega) (HG.out.keep tB)).mono ?_); rintro e w1 ⟨A1, c1, rfl, hrs1, hb1⟩; have HS1 := hid hrs1; clear hrs1; obtain ⟨fc1, fg1, hc1, hf1, hz1⟩ := bget hb1; (try simp at hz1)) | fail)
  go_ret
  exact ⟨_, _, rfl, HS1.out, tB⟩
theorem ref25Parts (x : AcctV) (u : Un) (w : World) (hl : x.clients.val.length ≤ 1000000) (hg : GoodA w x) :
  Calls Tryz.prog 126 #[.agg #[.int .i64 x.id, .int .i64 x.member, .int .i64 x.kind, .slice x.clients.A x.clients.val.length x.clients.c], .agg #[.int .i64 u.acc, .int .i64 u.cli]] w fun e w' => ∃ A c, e = .returned (.slice A (partsN (lgA x) u).length c) ∧ Rs w' 2 ((partsN (lgA x) u).map encUn) A c ∧ Below w.heap.size w w' := by
 have HG := hid hg
 have hul := unitsN_len (lgA x)
 have hul2 : (lgA x).clients.length ≤ 1000000 := hl
 clear hg
 by_cases hin : u ∈ unitsN (lgA x)
 ·have HIN := hid (decide_eq_true hin)
  by_cases hk : x.kind = 2
  ·have b1 : (x.kind == 2) = true := by simpa using hk
   have HU := hid (show partsN (lgA x) u = unitsA (lgA x) from by unfold partsN; rw [if_pos hin, if_pos (show (lgA x).kind = 2 from hk)])
   rw [HU.out]
   clear hk hin
   go_enter Tryz.func126, Tryz.ntmps126
   go_wp2_with fail
   go_region_held3 (fun w' => ((w'.cell? ⟨w.heap.size, 0, none⟩ = some (.int .i64 x.id) ∧ w'.cell? ⟨w.heap.size, 1, none⟩ = some (.int .i64 x.member) ∧ w'.cell? ⟨w.heap.size, 2, none⟩ = some (.int .i64 x.kind) ∧ w'.cell? ⟨w.heap.size, 3, none⟩ = some (.slice x.clients.A x.clients.val.length x.clients.c)) ∧ w'.cell? ⟨w.heap.size + 1, 0, none⟩ = some (.int .i64 u.acc) ∧ w'.cell? ⟨w.heap.size + 1, 1, none⟩ = some (.int .i64 u.cli))) (exact tK) (first | (go_at_call 81; (with_reducible refine (ref25Units x _ hl (HG.out.keep tB)).mono ?_); rintro e w1 ⟨A1, c1, rfl, hrs1, hb1⟩; have HS1 := hid hrs1.rd; clear hrs1; obtain ⟨fc1, fg1, hc1, hf1, hz1⟩ := bget hb1; (try simp at hz1)) | (go_at_call 124; (with_reducible refine (ref25Has (unitsN (lgA x)) u A1 c1 _ (by omega) (HS1.out.keep tB)).mono ?_); rw [HIN.out]; rintro e w2 ⟨rfl, hb2⟩; obtain ⟨fc2, fg2, hc2, hf2, hz2⟩ := bget hb2; (try simp at hz2)) | fail)
   all_goals
    go_wp2_with (first | (go_at_call 34; (with_reducible refine (ref15UnitsN x _ (by omega) (HG.out.keep tB)).mono ?_); rintro e w3 ⟨A3, c3, rfl, hrs3, hb3⟩; have HS3 := hid hrs3; clear hrs3; obtain ⟨fc3, fg3, hc3, hf3, hz3⟩ := bget hb3; (try simp at hz3)) | fail)
    go_ret
    exact ⟨_, _, rfl, HS3.out, tB⟩
  ·have b1 : (x.kind == 2) = false := by simpa using hk
   have HU := hid (show partsN (lgA x) u = [u] from by unfold partsN; rw [if_pos hin, if_neg (show ¬ (lgA x).kind = 2 from hk)])
   rw [HU.out]
   clear hk hin
   go_enter Tryz.func126, Tryz.ntmps126
   go_wp2_with fail
   go_region_held3 (fun w' => ((w'.cell? ⟨w.heap.size, 0, none⟩ = some (.int .i64 x.id) ∧ w'.cell? ⟨w.heap.size, 1, none⟩ = some (.int .i64 x.member) ∧ w'.cell? ⟨w.heap.size, 2, none⟩ = some (.int .i64 x.kind) ∧ w'.cell? ⟨w.heap.size, 3, none⟩ = some (.slice x.clients.A x.clients.val.length x.clients.c)) ∧ w'.cell? ⟨w.heap.size + 1, 0, none⟩ = some (.int .i64 u.acc) ∧ w'.cell? ⟨w.heap.size + 1, 1, none⟩ = some (.int .i64 u.cli))) (exact tK) (first | (go_at_call 81; (with_reducible refine (ref25Units x _ hl (HG.out.keep tB)).mono ?_); rintro e w1 ⟨A1, c1, rfl, hrs1, hb1⟩; have HS1 := hid hrs1.rd; clear hrs1; obtain ⟨fc1, fg1, hc1, hf1, hz1⟩ := bget hb1; (try simp at hz1)) | (go_at_call 124; (with_reducible refine (ref25Has (unitsN (lgA x)) u A1 c1 _ (by omega) (HS1.out.keep tB)).mono ?_); rw [HIN.out]; rintro e w2 ⟨rfl, hb2⟩; obtain ⟨fc2, fg2, hc2, hf2, hz2⟩ := bget hb2; (try simp at hz2)) | fail)
   all_goals
    go_wp2_with fail
    go_ret
    exact ⟨_, _, rfl, rd_lit (by simp) (by simp [go_sem]) (by simp [go_sem]), tB⟩
 ·have HIN := hid (decide_eq_false hin)
  have HU := hid (show partsN (lgA x) u = [] from by unfold partsN; rw [if_neg hin])
  rw [HU.out]
  clear hin
  go_enter Tryz.func126, Tryz.ntmps126
  go_wp2_with fail
  go_region_held3 (fun w' => ((w'.cell? ⟨w.heap.size, 0, none⟩ = some (.int .i64 x.id) ∧ w'.cell? ⟨w.heap.size, 1, none⟩ = some (.int .i64 x.member) ∧ w'.cell? ⟨w.heap.size, 2, none⟩ = some (.int .i64 x.kind) ∧ w'.cell? ⟨w.heap.size, 3, none⟩ = some (.slice x.clients.A x.clients.val.length x.clients.c)) ∧ w'.cell? ⟨w.heap.size + 1, 0, none⟩ = some (.int .i64 u.acc) ∧ w'.cell? ⟨w.heap.size + 1, 1, none⟩ = some (.int .i64 u.cli))) (exact tK) (first | (go_at_call 81; (with_reducible refine (ref25Units x _ hl (HG.out.keep tB)).mono ?_); rintro e w1 ⟨A1, c1, rfl, hrs1, hb1⟩; have HS1 := hid hrs1.rd; clear hrs1; obtain ⟨fc1, fg1, hc1, hf1, hz1⟩ := bget hb1; (try simp at hz1)) | (go_at_call 124; (with_reducible refine (ref25Has (unitsN (lgA x)) u A1 c1 _ (by omega) (HS1.out.keep tB)).mono ?_); rw [HIN.out]; rintro e w2 ⟨rfl, hb2⟩; obtain ⟨fc2, fg2, hc2, hf2, hz2⟩ := bget hb2; (try simp at hz2)) | fail)
  all_goals
   go_wp2_with fail
   go_ret
   exact ⟨_, _, rfl, Rs.empty _ _, tB⟩
theorem net_rssW {w0 w : World} {ys : List (SlOf Leg)} {A : Option Addr} {c : Nat} (hb : Below w0.heap.size w0 w) (hr : Rs w 1 (ys.map encSN) A c) (hg : ∀ y ∈ ys, Rs w0 2 (y.val.map encLeg) y.A y.c) : RsS 2 encLeg w (ys.map (·.val)) A c := by
 refine ⟨⟨ys.map (fun y => .slice y.A y.val.length y.c), ⟨by simp, fun i a b h1 h2 => ?_⟩, by rw [List.map_map]; exact hr⟩⟩
 rw [List.getElem?_map] at h1 h2
 cases hy : ys[i]? with
 | none => rw [hy] at h1; cases h1
 | some y =>
  rw [hy] at h1 h2
  simp only [Option.map_some, Option.some.injEq] at h1 h2
  subst h1 h2
  exact isl ((hg y (List.mem_of_getElem? hy)).keep hb)
theorem ref19Net (l : List PosV) (us : List Un) (A B : Option Addr) (c d : Nat) (w : World) (hl : l.length ≤ 1000000) (hul : us.length ≤ 100000) (h64 : L64 (l.map lgPosV)) (hr : Rd w A 3 (l.map encPosV)) (hg : ∀ x ∈ l, GoodPosV w x) (hru : Rd w B 2 (us.map encUn)) :
  Calls Tryz.prog 125 #[.slice A l.length c, .slice B us.length d] w (LegsPost w (netC (l.map lgPosV) us) (netL (l.map lgPosV) us)) := by
 have HR := hid hr
 have HG := hid hg
 have HU := hid hru
 have HS := hid (show ∀ ys : List (SlOf Leg), ys.map (·.val) = us.map (ofK (l.map lgPosV)) → Short (ys.map (·.val)) ∧ ∀ z ∈ ys.map (·.val), Legs64 z from fun ys h => by
  rw [h]
  refine ⟨⟨by rw [List.length_map]; omega, fun z hz => ?_⟩, fun z hz => ?_⟩
  ·obtain ⟨u, _, rfl⟩ := List.mem_map.1 hz
   have := of_len hg u
   omega
  ·obtain ⟨u, _, rfl⟩ := List.mem_map.1 hz
   exact of64 h64 u)
 have ci := fun W (h : Below w.heap.size w W) => refPosVIs l A c W (by omega) (hr.keep h) (fun x hx => (hg x hx).keep h)
 have hib : isPosV l = isK isV (l.map lgPosV) := rfl
 rw [hib] at ci
 have HOF := hid (fun u => of_len hg u)
 clear hr hg hru h64 hib
 cases hk : isK isV (l.map lgPosV)
 ·rw [hk] at ci
  have CI := hid ci
  have HC := hid (show netC (l.map lgPosV) us = 3 from by unfold netC; rw [hk]; rfl)
  have HL := hid (show netL (l.map lgPosV) us = [] from by unfold netL; rw [hk]; rfl)
  rw [HC.out, HL.out]
  clear ci hk
  go_enter Tryz.func125, Tryz.ntmps125
  go_wp2_with (first | (go_at_call 56; (with_reducible refine cM (CI.out _ tB) fun w1 hb1 fc1 fg1 hc1 hf1 hz1 => ?_); (try simp at hz1)) | fail)
  go_ret2
  exact ⟨_, rfl, Own.nil _ _ _ _, tB⟩
 rw [hk] at ci
 have CI := hid ci
 have HC := hid (show netC (l.map lgPosV) us = addC (us.map (ofK (l.map lgPosV))) from by unfold netC; rw [hk]; rfl)
 have HL := hid (show netL (l.map lgPosV) us = addL (us.map (ofK (l.map lgPosV))) from by unfold netL; rw [hk]; rfl)
 rw [HC.out, HL.out]
 clear ci hk HC HL
 go_enter Tryz.func125, Tryz.ntmps125
 go_wp2_with (first | (go_at_call 56; (with_reducible refine cM (CI.out _ tB) fun w1 hb1 fc1 fg1 hc1 hf1 hz1 => ?_); (try simp at hz1)) | fail)
 have Hb1 := hid hb1
 clear hc1 hf1 hb1
 go_loopw [6, 7] (fun v i wr => ∃ (k : Nat) (ys : List (SlOf Leg)), k ≤ us.length ∧ i = .int .i64 k ∧ ys.map (·.val) = (us.take k).map (ofK (l.map lgPosV)) ∧ Own wr w.heap.size 80 1 v (ys.map encSN) ∧ (∀ y ∈ ys, Rs w 2 (y.val.map encLeg) y.A y.c) ∧ Below w.heap.size w wr) (fun _ i _ => us.length - (intOf i).toNat)
 case atStart => exact ⟨0, [], Nat.zero_le _, rfl, rfl, Own.nil _ _ _ _, fun y hy => absurd hy (by simp), Hb1.out⟩
 case round =>
  obtain ⟨k, ys, hk, rfl, hlg, hown, hgd, hbl⟩ := hrel
  have Hlg := hid hlg
  have Hown := hid hown
  have Hgd := hid hgd
  have Hbl := hid hbl
  have hz := hbl.size
  have hyl : ys.length = k := by have := congrArg List.length hlg; simp only [List.length_map, List.length_take] at this; omega
  have HYL := hid hyl
  have hyl2 : ys.length ≤ 2000000 := by omega
  clear hlg hown hgd hbl hyl
  by_cases hlt : k < us.length
  ·have kl : (k : Int) < (us.length : Int) := by omega
   have dl := @dT k us.length hlt
   obtain ⟨b, o, rfl, hb, hc⟩ := HU.out k (encUn us[k]) (by simp [hlt])
   have e0 := tC Hbl hb (hc 0 _ rfl)
   have e1 := tC Hbl hb (hc 1 _ rfl)
   simp only [Nat.add_zero] at e0
   clear hc
   have hbw : b < wr.heap.size := by omega
   have HM := hid (show (us.take (k + 1)).map (ofK (l.map lgPosV)) = (us.take k).map (ofK (l.map lgPosV)) ++ [ofK (l.map lgPosV) us[k]] from map_snoc hlt _)
   have CO := hid (ref19OfW l us[k] A c w wr (by omega) (HR.out.keep Hbl.out) HG.out)
   generalize ofK (l.map lgPosV) us[k] = O at *
   go_wp2_with (first | (go_at_call 87; (with_reducible refine (CO.out).mono ?_); rintro e w3 ⟨A3, c3, rfl, hrs3, hb3⟩; have HO3 := hid hrs3; clear hrs3; obtain ⟨fc3, fg3, hc3, hf3, hz3⟩ := bget hb3; (try simp at hz3)) | (at_builtin; refine wpList_app rfl _ _ _ rfl elLs w.heap.size _ _ rfl (Hown.out.keep tB) (some ⟨_, 0, none⟩) 1 1 rfl [encSN ⟨A3, c3, O⟩] rfl (fun h => by cases h) (rd_oneN (by simp)) ((by intro r hr; simp at hr; subst hr; exact ⟨rfl, by intro u hu; simp [encSN] at hu; subst hu; rfl⟩)) (by unfold maxLen; exact tE) tE tZ ?_; intro v4 w4 hown4 hb4) | fail)
   go_roundw
   case rel =>
    refine ⟨k + 1, ys ++ [⟨A3, c3, O⟩], by omega, by go_num, ?_, ?_, ?_, ?_⟩
    ·rw [HM.out, List.map_append, Hlg.out]; rfl
    ·rw [List.map_append]; exact hown4
    ·intro y hy
     rcases List.mem_append.1 hy with h | h
     ·exact Hgd.out y h
     ·rw [List.mem_singleton] at h
      subst h
      exact HO3.out
    ·have hbl := Hbl.out
     exact tB
   case measure => simp [intOf]; omega
  ·have dl := @dF k us.length hlt
   have hys : ys.map (·.val) = us.map (ofK (l.map lgPosV)) := by rw [Hlg.out, List.take_of_length_le (by omega)]
   obtain ⟨hs1, hs2⟩ := HS.out ys hys
   have hyz : ys.length = (ys.map (·.val)).length := by rw [List.length_map]
   have ho := Hown.out
   obtain ⟨A2, c2, hv2, hrs2, _⟩ := ho.rs
   rw [List.length_map, hyz] at hv2
   have hrn := net_rssW Hbl.out hrs2 Hgd.out
   obtain ⟨ls, hls⟩ : ∃ ls, ls = ys.map (·.val) := ⟨_, rfl⟩
   rw [← hls] at hs1 hs2 hv2 hrn
   subst hv2
   have HLS := hid (hls.trans hys)
   have CA := hid (ref11Add ls A2 c2 wr (by rw [HLS.out, List.length_map]; exact hul) hs1 hs2 hrn)
   clear hys hs1 hs2 ho hrs2 hyz HYL hls hrn hyl2
   go_wp2_with (first | (go_at_call 150; (with_reducible refine CA.out.mono ?_); rintro e w5 ⟨v5, rfl, hown5, hb5⟩; have HO5 := hid hown5; clear hown5; obtain ⟨fc5, fg5, hc5, hf5, hz5⟩ := bget hb5; (try simp at hz5)) | fail)
   go_ret2
   exact ⟨_, by rw [← HLS.out]; rfl, by rw [← HLS.out]; exact HO5.out.mono tZ, by have hbl := Hbl.out; exact tB⟩
theorem ref25Of (t : List InstV) (l : List PosV) (x : AcctV) (u : Un) (A B : Option Addr) (c d : Nat) (w : World) (ht : t.length ≤ 1000000) (hl : l.length ≤ 1000000) (hxl : x.clients.val.length ≤ 90000) (h64 : L64 (l.map lgPosV))
  (hrt : Rd w A 5 (t.map encInstV)) (hgt : ∀ x ∈ t, x.moves.val.length ≤ 1048576 ∧ GoodI w x) (hr : Rd w B 3 (l.map encPosV)) (hg : ∀ x ∈ l, GoodPosV w x) (hx : GoodA w x) :
  Calls Tryz.prog 82 #[.slice A t.length c, .slice B l.length d, .agg #[.int .i64 x.id, .int .i64 x.member, .int .i64 x.kind, .slice x.clients.A x.clients.val.length x.clients.c], .agg #[.int .i64 u.acc, .int .i64 u.cli]] w fun e w' => e = .returned (.tuple #[.int .i64 (nofN t (l.map lgPosV) (lgA x) u), .int .i64 (nofC t (l.map lgPosV) (lgA x) u)]) ∧ Below w.heap.size w w' := by
 have HX := hid hx
 have hul := unitsN_len (lgA x)
 have hpl := partsN_len (lgA x) u
 have hul2 : (lgA x).clients.length ≤ 90000 := hxl
 have ci := fun W (h : Below w.heap.size w W) => refPosVIs l B d W (by omega) (hr.keep h) (fun x hx => (hg x hx).keep h)
 have hib : isPosV l = isK isV (l.map lgPosV) := rfl
 rw [hib] at ci
 have CN := hid (fun W B2 d2 (h : Below w.heap.size w W) (h2 : Rd W B2 2 ((partsN (lgA x) u).map encUn)) => ref19Net l (partsN (lgA x) u) B B2 d d2 W hl (by omega) h64 (hr.keep h) (fun x hx => (hg x hx).keep h) h2)
 have CM := hid (fun W B2 d2 (h : Below w.heap.size w W) (h2 : Rd W B2 2 ((netL (l.map lgPosV) (partsN (lgA x) u)).map encLeg)) => ref24Margin t (netL (l.map lgPosV) (partsN (lgA x) u)) A B2 c d2 W ht (by have := netL_len (l.map lgPosV) (partsN (lgA x) u); omega) (netL64 _ _) (hrt.keep h) (fun x hx => ⟨(hgt x hx).1, (hgt x hx).2.keep h⟩) h2)
 clear hib hr hg hrt hgt hx h64
 cases hk : isK isV (l.map lgPosV)
 ·rw [hk] at ci
  have CI := hid ci
  have HC := hid (show nofC t (l.map lgPosV) (lgA x) u = 3 from by unfold nofC; rw [hk]; rfl)
  have HN := hid (nofN_no (show nofC t (l.map lgPosV) (lgA x) u ≠ 0 by rw [HC.out]; decide))
  rw [HC.out, HN.out]
  clear ci hk
  go_enter Tryz.func82, Tryz.ntmps82
  go_wp2_with (first | (go_at_call 56; (with_reducible refine cM (CI.out _ tB) fun w1 hb1 fc1 fg1 hc1 hf1 hz1 => ?_); (try simp at hz1)) | fail)
  go_ret2
  exact ⟨rfl, tB⟩
 rw [hk] at ci
 have CI := hid ci
 clear ci
 by_cases hin : u ∈ unitsN (lgA x)
 rotate_left
 ·have HIN := hid (decide_eq_false hin)
  have HC := hid (show nofC t (l.map lgPosV) (lgA x) u = 11 from by unfold nofC; rw [hk, if_pos rfl, if_neg hin])
  have HN := hid (nofN_no (show nofC t (l.map lgPosV) (lgA x) u ≠ 0 by rw [HC.out]; decide))
  rw [HC.out, HN.out]
  clear hin hk
  go_enter Tryz.func82, Tryz.ntmps82
  go_wp2_with (first | (go_at_call 56; (with_reducible refine cM (CI.out _ tB) fun w1 hb1 fc1 fg1 hc1 hf1 hz1 => ?_); (try simp at hz1)) | fail)
  go_region_held3 (fun w' => ((w'.cell? ⟨w.heap.size, 0, none⟩ = some (.int .i64 x.id) ∧ w'.cell? ⟨w.heap.size, 1, none⟩ = some (.int .i64 x.member) ∧ w'.cell? ⟨w.heap.size, 2, none⟩ = some (.int .i64 x.kind) ∧ w'.cell? ⟨w.heap.size, 3, none⟩ = some (.slice x.clients.A x.clients.val.length x.clients.c)) ∧ w'.cell? ⟨w.heap.size + 1, 0, none⟩ = some (.int .i64 u.acc) ∧ w'.cell? ⟨w.heap.size + 1, 1, none⟩ = some (.int .i64 u.cli))) (exact tK) (first | (go_at_call 81; (with_reducible refine (ref25Units x _ (Nat.le_trans hxl (by omega)) (HX.out.keep tB)).mono ?_); rintro e w2 ⟨A2, c2, rfl, hrs2, hb2⟩; have HS2 := hid hrs2.rd; clear hrs2; obtain ⟨fc2, fg2, hc2, hf2, hz2⟩ := bget hb2; (try simp at hz2)) | (go_at_call 124; (with_reducible refine (ref25Has (unitsN (lgA x)) u A2 c2 _ (by omega) (HS2.out.keep tB)).mono ?_); rw [HIN.out]; rintro e w3 ⟨rfl, hb3⟩; obtain ⟨fc3, fg3, hc3, hf3, hz3⟩ := bget hb3; (try simp at hz3)) | fail)
  all_goals
   go_wp2_with fail
   go_ret2
   exact ⟨rfl, tB⟩
 have HIN := hid (decide_eq_true hin)
 by_cases hn : netC (l.map lgPosV) (partsN (lgA x) u) = 0
 ·have HC := hid (show nofC t (l.map lgPosV) (lgA x) u = marginC t (netL (l.map lgPosV) (partsN (lgA x) u)) from by unfold nofC; rw [hk, if_pos rfl, if_pos hin, if_pos hn])
  have HN := hid (show nofN t (l.map lgPosV) (lgA x) u = marginN t (netL (l.map lgPosV) (partsN (lgA x) u)) from by unfold nofN; rw [hk, if_pos rfl, if_pos hin, if_pos hn])
  rw [HC.out, HN.out]
  rw [hn] at CN
  clear hin hk hn HC HN
  generalize netL (l.map lgPosV) (partsN (lgA x) u) = M at *
  go_enter Tryz.func82, Tryz.ntmps82
  go_wp2_with (first | (go_at_call 56; (with_reducible refine cM (CI.out _ tB) fun w1 hb1 fc1 fg1 hc1 hf1 hz1 => ?_); (try simp at hz1)) | fail)
  go_region_held3 (fun w' => ((w'.cell? ⟨w.heap.size, 0, none⟩ = some (.int .i64 x.id) ∧ w'.cell? ⟨w.heap.size, 1, none⟩ = some (.int .i64 x.member) ∧ w'.cell? ⟨w.heap.size, 2, none⟩ = some (.int .i64 x.kind) ∧ w'.cell? ⟨w.heap.size, 3, none⟩ = some (.slice x.clients.A x.clients.val.length x.clients.c)) ∧ w'.cell? ⟨w.heap.size + 1, 0, none⟩ = some (.int .i64 u.acc) ∧ w'.cell? ⟨w.heap.size + 1, 1, none⟩ = some (.int .i64 u.cli))) (exact tK) (first | (go_at_call 81; (with_reducible refine (ref25Units x _ (Nat.le_trans hxl (by omega)) (HX.out.keep tB)).mono ?_); rintro e w2 ⟨A2, c2, rfl, hrs2, hb2⟩; have HS2 := hid hrs2.rd; clear hrs2; obtain ⟨fc2, fg2, hc2, hf2, hz2⟩ := bget hb2; (try simp at hz2)) | (go_at_call 124; (with_reducible refine (ref25Has (unitsN (lgA x)) u A2 c2 _ (by omega) (HS2.out.keep tB)).mono ?_); rw [HIN.out]; rintro e w3 ⟨rfl, hb3⟩; obtain ⟨fc3, fg3, hc3, hf3, hz3⟩ := bget hb3; (try simp at hz3)) | fail)
  all_goals
   go_wp2_with (first | (go_at_call 126; (with_reducible refine (ref25Parts x u _ (Nat.le_trans hxl (by omega)) (HX.out.keep tB)).mono ?_); rintro e w4 ⟨A4, c4, rfl, hrs4, hb4⟩; have HS4 := hid hrs4.rd; clear hrs4; obtain ⟨fc4, fg4, hc4, hf4, hz4⟩ := bget hb4; (try simp at hz4)) | (go_at_call 125; (with_reducible refine (CN.out _ _ _ tB (HS4.out.keep tB)).mono ?_); rintro e w5 ⟨v5, rfl, hown5, hb5⟩; obtain ⟨A5, c5, hv5, hrs5, hfm5⟩ := hown5.rs; (rw [List.length_map] at hv5); subst hv5; have HS5 := hid hrs5.rd; clear hown5 hrs5 hfm5; obtain ⟨fc5, fg5, hc5, hf5, hz5⟩ := bget hb5; (try simp at hz5)) | (go_at_call 127; (with_reducible refine cM (CM.out _ _ _ tB (HS5.out.keep tB)) fun w6 hb6 fc6 fg6 hc6 hf6 hz6 => ?_); (try simp at hz6)) | fail)
   go_ret2
   exact ⟨rfl, tB⟩
 ·have HC := hid (show nofC t (l.map lgPosV) (lgA x) u = netC (l.map lgPosV) (partsN (lgA x) u) from by unfold nofC; rw [hk, if_pos rfl, if_pos hin, if_neg hn])
  have HN := hid (nofN_no (show nofC t (l.map lgPosV) (lgA x) u ≠ 0 by rw [HC.out]; exact hn))
  rw [HC.out, HN.out]
  have dn : (netC (l.map lgPosV) (partsN (lgA x) u) != 0) = true := by simpa using hn
  have dn2 : (netC (l.map lgPosV) (partsN (lgA x) u) == 0) = false := by simpa using hn
  clear hin hk hn HC HN
  generalize netL (l.map lgPosV) (partsN (lgA x) u) = M at *
  generalize netC (l.map lgPosV) (partsN (lgA x) u) = code at *
  go_enter Tryz.func82, Tryz.ntmps82
  go_wp2_with (first | (go_at_call 56; (with_reducible refine cM (CI.out _ tB) fun w1 hb1 fc1 fg1 hc1 hf1 hz1 => ?_); (try simp at hz1)) | fail)
  go_region_held3 (fun w' => ((w'.cell? ⟨w.heap.size, 0, none⟩ = some (.int .i64 x.id) ∧ w'.cell? ⟨w.heap.size, 1, none⟩ = some (.int .i64 x.member) ∧ w'.cell? ⟨w.heap.size, 2, none⟩ = some (.int .i64 x.kind) ∧ w'.cell? ⟨w.heap.size, 3, none⟩ = some (.slice x.clients.A x.clients.val.length x.clients.c)) ∧ w'.cell? ⟨w.heap.size + 1, 0, none⟩ = some (.int .i64 u.acc) ∧ w'.cell? ⟨w.heap.size + 1, 1, none⟩ = some (.int .i64 u.cli))) (exact tK) (first | (go_at_call 81; (with_reducible refine (ref25Units x _ (Nat.le_trans hxl (by omega)) (HX.out.keep tB)).mono ?_); rintro e w2 ⟨A2, c2, rfl, hrs2, hb2⟩; have HS2 := hid hrs2.rd; clear hrs2; obtain ⟨fc2, fg2, hc2, hf2, hz2⟩ := bget hb2; (try simp at hz2)) | (go_at_call 124; (with_reducible refine (ref25Has (unitsN (lgA x)) u A2 c2 _ (by omega) (HS2.out.keep tB)).mono ?_); rw [HIN.out]; rintro e w3 ⟨rfl, hb3⟩; obtain ⟨fc3, fg3, hc3, hf3, hz3⟩ := bget hb3; (try simp at hz3)) | fail)
  all_goals
   go_wp2_with (first | (go_at_call 126; (with_reducible refine (ref25Parts x u _ (Nat.le_trans hxl (by omega)) (HX.out.keep tB)).mono ?_); rintro e w4 ⟨A4, c4, rfl, hrs4, hb4⟩; have HS4 := hid hrs4.rd; clear hrs4; obtain ⟨fc4, fg4, hc4, hf4, hz4⟩ := bget hb4; (try simp at hz4)) | (go_at_call 125; (with_reducible refine (CN.out _ _ _ tB (HS4.out.keep tB)).mono ?_); rintro e w5 ⟨v5, rfl, hown5, hb5⟩; obtain ⟨A5, c5, hv5, hrs5, hfm5⟩ := hown5.rs; (rw [List.length_map] at hv5); subst hv5; have HS5 := hid hrs5.rd; clear hown5 hrs5 hfm5; obtain ⟨fc5, fg5, hc5, hf5, hz5⟩ := bget hb5; (try simp at hz5)) | fail)
   go_ret2
   exact ⟨rfl, tB⟩
end Go.Proofs.YtalgfpegaobacaaGreatDoor
