/- Joined. -/
import Derived.Test.YtalgfpegaobacaaGreatDoorQz7
namespace Go.Proofs.YtalgfpegaobacaaGreatDoor
set_option linter.all false
set_option maxHeartbeats 8000000
set_option maxRecDepth 100000
open Go.RowKit
open Lib (hid)
/- Assets: contract of asset.Find. -/
theorem assetFind (l : List Asset) (id : Int) (A : Option Addr) (c : Nat) (w : World) (hl : l.length ≤ 1099511627776) (hr : Rd w A 3 (l.map encAsset)) :
  Calls Tryz.prog 195 #[.slice A l.length c, .int .i64 id] w fun e w' => e = .returned (.tuple #[.agg #[.int .i64 (findAsset l id).1.id, .int .i64 (findAsset l id).1.price, .int .i64 (findAsset l id).1.hair], .bool (findAsset l id).2]) ∧ Below w.heap.size w w' := by
 have Hr := hid hr
 clear hr
 go_enter Tryz.func195, Tryz.ntmps195
 go_wp2_with fail
 go_loopw [10] (fun i wr => ∃ k : Nat, k ≤ l.length ∧ i = .int .i64 k ∧ Below w.heap.size w wr ∧ w.heap.size < wr.heap.size ∧ (wr.cell? ⟨w.heap.size, 0, none⟩ = some (.int .i64 0) ∧ wr.cell? ⟨w.heap.size, 1, none⟩ = some (.int .i64 0) ∧ wr.cell? ⟨w.heap.size, 2, none⟩ = some (.int .i64 0) ∧ wr.frozen? ⟨w.heap.size, 0, none⟩ = false ∧ wr.frozen? ⟨w.heap.size, 1, none⟩ = false ∧ wr.frozen? ⟨w.heap.size, 2, none⟩ = false) ∧ ∀ j (_ : j < l.length), j < k → (l[j].id == id) = false) (fun i _ => l.length - (intOf i).toNat)
 case atStart => exact ⟨0, Nat.zero_le _, rfl, tB, by simp, by simp [go_sem], fun j _ h => absurd h (by omega)⟩
 case round =>
  obtain ⟨k, hk, rfl, hbl, hsz, ⟨g0, g1, g2, f0, f1, f2⟩, hno⟩ := hrel
  have Hbl := hid hbl
  have Hno := hid hno
  have hz := hbl.size
  clear hbl hno
  by_cases hlt : k < l.length
  ·have hki : (k : Int) < (l.length : Int) := by omega
   have dl := @dT k l.length hlt
   obtain ⟨b, o, rfl, hb, hc⟩ := Hr.out k (encAsset l[k]) (by simp [hlt])
   have c0 := tC Hbl hb (hc 0 _ rfl)
   have c1 := tC Hbl hb (hc 1 _ rfl)
   have c2 := tC Hbl hb (hc 2 _ rfl)
   simp only [Nat.add_zero] at c0
   clear hc
   cases hm : (l[k].id == id)
   ·have Hm := hid hm
    go_wp2_with fail
    go_roundw
    case rel => exact ⟨k + 1, by omega, by go_num, by have hbl := Hbl.out; exact tB, by simp; omega, by simp [go_sem, g0, g1, g2, f0, f1, f2, ↓IntWalk.iteOmega], fun j hj h => by
     rcases Nat.lt_or_ge j k with h1 | h1
     ·exact Hno.out j hj h1
     ·obtain rfl : j = k := by omega
      exact Hm.out⟩
    case measure => simp [intOf]; omega
   ·have hi := findAsset_hit hlt hm Hno.out
    have Hi := hid hi
    clear hi
    go_wp2_with fail
    rw [Hi.out]
    have hbl := Hbl.out
    refine bodyPost_ret (by simp [results, Tryz.results195, go_sem, g0, g1, g2]; try rfl) rfl ⟨rfl, ?_⟩
    exact tB
  ·have dl := @dF k l.length hlt
   have hi := findAsset_miss (l := l) (fun j hj => Hno.out j hj (by omega))
   have Hi := hid hi
   clear hi
   go_wp2_with fail
   rw [Hi.out]
   have hbl := Hbl.out
   refine bodyPost_ret (by simp [results, Tryz.results195, go_sem, g0, g1, g2]; try rfl) rfl ⟨rfl, ?_⟩
   exact tB
/- Purses: contracts of purse.Is, purse.Get, the reference's Is; the law's Few. -/
theorem un_tF {x u : Un} : x = u ∨ ((x.acc == u.acc) = false) ∨ ((x.cli == u.cli) = false) := by
 by_cases h : x = u
 ·exact .inl h
 ·exact .inr (neqUn h)
theorem un_dF {x u : Un} (h : ((x.acc == u.acc) = false) ∨ ((x.cli == u.cli) = false)) : x ≠ u := by
 rintro rfl
 rcases h with h | h <;> simp at h
theorem lg_atF {l : List Flow} {k : Nat} (h : k < l.length) : (l.drop k).map lgF = lgF l[k] :: (l.drop (k + 1)).map lgF := by rw [drop_cons' h, List.map_cons]
theorem pred_F {k : Nat} (h : 1 ≤ k) (hk : k ≤ 1000000) : (0 : Int) ≤ (k : Int) - 1 ∧ ((k : Int) - 1).toNat = k - 1 ∧ IntKind.i64.wrap ((k : Int) - 1) = (k : Int) - 1 :=
 ⟨by omega, by omega, IntWalk.i64_in _ (by omega)⟩
theorem okP_yes {x : Flow} (h : (x.amount == 0) = false) : okP (lgF x).rows = true := by
 show (!(x.amount == 0)) = true
 rw [h]; rfl
theorem okP_no {x : Flow} (h : (x.amount == 0) = true) : okP (lgF x).rows = false := by
 show (!(x.amount == 0)) = false
 rw [h]; rfl
theorem purseIs (l : List Flow) (A : Option Addr) (c : Nat) (w : World) (hl : l.length ≤ 1000000) (hr : Rd w A 3 (l.map encFlow)) :
  Calls Tryz.prog 173 #[.slice A l.length c] w fun e w' => e = .returned (.bool (isPu l)) ∧ Below w.heap.size w w' := by
 have HR := hid hr
 have HIL := hid (show isPu l = isKR okP none (l.map lgF) from rfl)
 clear hr
 go_enter Tryz.func173, Tryz.ntmps173
 go_wp2_with fail
 go_loopw [7] (fun i wr => ∃ (k : Nat) (p : Option Un), k ≤ l.length ∧ i = .int .i64 k ∧ isKR okP none (l.map lgF) = isKR okP p ((l.drop k).map lgF) ∧ Below w.heap.size w wr ∧ (k = 0 ∧ p = none ∨ 0 < k ∧ p = l[k - 1]?.map (·.unit))) (fun i _ => l.length - (intOf i).toNat)
 case atStart => exact ⟨0, none, Nat.zero_le _, rfl, rfl, Below.refl _ _, .inl ⟨rfl, rfl⟩⟩
 case round =>
  obtain ⟨k, p, hk, rfl, hv, hbl, hx⟩ := hrel
  have HV := hid hv
  have Hbl := hid hbl
  have hz := hbl.size
  clear hv hbl
  by_cases hlt : k < l.length
  ·have kl : (k : Int) < (l.length : Int) := by omega
   have dl := @dT k l.length hlt
   have hd := lg_atF hlt
   obtain ⟨b, o, rfl, hb, hc⟩ := HR.out k (encFlow l[k]) (by simp [hlt])
   have e0 := tC Hbl hb (hc 0 _ rfl)
   have e1 := tC Hbl hb (hc 1 _ rfl)
   have e2 := tC Hbl hb (hc 2 _ rfl)
   simp only [Nat.add_zero] at e0
   clear hc
   have hbw : b < wr.heap.size := by omega
   cases hq : (l[k].amount == 0)
   ·have hne : (lgF l[k]).rows ≠ [] := by intro h; cases h
    have hiv := okP_yes hq
    rcases hx with ⟨k0, hx⟩ | ⟨k0, hx⟩
    ·have g0 : decide (0 < k) = false := by simp; omega
     have HN := hid (show isKR okP p ((l.drop k).map lgF) = isKR okP (some l[k].unit) ((l.drop (k + 1)).map lgF) from by rw [hd]; exact isKR_step hne hiv (fun q hq => by rw [hx] at hq; cases hq))
     clear hx k0 hd hne hiv
     go_wp2_with fail
     go_quiet (fail)
     go_wp2_with fail
     go_roundw
     case rel => exact ⟨k + 1, some l[k].unit, by omega, by go_num, by rw [HV.out, HN.out], by have hbl := Hbl.out; exact tB, .inr ⟨by omega, by rw [Nat.add_sub_cancel, List.getElem?_eq_getElem hlt]; rfl⟩⟩
     case measure => simp [intOf]; omega
    ·have g0 : decide (0 < k) = true := by simpa using k0
     have hk0 : k - 1 < l.length := by omega
     have hp : p = some l[k - 1].unit := by rw [hx, List.getElem?_eq_getElem hk0]; rfl
     obtain ⟨b1, o1, q1, hb1, hc1⟩ := HR.out (k - 1) (encFlow l[k - 1]) (by simp [hk0])
     injection q1 with q1
     injection q1 with q1 q2 _
     subst q1 q2
     have f0 := tC Hbl hb (hc1 0 _ rfl)
     have f1 := tC Hbl hb (hc1 1 _ rfl)
     simp only [Nat.add_zero] at f0
     clear hc1 hb1
     cases hlo : lessU l[k - 1].unit l[k].unit
     ·have CO := hid (fun W => hlo ▸ acctLess l[k - 1].unit l[k].unit W)
      have HN := hid (show isKR okP none (l.map lgF) = false from by rw [HV.out, hd]; exact isKR_no (.inr (.inr ⟨_, hp, hlo⟩)))
      clear hx hlo hp hd hne hiv
      have lk : (k : Int) - 1 < (l.length : Int) := by omega
      have k1 : (1 : Int) ≤ (k : Int) := by omega
      have k2 : 1 ≤ k := by omega
      have lk2 : (k : Int) ≤ (l.length : Int) := by omega
      have lk3 : (k : Int) < (l.length : Int) + 1 := by omega
      have lk4 : k < l.length + 1 := by omega
      obtain ⟨nk, tk, wk⟩ := pred_F k0 (by omega)
      go_wp2_with fail
      go_region_held3 (fun w' => (w'.cell? ⟨wr.heap.size, 0, none⟩ = some (.int .i64 l[k].unit.acc) ∧ w'.cell? ⟨wr.heap.size, 1, none⟩ = some (.int .i64 l[k].unit.cli) ∧ w'.cell? ⟨wr.heap.size, 2, none⟩ = some (.int .i64 l[k].amount)) ∧ (w'.cell? ⟨b, o + (k - 1) * 3, none⟩ = some (.int .i64 l[k - 1].unit.acc) ∧ w'.cell? ⟨b, o + (k - 1) * 3 + 1, none⟩ = some (.int .i64 l[k - 1].unit.cli))) (exact tK) (first | (go_at_call 161; (with_reducible refine cM (CO.out _) fun w2 hb2 fc2 fg2 hc2 hf2 hz2 => ?_); (try simp at hz2)) | fail)
      clear nk tk wk
      go_wp2_with fail
      go_ret
      exact ⟨by rw [HIL.out, HN.out]; rfl, by have hbl := Hbl.out; exact tB⟩
     ·have CO := hid (fun W => hlo ▸ acctLess l[k - 1].unit l[k].unit W)
      have HN := hid (show isKR okP p ((l.drop k).map lgF) = isKR okP (some l[k].unit) ((l.drop (k + 1)).map lgF) from by rw [hd]; exact isKR_step hne hiv (fun q hq => by rw [hp] at hq; injection hq with hq; rw [← hq]; exact hlo))
      clear hx hlo hp hd hne hiv
      have lk : (k : Int) - 1 < (l.length : Int) := by omega
      have k1 : (1 : Int) ≤ (k : Int) := by omega
      have k2 : 1 ≤ k := by omega
      have lk2 : (k : Int) ≤ (l.length : Int) := by omega
      have lk3 : (k : Int) < (l.length : Int) + 1 := by omega
      have lk4 : k < l.length + 1 := by omega
      obtain ⟨nk, tk, wk⟩ := pred_F k0 (by omega)
      go_wp2_with fail
      go_region_held3 (fun w' => (w'.cell? ⟨wr.heap.size, 0, none⟩ = some (.int .i64 l[k].unit.acc) ∧ w'.cell? ⟨wr.heap.size, 1, none⟩ = some (.int .i64 l[k].unit.cli) ∧ w'.cell? ⟨wr.heap.size, 2, none⟩ = some (.int .i64 l[k].amount)) ∧ (w'.cell? ⟨b, o + (k - 1) * 3, none⟩ = some (.int .i64 l[k - 1].unit.acc) ∧ w'.cell? ⟨b, o + (k - 1) * 3 + 1, none⟩ = some (.int .i64 l[k - 1].unit.cli))) (exact tK) (first | (go_at_call 161; (with_reducible refine cM (CO.out _) fun w2 hb2 fc2 fg2 hc2 hf2 hz2 => ?_); (try simp at hz2)) | fail)
      clear nk tk wk
      go_wp2_with fail
      go_roundw
      case rel => exact ⟨k + 1, some l[k].unit, by omega, by go_num, by rw [HV.out, HN.out], by have hbl := Hbl.out; exact tB, .inr ⟨by omega, by rw [Nat.add_sub_cancel, List.getElem?_eq_getElem hlt]; rfl⟩⟩
      case measure => simp [intOf]; omega
   ·have HN := hid (show isKR okP none (l.map lgF) = false from by rw [HV.out, hd]; exact isKR_no (.inr (.inl (okP_no hq))))
    clear hx hd
    go_wp2_with fail
    go_quiet (fail)
    go_wp2_with fail
    go_ret
    exact ⟨by rw [HIL.out, HN.out]; rfl, by have hbl := Hbl.out; exact tB⟩
  ·have dl := @dF k l.length hlt
   have HD := hid (drop_all (l := l) (k := k) (by omega))
   have HN := hid (show isKR okP none (l.map lgF) = true from by rw [HV.out, HD.out]; cases p <;> rfl)
   go_wp2_with fail
   go_ret
   exact ⟨by rw [HIL.out, HN.out]; rfl, Hbl.out⟩
theorem ref17Is (l : List Flow) (A : Option Addr) (c : Nat) (w : World) (hl : l.length ≤ 1000000) (hr : Rd w A 3 (l.map encFlow)) :
  Calls Tryz.prog 23 #[.slice A l.length c] w fun e w' => e = .returned (.bool (isPu l)) ∧ Below w.heap.size w w' := by
 have HR := hid hr
 have HIL := hid (show isPu l = isKR okP none (l.map lgF) from rfl)
 clear hr
 go_enter Tryz.func23, Tryz.ntmps23
 go_wp2_with fail
 go_loopw [3] (fun i wr => ∃ (k : Nat) (p : Option Un), k ≤ l.length ∧ i = .int .i64 k ∧ isKR okP none (l.map lgF) = isKR okP p ((l.drop k).map lgF) ∧ Below w.heap.size w wr ∧ (k = 0 ∧ p = none ∨ 0 < k ∧ p = l[k - 1]?.map (·.unit))) (fun i _ => l.length - (intOf i).toNat)
 case atStart => exact ⟨0, none, Nat.zero_le _, rfl, rfl, Below.refl _ _, .inl ⟨rfl, rfl⟩⟩
 case round =>
  obtain ⟨k, p, hk, rfl, hv, hbl, hx⟩ := hrel
  have HV := hid hv
  have Hbl := hid hbl
  have hz := hbl.size
  clear hv hbl
  by_cases hlt : k < l.length
  ·have kl : (k : Int) < (l.length : Int) := by omega
   have dl := @dT k l.length hlt
   have hd := lg_atF hlt
   obtain ⟨b, o, rfl, hb, hc⟩ := HR.out k (encFlow l[k]) (by simp [hlt])
   have e0 := tC Hbl hb (hc 0 _ rfl)
   have e1 := tC Hbl hb (hc 1 _ rfl)
   have e2 := tC Hbl hb (hc 2 _ rfl)
   simp only [Nat.add_zero] at e0
   clear hc
   have hbw : b < wr.heap.size := by omega
   cases hq : (l[k].amount == 0)
   ·have hne : (lgF l[k]).rows ≠ [] := by intro h; cases h
    have hiv := okP_yes hq
    rcases hx with ⟨k0, hx⟩ | ⟨k0, hx⟩
    ·have g0 : decide (0 < k) = false := by simp; omega
     have HN := hid (show isKR okP p ((l.drop k).map lgF) = isKR okP (some l[k].unit) ((l.drop (k + 1)).map lgF) from by rw [hd]; exact isKR_step hne hiv (fun q hq => by rw [hx] at hq; cases hq))
     clear hx k0 hd hne hiv
     go_wp2_with fail
     go_quiet (fail)
     go_wp2_with fail
     go_roundw
     case rel => exact ⟨k + 1, some l[k].unit, by omega, by go_num, by rw [HV.out, HN.out], by have hbl := Hbl.out; exact tB, .inr ⟨by omega, by rw [Nat.add_sub_cancel, List.getElem?_eq_getElem hlt]; rfl⟩⟩
     case measure => simp [intOf]; omega
    ·have g0 : decide (0 < k) = true := by simpa using k0
     have hk0 : k - 1 < l.length := by omega
     have hp : p = some l[k - 1].unit := by rw [hx, List.getElem?_eq_getElem hk0]; rfl
     obtain ⟨b1, o1, q1, hb1, hc1⟩ := HR.out (k - 1) (encFlow l[k - 1]) (by simp [hk0])
     injection q1 with q1
     injection q1 with q1 q2 _
     subst q1 q2
     have f0 := tC Hbl hb (hc1 0 _ rfl)
     have f1 := tC Hbl hb (hc1 1 _ rfl)
     simp only [Nat.add_zero] at f0
     clear hc1 hb1
     cases hlo : lessU l[k - 1].unit l[k].unit
     ·have CO := hid (fun W => hlo ▸ ref15Less l[k - 1].unit l[k].unit W)
      have HN := hid (show isKR okP none (l.map lgF) = false from by rw [HV.out, hd]; exact isKR_no (.inr (.inr ⟨_, hp, hlo⟩)))
      clear hx hlo hp hd hne hiv
      have lk : (k : Int) - 1 < (l.length : Int) := by omega
      have k1 : (1 : Int) ≤ (k : Int) := by omega
      have k2 : 1 ≤ k := by omega
      have lk2 : (k : Int) ≤ (l.length : Int) := by omega
      have lk3 : (k : Int) < (l.length : Int) + 1 := by omega
      have lk4 : k < l.length + 1 := by omega
      obtain ⟨nk, tk, wk⟩ := pred_F k0 (by omega)
      go_wp2_with fail
      go_region_held3 (fun w' => (w'.cell? ⟨b, o + k * 3, none⟩ = some (.int .i64 l[k].unit.acc) ∧ w'.cell? ⟨b, o + k * 3 + 1, none⟩ = some (.int .i64 l[k].unit.cli) ∧ w'.cell? ⟨b, o + k * 3 + 2, none⟩ = some (.int .i64 l[k].amount)) ∧ (w'.cell? ⟨b, o + (k - 1) * 3, none⟩ = some (.int .i64 l[k - 1].unit.acc) ∧ w'.cell? ⟨b, o + (k - 1) * 3 + 1, none⟩ = some (.int .i64 l[k - 1].unit.cli))) (exact tK) (first | (go_at_call 57; (with_reducible refine cM (CO.out _) fun w2 hb2 fc2 fg2 hc2 hf2 hz2 => ?_); (try simp at hz2)) | fail)
      clear nk tk wk
      go_wp2_with fail
      go_ret
      exact ⟨by rw [HIL.out, HN.out]; rfl, by have hbl := Hbl.out; exact tB⟩
     ·have CO := hid (fun W => hlo ▸ ref15Less l[k - 1].unit l[k].unit W)
      have HN := hid (show isKR okP p ((l.drop k).map lgF) = isKR okP (some l[k].unit) ((l.drop (k + 1)).map lgF) from by rw [hd]; exact isKR_step hne hiv (fun q hq => by rw [hp] at hq; injection hq with hq; rw [← hq]; exact hlo))
      clear hx hlo hp hd hne hiv
      have lk : (k : Int) - 1 < (l.length : Int) := by omega
      have k1 : (1 : Int) ≤ (k : Int) := by omega
      have k2 : 1 ≤ k := by omega
      have lk2 : (k : Int) ≤ (l.length : Int) := by omega
      have lk3 : (k : Int) < (l.length : Int) + 1 := by omega
      have lk4 : k < l.length + 1 := by omega
      obtain ⟨nk, tk, wk⟩ := pred_F k0 (by omega)
      go_wp2_with fail
      go_region_held3 (fun w' => (w'.cell? ⟨b, o + k * 3, none⟩ = some (.int .i64 l[k].unit.acc) ∧ w'.cell? ⟨b, o + k * 3 + 1, none⟩ = some (.int .i64 l[k].unit.cli) ∧ w'.cell? ⟨b, o + k * 3 + 2, none⟩ = some (.int .i64 l[k].amount)) ∧ (w'.cell? ⟨b, o + (k - 1) * 3, none⟩ = some (.int .i64 l[k - 1].unit.acc) ∧ w'.cell? ⟨b, o + (k - 1) * 3 + 1, none⟩ = some (.int .i64 l[k - 1].unit.cli))) (exact tK) (first | (go_at_call 57; (with_reducible refine cM (CO.out _) fun w2 hb2 fc2 fg2 hc2 hf2 hz2 => ?_); (try simp at hz2)) | fail)
      clear nk tk wk
      go_wp2_with fail
      go_roundw
      case rel => exact ⟨k + 1, some l[k].unit, by omega, by go_num, by rw [HV.out, HN.out], by have hbl := Hbl.out; exact tB, .inr ⟨by omega, by rw [Nat.add_sub_cancel, List.getElem?_eq_getElem hlt]; rfl⟩⟩
      case measure => simp [intOf]; omega
   ·have HN := hid (show isKR okP none (l.map lgF) = false from by rw [HV.out, hd]; exact isKR_no (.inr (.inl (okP_no hq))))
    clear hx hd
    go_wp2_with fail
    go_quiet (fail)
    go_wp2_with fail
    go_ret
    exact ⟨by rw [HIL.out, HN.out]; rfl, by have hbl := Hbl.out; exact tB⟩
  ·have dl := @dF k l.length hlt
   have HD := hid (drop_all (l := l) (k := k) (by omega))
   have HN := hid (show isKR okP none (l.map lgF) = true from by rw [HV.out, HD.out]; cases p <;> rfl)
   go_wp2_with fail
   go_ret
   exact ⟨by rw [HIL.out, HN.out]; rfl, Hbl.out⟩
theorem purseGet (l : List Flow) (u : Un) (A : Option Addr) (c : Nat) (w : World) (hl : l.length ≤ 1000000) (hr : Rd w A 3 (l.map encFlow)) :
  Calls Tryz.prog 63 #[.slice A l.length c, .agg #[.int .i64 u.acc, .int .i64 u.cli]] w fun e w' => e = .returned (.int .i64 (getPu l u)) ∧ Below w.heap.size w w' := by
 have HR := hid hr
 clear hr
 go_enter Tryz.func63, Tryz.ntmps63
 go_wp2_with fail
 go_loopw [9] (fun i wr => ∃ k : Nat, k ≤ l.length ∧ i = .int .i64 k ∧ getPu l u = getPu (l.drop k) u ∧ Below w.heap.size w wr ∧ w.heap.size < wr.heap.size ∧ wr.cell? ⟨w.heap.size, 0, none⟩ = some (.int .i64 u.acc) ∧ wr.cell? ⟨w.heap.size, 1, none⟩ = some (.int .i64 u.cli)) (fun i _ => l.length - (intOf i).toNat)
 case atStart => exact ⟨0, Nat.zero_le _, rfl, rfl, tB, by simp, by simp [go_sem], by simp [go_sem]⟩
 case round =>
  obtain ⟨k, hk, rfl, hv, hbl, hsz, g0, g1⟩ := hrel
  have HV := hid hv
  have Hbl := hid hbl
  have hz := hbl.size
  clear hv hbl
  by_cases hlt : k < l.length
  ·have kl : (k : Int) < (l.length : Int) := by omega
   have dl := @dT k l.length hlt
   have hd := drop_cons' hlt
   obtain ⟨b, o, rfl, hb, hc⟩ := HR.out k (encFlow l[k]) (by simp [hlt])
   have e0 := tC Hbl hb (hc 0 _ rfl)
   have e1 := tC Hbl hb (hc 1 _ rfl)
   have e2 := tC Hbl hb (hc 2 _ rfl)
   simp only [Nat.add_zero] at e0
   clear hc
   have hbw : b < wr.heap.size := by omega
   rcases un_tF (x := l[k].unit) (u := u) with h | h
   ·have HN := hid (show getPu l u = l[k].amount from by rw [HV.out, hd]; exact getPu_hit h)
    rw [h] at e0 e1
    clear hd h
    go_wp2_with fail
    go_ret
    exact ⟨by rw [HN.out]; rfl, by have hbl := Hbl.out; exact tB⟩
   ·have HN := hid (show getPu l u = getPu (l.drop (k + 1)) u from by rw [HV.out, hd]; exact getPu_miss (un_dF h))
    clear hd
    rcases h with h | h
    all_goals
     go_wp2_with fail
     go_roundw
     case rel => exact ⟨k + 1, by omega, by go_num, HN.out, by have hbl := Hbl.out; exact tB, by simp; omega, by simp [go_sem, g0, hsz], by simp [go_sem, g1, hsz]⟩
     case measure => simp [intOf]; omega
  ·have dl := @dF k l.length hlt
   have HN := hid (show getPu l u = 0 from by rw [HV.out, drop_all (l := l) (k := k) (by omega)]; rfl)
   go_wp2_with fail
   go_ret
   exact ⟨by rw [HN.out]; rfl, Hbl.out⟩
theorem law17Few (l : List Flow) (A : Option Addr) (c : Nat) (w : World) (hr : Rs w 3 (l.map encFlow) A c) :
  Calls Tryz.prog 17 #[.slice A l.length c] w fun e w' => e = .returned (.slice A (l.take 20).length c) ∧ Below w.heap.size w w' := by
 have hlc : l.length ≤ c := by have := hr.cap; rw [List.length_map] at this; exact this
 have hcm := hr.room
 unfold maxLen at hcm
 by_cases h : 20 < l.length
 ·have HN := hid (show (l.take 20).length = 20 from by rw [List.length_take]; omega)
  have d1 : decide (20 < (l.length : Int)) = true := by simp; omega
  obtain ⟨b, o, rfl, hq⟩ := hr.rd 0 (encFlow (l[0]'(by omega))) (by rw [List.getElem?_map, List.getElem?_eq_getElem (by omega)]; rfl)
  rw [HN.out]
  clear hq hr
  go_enter Tryz.func17, Tryz.ntmps17
  go_wp2_with fail
  all_goals
   go_ret
   exact ⟨rfl, tB⟩
 ·rw [List.take_of_length_le (by omega)]
  have d1 : decide (20 < (l.length : Int)) = false := by simp; omega
  clear hr
  go_enter Tryz.func17, Tryz.ntmps17
  go_wp2_with fail
  go_ret
  exact ⟨rfl, tB⟩
/- Accounts: contracts of the reference's Is, Units, Has. -/
theorem okA_ref {x : Acct} : okAAc x ↔ (1 ≤ x.id ∧ x.id ≤ 16) ∧ (1 ≤ x.member ∧ x.member ≤ 8) ∧ (1 ≤ x.kind ∧ x.kind ≤ 4) ∧ ¬ (x.kind = 1 ∧ 0 < x.clients.length) ∧ ¬ (x.kind = 4 ∧ 1 < x.clients.length) ∧ risC 0 x.clients = true := by
 unfold okAAc mostA
 constructor
 ·rintro ⟨h1, h2, h3, h4, h5⟩
  refine ⟨h1, h2, h3, fun h => ?_, fun h => ?_, h5⟩
  ·rw [if_pos h.1] at h4; omega
  ·rw [if_neg (by omega), if_pos h.1] at h4; omega
 ·rintro ⟨h1, h2, h3, h4, h5, h6⟩
  refine ⟨h1, h2, h3, ?_, h6⟩
  have := risC_len h6 (by omega)
  split
  ·omega
  ·split
   ·omega
   ·omega
theorem ref15Is (x : Acct) (A : Option Addr) (c : Nat) (w : World) (hl : x.clients.length ≤ 1099511627776) (hr : Rd w A 1 (x.clients.map encI)) :
  Calls Tryz.prog 52 #[.agg #[.int .i64 x.id, .int .i64 x.member, .int .i64 x.kind, .slice A x.clients.length c]] w fun e w' => e = .returned (.bool (decide (okAAc x))) ∧ Below w.heap.size w w' := by
 have HR := hid hr
 clear hr
 by_cases t0 : x.id < 1
 ·have d0 := decide_eq_true t0
  have HNO := hid (decide_eq_false (show ¬ okAAc x from fun hk => by rw [okA_ref] at hk; omega))
  go_enter Tryz.func52, Tryz.ntmps52
  go_wp2_with (fail)
  go_ret
  exact ⟨by rw [HNO.out]; first | done | rfl, tB⟩
 have d0 := decide_eq_false t0
 by_cases t1 : 16 < x.id
 ·have d1 := decide_eq_true t1
  have HNO := hid (decide_eq_false (show ¬ okAAc x from fun hk => by rw [okA_ref] at hk; omega))
  go_enter Tryz.func52, Tryz.ntmps52
  go_wp2_with (fail)
  go_ret
  exact ⟨by rw [HNO.out]; first | done | rfl, tB⟩
 have d1 := decide_eq_false t1
 by_cases t2 : x.member < 1
 ·have d2 := decide_eq_true t2
  have HNO := hid (decide_eq_false (show ¬ okAAc x from fun hk => by rw [okA_ref] at hk; omega))
  go_enter Tryz.func52, Tryz.ntmps52
  go_wp2_with (fail)
  go_ret
  exact ⟨by rw [HNO.out]; first | done | rfl, tB⟩
 have d2 := decide_eq_false t2
 by_cases t3 : 8 < x.member
 ·have d3 := decide_eq_true t3
  have HNO := hid (decide_eq_false (show ¬ okAAc x from fun hk => by rw [okA_ref] at hk; omega))
  go_enter Tryz.func52, Tryz.ntmps52
  go_wp2_with (fail)
  go_ret
  exact ⟨by rw [HNO.out]; first | done | rfl, tB⟩
 have d3 := decide_eq_false t3
 by_cases t4 : x.kind < 1
 ·have d4 := decide_eq_true t4
  have HNO := hid (decide_eq_false (show ¬ okAAc x from fun hk => by rw [okA_ref] at hk; omega))
  go_enter Tryz.func52, Tryz.ntmps52
  go_wp2_with (fail)
  go_ret
  exact ⟨by rw [HNO.out]; first | done | rfl, tB⟩
 have d4 := decide_eq_false t4
 by_cases t5 : 4 < x.kind
 ·have d5 := decide_eq_true t5
  have HNO := hid (decide_eq_false (show ¬ okAAc x from fun hk => by rw [okA_ref] at hk; omega))
  go_enter Tryz.func52, Tryz.ntmps52
  go_wp2_with (fail)
  go_ret
  exact ⟨by rw [HNO.out]; first | done | rfl, tB⟩
 have d5 := decide_eq_false t5
 by_cases t6 : x.kind = 1 ∧ 0 < x.clients.length
 ·have b6 : (x.kind == 1) = true := by simpa using t6.1
  have d6 : decide (0 < (x.clients.length : Int)) = true := by simp; omega
  have HNO := hid (decide_eq_false (show ¬ okAAc x from fun hk => by rw [okA_ref] at hk; omega))
  go_enter Tryz.func52, Tryz.ntmps52
  go_wp2_with (fail)
  go_ret
  exact ⟨by rw [HNO.out]; first | done | rfl, tB⟩
 by_cases t7 : x.kind = 4 ∧ 1 < x.clients.length
 ·have b6 : (x.kind == 1) = false := by simp; omega
  have b7 : (x.kind == 4) = true := by simpa using t7.1
  have d7 : decide (1 < (x.clients.length : Int)) = true := by simp; omega
  have HNO := hid (decide_eq_false (show ¬ okAAc x from fun hk => by rw [okA_ref] at hk; omega))
  go_enter Tryz.func52, Tryz.ntmps52
  go_wp2_with (fail)
  go_ret
  exact ⟨by rw [HNO.out]; first | done | rfl, tB⟩
 have HC := hid (show decide (okAAc x) = risC 0 x.clients from by
  cases h : risC 0 x.clients
  ·exact decide_eq_false (fun hk => by rw [okA_ref, h] at hk; cases hk.2.2.2.2.2)
  ·exact decide_eq_true (okA_ref.2 ⟨by omega, by omega, by omega, t6, t7, h⟩))
 obtain ⟨b6, d6⟩ : ((x.kind == 1) = false ∨ ((x.kind == 1) = true ∧ decide (0 < (x.clients.length : Int)) = false)) ∧ ((x.kind == 4) = false ∨ ((x.kind == 4) = true ∧ decide (1 < (x.clients.length : Int)) = false)) := by
  constructor
  ·by_cases h : x.kind = 1
   ·exact .inr ⟨by simpa using h, decide_eq_false (by omega)⟩
   ·exact .inl (by simpa using h)
  ·by_cases h : x.kind = 4
   ·exact .inr ⟨by simpa using h, decide_eq_false (by omega)⟩
   ·exact .inl (by simpa using h)
 clear t6 t7
 rcases b6 with b6 | ⟨b6, e6⟩
 ·rcases d6 with d6 | ⟨d6, e7⟩
  ·go_enter Tryz.func52, Tryz.ntmps52
   go_wp2_with (fail)
   go_loopw [3] (fun i wr => ∃ (k : Nat) (q : Int), k ≤ x.clients.length ∧ i = .int .i64 k ∧ risC 0 x.clients = risC q (x.clients.drop k) ∧ Below w.heap.size w wr ∧ wr.cell? ⟨w.heap.size, 3, none⟩ = some (.slice A x.clients.length c) ∧ (k = 0 ∧ q = 0 ∨ 0 < k ∧ q = x.clients.getD (k - 1) 0 ∧ 1 ≤ q)) (fun i _ => x.clients.length - (intOf i).toNat)
   case atStart => exact ⟨0, 0, Nat.zero_le _, rfl, rfl, tB, by simp [go_sem], .inl ⟨rfl, rfl⟩⟩
   case round =>
    obtain ⟨k, q, hk, rfl, hv, hbl, hcell, hx⟩ := hrel
    have HV := hid hv
    have Hbl := hid hbl
    have hz := hbl.size
    clear hv hbl
    by_cases hlt : k < x.clients.length
    ·have kl : (k : Int) < (x.clients.length : Int) := by omega
     have dl : decide ((k : Int) < (x.clients.length : Int)) = true := by simpa using hlt
     obtain ⟨b, o, rfl, hb, hc⟩ := HR.out k (encI x.clients[k]) (by simp [hlt])
     have e0 := tC Hbl hb (hc 0 _ rfl)
     simp only [Nat.add_zero, Nat.mul_one] at e0
     clear hc
     have HD := hid (drop_cons' hlt)
     rcases hx with ⟨k0, hx⟩ | ⟨k0, hx, x1⟩
     ·have g0 : decide (0 < k) = false := by simp; omega
      have x0 : 0 ≤ q ∧ q ≤ 0 := by omega
      clear k0 hx
      by_cases t0 : x.clients[k] < 1
      ·have d0 := decide_eq_true t0
       have HN := hid (show risC 0 x.clients = false from by rw [HV.out, HD.out]; exact risC_no (by omega))
       have wk : IntKind.i64.wrap ((k : Int) - 1) = (k : Int) - 1 := IntWalk.i64_in _ (by omega)
       have tk : ((k : Int) - 1).toNat = k - 1 := by omega
       go_wp2_with fail
       go_quiet (fail)
       clear wk tk
       go_wp2_with fail
       go_ret
       exact ⟨by rw [HC.out, HN.out]; rfl, by have hbl := Hbl.out; exact tB⟩
      have d0 := decide_eq_false t0
      by_cases t1 : 16 < x.clients[k]
      ·have d1 := decide_eq_true t1
       have HN := hid (show risC 0 x.clients = false from by rw [HV.out, HD.out]; exact risC_no (by omega))
       have wk : IntKind.i64.wrap ((k : Int) - 1) = (k : Int) - 1 := IntWalk.i64_in _ (by omega)
       have tk : ((k : Int) - 1).toNat = k - 1 := by omega
       go_wp2_with fail
       go_quiet (fail)
       clear wk tk
       go_wp2_with fail
       go_ret
       exact ⟨by rw [HC.out, HN.out]; rfl, by have hbl := Hbl.out; exact tB⟩
      have d1 := decide_eq_false t1
      have HN := hid (show risC 0 x.clients = risC x.clients[k] (x.clients.drop (k + 1)) from by rw [HV.out, HD.out]; exact risC_step (by omega) (by omega))
      have c1 : 1 ≤ x.clients[k] := by omega
      have wk : IntKind.i64.wrap ((k : Int) - 1) = (k : Int) - 1 := IntWalk.i64_in _ (by omega)
      have tk : ((k : Int) - 1).toNat = k - 1 := by omega
      go_wp2_with fail
      go_quiet (fail)
      clear wk tk
      go_wp2_with fail
      go_roundw
      case rel => exact ⟨k + 1, x.clients[k], by omega, by go_num, HN.out, by have hbl := Hbl.out; exact tB, by simpa [go_sem] using hcell, .inr ⟨by omega, by rw [Nat.add_sub_cancel, getD_at hlt], by omega⟩⟩
      case measure => simp [intOf]; omega
     ·have g0 : decide (0 < k) = true := by simpa using k0
      have g1 : (0 : Int) ≤ (k : Int) - 1 := by omega
      have hk1 : k - 1 < x.clients.length := by omega
      rw [getD_at hk1] at hx
      obtain ⟨b1, o1, q1, hb1, hq1⟩ := HR.out (k - 1) (encI x.clients[k - 1]) (by simp [hk1])
      injection q1 with q1
      injection q1 with q1 q2 _
      subst q1 q2
      have f0 := tC Hbl hb (hq1 0 _ rfl)
      simp only [Nat.add_zero, Nat.mul_one] at f0
      rw [← hx] at f0
      have X0 := hid hx
      clear hq1 hx
      by_cases t0 : x.clients[k] < 1
      ·have d0 := decide_eq_true t0
       have HN := hid (show risC 0 x.clients = false from by rw [HV.out, HD.out]; exact risC_no (by omega))
       have wk : IntKind.i64.wrap ((k : Int) - 1) = (k : Int) - 1 := IntWalk.i64_in _ (by omega)
       have tk : ((k : Int) - 1).toNat = k - 1 := by omega
       go_wp2_with fail
       go_quiet (fail)
       clear wk tk
       go_wp2_with fail
       go_ret
       exact ⟨by rw [HC.out, HN.out]; rfl, by have hbl := Hbl.out; exact tB⟩
      have d0 := decide_eq_false t0
      by_cases t1 : 16 < x.clients[k]
      ·have d1 := decide_eq_true t1
       have HN := hid (show risC 0 x.clients = false from by rw [HV.out, HD.out]; exact risC_no (by omega))
       have wk : IntKind.i64.wrap ((k : Int) - 1) = (k : Int) - 1 := IntWalk.i64_in _ (by omega)
       have tk : ((k : Int) - 1).toNat = k - 1 := by omega
       go_wp2_with fail
       go_quiet (fail)
       clear wk tk
       go_wp2_with fail
       go_ret
       exact ⟨by rw [HC.out, HN.out]; rfl, by have hbl := Hbl.out; exact tB⟩
      have d1 := decide_eq_false t1
      by_cases t2 : x.clients[k] ≤ q
      ·have d2 := decide_eq_true t2
       have HN := hid (show risC 0 x.clients = false from by rw [HV.out, HD.out]; exact risC_no (by omega))
       have wk : IntKind.i64.wrap ((k : Int) - 1) = (k : Int) - 1 := IntWalk.i64_in _ (by omega)
       have tk : ((k : Int) - 1).toNat = k - 1 := by omega
       go_wp2_with fail
       go_quiet (fail)
       clear wk tk
       go_wp2_with fail
       go_ret
       exact ⟨by rw [HC.out, HN.out]; rfl, by have hbl := Hbl.out; exact tB⟩
      have d2 := decide_eq_false t2
      have HN := hid (show risC 0 x.clients = risC x.clients[k] (x.clients.drop (k + 1)) from by rw [HV.out, HD.out]; exact risC_step (by omega) (by omega))
      have c1 : 1 ≤ x.clients[k] := by omega
      have wk : IntKind.i64.wrap ((k : Int) - 1) = (k : Int) - 1 := IntWalk.i64_in _ (by omega)
      have tk : ((k : Int) - 1).toNat = k - 1 := by omega
      go_wp2_with fail
      go_quiet (fail)
      clear wk tk
      go_wp2_with fail
      go_roundw
      case rel => exact ⟨k + 1, x.clients[k], by omega, by go_num, HN.out, by have hbl := Hbl.out; exact tB, by simpa [go_sem] using hcell, .inr ⟨by omega, by rw [Nat.add_sub_cancel, getD_at hlt], by omega⟩⟩
      case measure => simp [intOf]; omega
    ·have dl : decide ((k : Int) < (x.clients.length : Int)) = false := by simpa using hlt
     have HD := hid (drop_all (l := x.clients) (k := k) (by omega))
     go_wp2_with fail
     go_ret
     exact ⟨by rw [HC.out, HV.out, HD.out]; rfl, Hbl.out⟩
  ·go_enter Tryz.func52, Tryz.ntmps52
   go_wp2_with (fail)
   go_loopw [3] (fun i wr => ∃ (k : Nat) (q : Int), k ≤ x.clients.length ∧ i = .int .i64 k ∧ risC 0 x.clients = risC q (x.clients.drop k) ∧ Below w.heap.size w wr ∧ wr.cell? ⟨w.heap.size, 3, none⟩ = some (.slice A x.clients.length c) ∧ (k = 0 ∧ q = 0 ∨ 0 < k ∧ q = x.clients.getD (k - 1) 0 ∧ 1 ≤ q)) (fun i _ => x.clients.length - (intOf i).toNat)
   case atStart => exact ⟨0, 0, Nat.zero_le _, rfl, rfl, tB, by simp [go_sem], .inl ⟨rfl, rfl⟩⟩
   case round =>
    obtain ⟨k, q, hk, rfl, hv, hbl, hcell, hx⟩ := hrel
    have HV := hid hv
    have Hbl := hid hbl
    have hz := hbl.size
    clear hv hbl
    by_cases hlt : k < x.clients.length
    ·have kl : (k : Int) < (x.clients.length : Int) := by omega
     have dl : decide ((k : Int) < (x.clients.length : Int)) = true := by simpa using hlt
     obtain ⟨b, o, rfl, hb, hc⟩ := HR.out k (encI x.clients[k]) (by simp [hlt])
     have e0 := tC Hbl hb (hc 0 _ rfl)
     simp only [Nat.add_zero, Nat.mul_one] at e0
     clear hc
     have HD := hid (drop_cons' hlt)
     rcases hx with ⟨k0, hx⟩ | ⟨k0, hx, x1⟩
     ·have g0 : decide (0 < k) = false := by simp; omega
      have x0 : 0 ≤ q ∧ q ≤ 0 := by omega
      clear k0 hx
      by_cases t0 : x.clients[k] < 1
      ·have d0 := decide_eq_true t0
       have HN := hid (show risC 0 x.clients = false from by rw [HV.out, HD.out]; exact risC_no (by omega))
       have wk : IntKind.i64.wrap ((k : Int) - 1) = (k : Int) - 1 := IntWalk.i64_in _ (by omega)
       have tk : ((k : Int) - 1).toNat = k - 1 := by omega
       go_wp2_with fail
       go_quiet (fail)
       clear wk tk
       go_wp2_with fail
       go_ret
       exact ⟨by rw [HC.out, HN.out]; rfl, by have hbl := Hbl.out; exact tB⟩
      have d0 := decide_eq_false t0
      by_cases t1 : 16 < x.clients[k]
      ·have d1 := decide_eq_true t1
       have HN := hid (show risC 0 x.clients = false from by rw [HV.out, HD.out]; exact risC_no (by omega))
       have wk : IntKind.i64.wrap ((k : Int) - 1) = (k : Int) - 1 := IntWalk.i64_in _ (by omega)
       have tk : ((k : Int) - 1).toNat = k - 1 := by omega
       go_wp2_with fail
       go_quiet (fail)
       clear wk tk
       go_wp2_with fail
       go_ret
       exact ⟨by rw [HC.out, HN.out]; rfl, by have hbl := Hbl.out; exact tB⟩
      have d1 := decide_eq_false t1
      have HN := hid (show risC 0 x.clients = risC x.clients[k] (x.clients.drop (k + 1)) from by rw [HV.out, HD.out]; exact risC_step (by omega) (by omega))
      have c1 : 1 ≤ x.clients[k] := by omega
      have wk : IntKind.i64.wrap ((k : Int) - 1) = (k : Int) - 1 := IntWalk.i64_in _ (by omega)
      have tk : ((k : Int) - 1).toNat = k - 1 := by omega
      go_wp2_with fail
      go_quiet (fail)
      clear wk tk
      go_wp2_with fail
      go_roundw
      case rel => exact ⟨k + 1, x.clients[k], by omega, by go_num, HN.out, by have hbl := Hbl.out; exact tB, by simpa [go_sem] using hcell, .inr ⟨by omega, by rw [Nat.add_sub_cancel, getD_at hlt], by omega⟩⟩
      case measure => simp [intOf]; omega
     ·have g0 : decide (0 < k) = true := by simpa using k0
      have g1 : (0 : Int) ≤ (k : Int) - 1 := by omega
      have hk1 : k - 1 < x.clients.length := by omega
      rw [getD_at hk1] at hx
      obtain ⟨b1, o1, q1, hb1, hq1⟩ := HR.out (k - 1) (encI x.clients[k - 1]) (by simp [hk1])
      injection q1 with q1
      injection q1 with q1 q2 _
      subst q1 q2
      have f0 := tC Hbl hb (hq1 0 _ rfl)
      simp only [Nat.add_zero, Nat.mul_one] at f0
      rw [← hx] at f0
      have X0 := hid hx
      clear hq1 hx
      by_cases t0 : x.clients[k] < 1
      ·have d0 := decide_eq_true t0
       have HN := hid (show risC 0 x.clients = false from by rw [HV.out, HD.out]; exact risC_no (by omega))
       have wk : IntKind.i64.wrap ((k : Int) - 1) = (k : Int) - 1 := IntWalk.i64_in _ (by omega)
       have tk : ((k : Int) - 1).toNat = k - 1 := by omega
       go_wp2_with fail
       go_quiet (fail)
       clear wk tk
       go_wp2_with fail
       go_ret
       exact ⟨by rw [HC.out, HN.out]; rfl, by have hbl := Hbl.out; exact tB⟩
      have d0 := decide_eq_false t0
      by_cases t1 : 16 < x.clients[k]
      ·have d1 := decide_eq_true t1
       have HN := hid (show risC 0 x.clients = false from by rw [HV.out, HD.out]; exact risC_no (by omega))
       have wk : IntKind.i64.wrap ((k : Int) - 1) = (k : Int) - 1 := IntWalk.i64_in _ (by omega)
       have tk : ((k : Int) - 1).toNat = k - 1 := by omega
       go_wp2_with fail
       go_quiet (fail)
       clear wk tk
       go_wp2_with fail
       go_ret
       exact ⟨by rw [HC.out, HN.out]; rfl, by have hbl := Hbl.out; exact tB⟩
      have d1 := decide_eq_false t1
      by_cases t2 : x.clients[k] ≤ q
      ·have d2 := decide_eq_true t2
       have HN := hid (show risC 0 x.clients = false from by rw [HV.out, HD.out]; exact risC_no (by omega))
       have wk : IntKind.i64.wrap ((k : Int) - 1) = (k : Int) - 1 := IntWalk.i64_in _ (by omega)
       have tk : ((k : Int) - 1).toNat = k - 1 := by omega
       go_wp2_with fail
       go_quiet (fail)
       clear wk tk
       go_wp2_with fail
       go_ret
       exact ⟨by rw [HC.out, HN.out]; rfl, by have hbl := Hbl.out; exact tB⟩
      have d2 := decide_eq_false t2
      have HN := hid (show risC 0 x.clients = risC x.clients[k] (x.clients.drop (k + 1)) from by rw [HV.out, HD.out]; exact risC_step (by omega) (by omega))
      have c1 : 1 ≤ x.clients[k] := by omega
      have wk : IntKind.i64.wrap ((k : Int) - 1) = (k : Int) - 1 := IntWalk.i64_in _ (by omega)
      have tk : ((k : Int) - 1).toNat = k - 1 := by omega
      go_wp2_with fail
      go_quiet (fail)
      clear wk tk
      go_wp2_with fail
      go_roundw
      case rel => exact ⟨k + 1, x.clients[k], by omega, by go_num, HN.out, by have hbl := Hbl.out; exact tB, by simpa [go_sem] using hcell, .inr ⟨by omega, by rw [Nat.add_sub_cancel, getD_at hlt], by omega⟩⟩
      case measure => simp [intOf]; omega
    ·have dl : decide ((k : Int) < (x.clients.length : Int)) = false := by simpa using hlt
     have HD := hid (drop_all (l := x.clients) (k := k) (by omega))
     go_wp2_with fail
     go_ret
     exact ⟨by rw [HC.out, HV.out, HD.out]; rfl, Hbl.out⟩
 ·have d7 : (x.kind == 4) = false := by
   have h : x.kind = 1 := by simpa using b6
   rw [h]; rfl
  have h0 : x.clients.length = 0 := by have := of_decide_eq_false e6; omega
  have HL := hid (List.eq_nil_of_length_eq_zero h0)
  clear d6 e6
  rw [h0]
  go_enter Tryz.func52, Tryz.ntmps52
  go_wp2_with (fail)
  refine wp_loop_rounds 1 ?_
  rw [rounds_succ]
  go_wp2_with fail
  go_ret
  exact ⟨by rw [HC.out, HL.out]; rfl, tB⟩
theorem ref15Units (x : Acct) (A : Option Addr) (c : Nat) (w : World) (hl : x.clients.length ≤ 1048576) (hr : Rd w A 1 (x.clients.map encI)) :
  Calls Tryz.prog 34 #[.agg #[.int .i64 x.id, .int .i64 x.member, .int .i64 x.kind, .slice A x.clients.length c]] w fun e w' => ∃ v, e = .returned v ∧ IsSl 2 encUn w' v (unitsA x) ∧ Below w.heap.size w w' := by
 have HR := hid hr
 clear hr
 by_cases hk1 : x.kind = 1
 ·have b1 : (x.kind == 1) = true := by simpa using hk1
  have HU := hid (show unitsA x = [⟨x.id, 0⟩] from if_pos hk1)
  clear hk1
  go_enter Tryz.func34, Tryz.ntmps34
  go_wp2_with (first | (at_builtin; refine wpList_app rfl _ _ _ rfl elUn (w.heap.size + 1) _ _ rfl ((Own.nil _ _ _ _).alloc _) (some ⟨_, 0, none⟩) 1 1 rfl [encUn ⟨x.id, 0⟩] rfl (fun h => by cases h) (rd_oneN (by simp)) (rowsUn [⟨x.id, 0⟩]) (by unfold maxLen; exact tE) tE tZ ?_; intro v3 w3 hown3 hb3) | fail)
  go_ret
  refine ⟨_, rfl, ?_, tB⟩
  rw [HU.out]
  exact hown3.isSl
 ·have b1 : (x.kind == 1) = false := by simpa using hk1
  have HU := hid (show unitsA x = x.clients.map (fun c => ⟨x.id, c⟩) from if_neg hk1)
  clear hk1
  go_enter Tryz.func34, Tryz.ntmps34
  go_wp2_with (fail)
  go_loopw [3, 4] (fun v i wr => ∃ k : Nat, k ≤ x.clients.length ∧ i = .int .i64 k ∧ Own wr (w.heap.size + 1) 60 2 v (((x.clients.take k).map (fun c => (⟨x.id, c⟩ : Un))).map encUn) ∧ Below w.heap.size w wr ∧ w.heap.size < wr.heap.size ∧ (wr.cell? ⟨w.heap.size, 0, none⟩ = some (.int .i64 x.id) ∧ wr.cell? ⟨w.heap.size, 3, none⟩ = some (.slice A x.clients.length c))) (fun _ i _ => x.clients.length - (intOf i).toNat)
  case atStart => exact ⟨0, Nat.zero_le _, rfl, Own.nil _ _ _ _, tB, by simp, by simp [go_sem]⟩
  case round =>
   obtain ⟨k, hk, rfl, hown, hbl, hsz, h0, h3⟩ := hrel
   have Hown := hid hown
   have Hbl := hid hbl
   have hz := hbl.size
   clear hown hbl
   by_cases hlt : k < x.clients.length
   ·have kl : (k : Int) < (x.clients.length : Int) := by omega
    have dl : decide ((k : Int) < (x.clients.length : Int)) = true := by simpa using hlt
    obtain ⟨b, o, rfl, hb, hc⟩ := HR.out k (encI x.clients[k]) (by simp [hlt])
    have e0 := tC Hbl hb (hc 0 _ rfl)
    simp only [Nat.add_zero, Nat.mul_one] at e0
    have HS := hid (map_snoc hlt (fun c => (⟨x.id, c⟩ : Un)))
    clear hc
    go_wp2_with fail
    go_region_held3 (fun w' => (w'.cell? ⟨w.heap.size, 0, none⟩ = some (.int .i64 x.id) ∧ w'.cell? ⟨w.heap.size, 3, none⟩ = some (.slice (some ⟨b, o, none⟩) x.clients.length c)) ∧ w'.cell? ⟨b, o + k, none⟩ = some (.int .i64 x.clients[k])) (exact tK) (first | (refine step_app rfl _ _ _ rfl elUn (w.heap.size + 1) _ _ rfl (by first | exact Hown.out.drew.alloc _ | exact (Hown.out.alloc _).drew | exact Hown.out.alloc _) _ 1 1 rfl [encUn ⟨x.id, x.clients[k]⟩] rfl (fun h => by cases h) (by first | exact rd_one | exact rd_one.drew) (rowsUn [⟨x.id, x.clients[k]⟩]) (by unfold maxLen; simp; omega) (by simp; omega) tZ ?_; intro v3 w3 hown3 hb3) | fail)
    go_wp2_with fail
    go_roundw
    case rel => exact ⟨k + 1, by omega, by go_num, by rw [HS.out, List.map_append]; exact hown3, by have hbl := Hbl.out; exact tB, by have := hb3.size; simp at this; omega, by rw [hb3.cell (p := ⟨w.heap.size, 0, none⟩) (by simp)]; simp [go_sem, h0, hsz, ↓IntWalk.iteOmega], by rw [hb3.cell (p := ⟨w.heap.size, 3, none⟩) (by simp)]; simp [go_sem, h3, hsz, ↓IntWalk.iteOmega]⟩
    case measure => simp [intOf]; omega
   ·have dl : decide ((k : Int) < (x.clients.length : Int)) = false := by simpa using hlt
    have HT := hid (show x.clients.take k = x.clients from List.take_of_length_le (by omega))
    go_wp2_with (fail)
    go_ret
    refine ⟨_, rfl, ?_, Hbl.out⟩
    rw [HU.out]
    have := Hown.out
    rw [HT.out] at this
    exact this.isSl
/- Accounts in tables: contracts of the reference's Find, Put, Table, Set, Of, Owner. -/
theorem ref15IsV (x : AcctV) (w : World) (hl : x.clients.val.length ≤ 1099511627776) (hg : GoodA w x) :
  Calls Tryz.prog 52 #[.agg #[.int .i64 x.id, .int .i64 x.member, .int .i64 x.kind, .slice x.clients.A x.clients.val.length x.clients.c]] w fun e w' => e = .returned (.bool (okAV x)) ∧ Below w.heap.size w w' :=
 ref15Is (lgA x) x.clients.A x.clients.c w hl hg.rd
end Go.Proofs.YtalgfpegaobacaaGreatDoor
