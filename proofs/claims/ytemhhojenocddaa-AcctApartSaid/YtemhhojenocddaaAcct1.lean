/- Accounts: contracts of acct.most, Check, Units, Has, Less. -/
import Derived.Test.YtemhhojenocddaaAcctT
import Derived.Test.YtemhhojenocddaaList
import Derived.Test.YtemhhojenocddaaRowL
import Derived.Outline
import Derived.Test.YtemhhojenocddaaCap
import Derived.Test.YtemhhojenocddaaRows
import Derived.WalkKit
import Derived.WalkSpells
import Derived.WalkLawsBesides
import Derived.BigQuiet
import Derived.Deep.RegionHeld3
import Derived.Deep.RegionLaw
import Derived.Handy
namespace Go.Proofs.Ytemhhojenocddaa
open Go.RowKit
theorem elUn : Elem Try.prog 32 26 2 16 := elem_of Try.underlying32 (z := .agg #[.int .i64 0, .int .i64 0]) (by kernel_rfl) rfl (by omega)
theorem elAcctV : Elem Try.prog 42 24 4 48 := elem_of Try.underlying42 (z := .agg #[.int .i64 0, .int .i64 0, .int .i64 0, .slice none 0 0]) (by kernel_rfl) rfl (by omega)
theorem elN : Elem Try.prog 22 3 1 8 := elem_of Try.underlying22 (z := .int .i64 0) (by kernel_rfl) rfl (by omega)
set_option maxRecDepth 100000 in
set_option maxHeartbeats 1000000 in
theorem acctMost (k : Int) (w : World) : Calls Try.prog 58 #[.int .i64 k] w fun e w' => e = .returned (.int .i64 (mostA k)) ∧ w' = w := by
  by_cases h : k = 1
  · subst h
    go_enter Try.func58, Try.ntmps58
    go_wp2_with fail
    go_ret
    exact ⟨rfl, rfl⟩
  · have b1 : (k == 1) = false := by simpa using h
    by_cases h4 : k = 4
    · subst h4
      go_enter Try.func58, Try.ntmps58
      go_wp2_with fail
      go_ret
      exact ⟨rfl, rfl⟩
    · have b4 : (k == 4) = false := by simpa using h4
      have HM := Lib.hid (show mostA k = 16 from by unfold mostA; rw [if_neg h, if_neg h4])
      go_enter Try.func58, Try.ntmps58
      go_wp2_with fail
      go_ret
      exact ⟨by rw [HM.out]; rfl, rfl⟩
set_option maxRecDepth 100000 in
set_option maxHeartbeats 8000000 in
theorem acctCheck (x : Acct) (A : Option Addr) (c : Nat) (w : World) (hl : x.clients.length ≤ 1099511627776) (hr : Rd w A 1 (x.clients.map encI)) :
    Calls Try.prog 11 #[.agg #[.int .i64 x.id, .int .i64 x.member, .int .i64 x.kind, .slice A x.clients.length c]] w fun e w' => e = .returned (.int .i64 (codeA x)) ∧ Below w.heap.size w w' := by
  have HR := Lib.hid hr
  have CM := Lib.hid (fun W => acctMost x.kind W)
  clear hr
  by_cases t0 : 1 ≤ x.id
  rotate_left
  · have d0 := decide_eq_false t0
    have HNO := Lib.hid (codeA_no (x := x) (fun hk => by unfold okA at hk; omega))
    go_enter Try.func11, Try.ntmps11
    go_wp2_with (fail)
    go_quiet ((go_at_call 58; exact Calls.quiet_of_same (CM.out _)))
    go_wp2_with (fail)
    go_ret
    exact ⟨by rw [HNO.out]; first | done | rfl, by (repeat' (first | (with_reducible exact Below.refl _ _) | (with_reducible assumption) | (with_reducible refine Below.alloc ?_ ?_ _) | (with_reducible refine Below.setCell ?_ ?_ _) | (with_reducible refine Below.drew ?_) | (with_reducible refine below_drewN ?_ _) | (with_reducible refine below_via ?_ (by with_reducible assumption) ?_) | omega | (simp; done) | (simp; omega)))⟩
  have d0 := decide_eq_true t0
  by_cases t1 : x.id ≤ 16
  rotate_left
  · have d1 := decide_eq_false t1
    have HNO := Lib.hid (codeA_no (x := x) (fun hk => by unfold okA at hk; omega))
    go_enter Try.func11, Try.ntmps11
    go_wp2_with (fail)
    go_quiet ((go_at_call 58; exact Calls.quiet_of_same (CM.out _)))
    go_wp2_with (fail)
    go_ret
    exact ⟨by rw [HNO.out]; first | done | rfl, by (repeat' (first | (with_reducible exact Below.refl _ _) | (with_reducible assumption) | (with_reducible refine Below.alloc ?_ ?_ _) | (with_reducible refine Below.setCell ?_ ?_ _) | (with_reducible refine Below.drew ?_) | (with_reducible refine below_drewN ?_ _) | (with_reducible refine below_via ?_ (by with_reducible assumption) ?_) | omega | (simp; done) | (simp; omega)))⟩
  have d1 := decide_eq_true t1
  by_cases t2 : 1 ≤ x.member
  rotate_left
  · have d2 := decide_eq_false t2
    have HNO := Lib.hid (codeA_no (x := x) (fun hk => by unfold okA at hk; omega))
    go_enter Try.func11, Try.ntmps11
    go_wp2_with (fail)
    go_quiet ((go_at_call 58; exact Calls.quiet_of_same (CM.out _)))
    go_wp2_with (fail)
    go_ret
    exact ⟨by rw [HNO.out]; first | done | rfl, by (repeat' (first | (with_reducible exact Below.refl _ _) | (with_reducible assumption) | (with_reducible refine Below.alloc ?_ ?_ _) | (with_reducible refine Below.setCell ?_ ?_ _) | (with_reducible refine Below.drew ?_) | (with_reducible refine below_drewN ?_ _) | (with_reducible refine below_via ?_ (by with_reducible assumption) ?_) | omega | (simp; done) | (simp; omega)))⟩
  have d2 := decide_eq_true t2
  by_cases t3 : x.member ≤ 8
  rotate_left
  · have d3 := decide_eq_false t3
    have HNO := Lib.hid (codeA_no (x := x) (fun hk => by unfold okA at hk; omega))
    go_enter Try.func11, Try.ntmps11
    go_wp2_with (fail)
    go_quiet ((go_at_call 58; exact Calls.quiet_of_same (CM.out _)))
    go_wp2_with (fail)
    go_ret
    exact ⟨by rw [HNO.out]; first | done | rfl, by (repeat' (first | (with_reducible exact Below.refl _ _) | (with_reducible assumption) | (with_reducible refine Below.alloc ?_ ?_ _) | (with_reducible refine Below.setCell ?_ ?_ _) | (with_reducible refine Below.drew ?_) | (with_reducible refine below_drewN ?_ _) | (with_reducible refine below_via ?_ (by with_reducible assumption) ?_) | omega | (simp; done) | (simp; omega)))⟩
  have d3 := decide_eq_true t3
  by_cases t4 : x.kind < 1
  · have d4 := decide_eq_true t4
    have HNO := Lib.hid (codeA_no (x := x) (fun hk => by unfold okA at hk; omega))
    go_enter Try.func11, Try.ntmps11
    go_wp2_with (fail)
    go_quiet ((go_at_call 58; exact Calls.quiet_of_same (CM.out _)))
    go_wp2_with (fail)
    go_ret
    exact ⟨by rw [HNO.out]; first | done | rfl, by (repeat' (first | (with_reducible exact Below.refl _ _) | (with_reducible assumption) | (with_reducible refine Below.alloc ?_ ?_ _) | (with_reducible refine Below.setCell ?_ ?_ _) | (with_reducible refine Below.drew ?_) | (with_reducible refine below_drewN ?_ _) | (with_reducible refine below_via ?_ (by with_reducible assumption) ?_) | omega | (simp; done) | (simp; omega)))⟩
  have d4 := decide_eq_false t4
  by_cases t5 : 4 < x.kind
  · have d5 := decide_eq_true t5
    have HNO := Lib.hid (codeA_no (x := x) (fun hk => by unfold okA at hk; omega))
    go_enter Try.func11, Try.ntmps11
    go_wp2_with (fail)
    go_quiet ((go_at_call 58; exact Calls.quiet_of_same (CM.out _)))
    go_wp2_with (fail)
    go_ret
    exact ⟨by rw [HNO.out]; first | done | rfl, by (repeat' (first | (with_reducible exact Below.refl _ _) | (with_reducible assumption) | (with_reducible refine Below.alloc ?_ ?_ _) | (with_reducible refine Below.setCell ?_ ?_ _) | (with_reducible refine Below.drew ?_) | (with_reducible refine below_drewN ?_ _) | (with_reducible refine below_via ?_ (by with_reducible assumption) ?_) | omega | (simp; done) | (simp; omega)))⟩
  have d5 := decide_eq_false t5
  by_cases t6 : mostA x.kind < (x.clients.length : Int)
  · have d6 := decide_eq_true t6
    have HNO := Lib.hid (codeA_no (x := x) (fun hk => by unfold okA at hk; omega))
    go_enter Try.func11, Try.ntmps11
    go_wp2_with (fail)
    go_quiet ((go_at_call 58; exact Calls.quiet_of_same (CM.out _)))
    go_wp2_with (fail)
    go_ret
    exact ⟨by rw [HNO.out]; first | done | rfl, by (repeat' (first | (with_reducible exact Below.refl _ _) | (with_reducible assumption) | (with_reducible refine Below.alloc ?_ ?_ _) | (with_reducible refine Below.setCell ?_ ?_ _) | (with_reducible refine Below.drew ?_) | (with_reducible refine below_drewN ?_ _) | (with_reducible refine below_via ?_ (by with_reducible assumption) ?_) | omega | (simp; done) | (simp; omega)))⟩
  have d6 := decide_eq_false t6
  have HC := Lib.hid (show codeA x = if risC 0 x.clients = true then 0 else 2 from by
    unfold codeA
    by_cases h : risC 0 x.clients = true
    · rw [if_pos h, if_pos (by unfold okA; exact ⟨by omega, by omega, by omega, by omega, h⟩)]
    · rw [if_neg h, if_neg (fun hk => h hk.2.2.2.2)])
  go_enter Try.func11, Try.ntmps11
  go_wp2_with (fail)
  go_quiet ((go_at_call 58; exact Calls.quiet_of_same (CM.out _)))
  go_wp2_with (fail)
  go_loopw [4, 49] (fun p i wr => ∃ (k : Nat) (q : Int), k ≤ x.clients.length ∧ i = .int .i64 k ∧ p = .int .i64 q ∧ Below w.heap.size w wr ∧ risC 0 x.clients = risC q (x.clients.drop k)) (fun _ i _ => x.clients.length - (intOf i).toNat)
  case atStart => exact ⟨0, 0, Nat.zero_le _, rfl, rfl, by (repeat' (first | (with_reducible exact Below.refl _ _) | (with_reducible assumption) | (with_reducible refine Below.alloc ?_ ?_ _) | (with_reducible refine Below.setCell ?_ ?_ _) | (with_reducible refine Below.drew ?_) | (with_reducible refine below_drewN ?_ _) | (with_reducible refine below_via ?_ (by with_reducible assumption) ?_) | omega | (simp; done) | (simp; omega))), rfl⟩
  case round =>
    obtain ⟨k, q, hk, rfl, rfl, hb0, hrc⟩ := hrel
    have Hb0 := Lib.hid hb0
    clear hb0
    have HRC := Lib.hid hrc
    clear hrc
    by_cases hlt : k < x.clients.length
    · have kl : (k : Int) < (x.clients.length : Int) := by omega
      have dl : decide ((k : Int) < (x.clients.length : Int)) = true := by simpa using hlt
      have hd := drop_cons' hlt
      obtain ⟨b, o, rfl, hb, hc⟩ := HR.out k (encI x.clients[k]) (by simp [hlt])
      have e0 := (Hb0.out.cell (p := ⟨b, o + k * 1 + 0, none⟩) hb).trans (hc 0 _ rfl)
      simp only [Nat.add_zero, Nat.mul_one] at e0
      clear hc
      by_cases h1 : x.clients[k] ≤ q
      · have g1 := decide_eq_true h1
        have HN := Lib.hid (show risC 0 x.clients = false from by rw [HRC.out, hd]; exact risC_no (.inl h1))
        clear hd
        go_wp2_with (fail)
        go_ret
        exact ⟨by rw [HC.out, HN.out]; rfl, Hb0.out⟩
      · have g1 := decide_eq_false h1
        by_cases h2 : 16 < x.clients[k]
        · have g2 := decide_eq_true h2
          have HN := Lib.hid (show risC 0 x.clients = false from by rw [HRC.out, hd]; exact risC_no (.inr h2))
          clear hd
          go_wp2_with (fail)
          go_ret
          exact ⟨by rw [HC.out, HN.out]; rfl, Hb0.out⟩
        · have g2 := decide_eq_false h2
          have HN := Lib.hid (show risC 0 x.clients = risC x.clients[k] (x.clients.drop (k + 1)) from by rw [HRC.out, hd]; exact risC_step (by omega) (by omega))
          clear hd
          go_wp2_with (fail)
          go_roundw
          case rel => exact ⟨k + 1, x.clients[k], by omega, by go_num, rfl, Hb0.out, HN.out⟩
          case measure => simp [intOf]; omega
    · have dl : decide ((k : Int) < (x.clients.length : Int)) = false := by simpa using hlt
      have HN := Lib.hid (show risC 0 x.clients = true from by rw [HRC.out, List.drop_eq_nil_of_le (by omega)]; rfl)
      go_wp2_with (fail)
      go_ret
      exact ⟨by rw [HC.out, HN.out]; rfl, Hb0.out⟩
theorem rd_lit {w : World} {b : Nat} {u v : Value} (hb : b < w.heap.size) (h0 : w.cell? ⟨b, 0, none⟩ = some u) (h1 : w.cell? ⟨b, 1, none⟩ = some v) : Rs w 2 [[u, v]] (some ⟨b, 0, none⟩) 1 := by
  refine ⟨fun i r hr => ?_, by simp, by unfold maxLen; omega, fun h => by cases h⟩
  match i, hr with
  | 0, hr =>
    simp at hr
    subst hr
    refine ⟨b, 0, rfl, hb, fun j z hz => ?_⟩
    match j with
    | 0 => simp at hz; subst hz; simpa using h0
    | 1 => simp at hz; subst hz; simpa using h1
    | j + 2 => simp at hz
set_option maxRecDepth 100000 in
set_option maxHeartbeats 8000000 in
theorem acctUnits (x : Acct) (A : Option Addr) (c : Nat) (w : World) (hl : x.clients.length ≤ 1048576) (hr : Rd w A 1 (x.clients.map encI)) :
    Calls Try.prog 14 #[.agg #[.int .i64 x.id, .int .i64 x.member, .int .i64 x.kind, .slice A x.clients.length c]] w fun e w' => ∃ v, e = .returned v ∧ IsSl 2 encUn w' v (unitsA x) ∧ Below w.heap.size w w' := by
  have HR := Lib.hid hr
  clear hr
  by_cases hk1 : x.kind = 1
  · have b1 : (x.kind == 1) = true := by simpa using hk1
    have HU := Lib.hid (show unitsA x = [⟨x.id, 0⟩] from if_pos hk1)
    clear hk1
    go_enter Try.func14, Try.ntmps14
    go_wp2_with (fail)
    go_ret
    refine ⟨_, rfl, ?_, by (repeat' (first | (with_reducible exact Below.refl _ _) | (with_reducible assumption) | (with_reducible refine Below.alloc ?_ ?_ _) | (with_reducible refine Below.setCell ?_ ?_ _) | (with_reducible refine Below.drew ?_) | (with_reducible refine below_drewN ?_ _) | (with_reducible refine below_via ?_ (by with_reducible assumption) ?_) | omega | (simp; done) | (simp; omega)))⟩
    rw [HU.out]
    exact ⟨_, _, rfl, rd_lit (by simp) (by simp [go_sem]) (by simp [go_sem])⟩
  · have b1 : (x.kind == 1) = false := by simpa using hk1
    have HU := Lib.hid (show unitsA x = x.clients.map (fun c => ⟨x.id, c⟩) from if_neg hk1)
    clear hk1
    go_enter Try.func14, Try.ntmps14
    go_wp2_with (fail)
    go_loopw [3, 16] (fun v i wr => ∃ k : Nat, k ≤ x.clients.length ∧ i = .int .i64 k ∧ Own wr (w.heap.size + 1) 26 2 v (((x.clients.take k).map (fun c => (⟨x.id, c⟩ : Un))).map encUn) ∧ Below w.heap.size w wr ∧ w.heap.size < wr.heap.size ∧ wr.cell? ⟨w.heap.size, 0, none⟩ = some (.int .i64 x.id)) (fun _ i _ => x.clients.length - (intOf i).toNat)
    case atStart => exact ⟨0, Nat.zero_le _, rfl, Own.nil _ _ _ _, by (repeat' (first | (with_reducible exact Below.refl _ _) | (with_reducible assumption) | (with_reducible refine Below.alloc ?_ ?_ _) | (with_reducible refine Below.setCell ?_ ?_ _) | (with_reducible refine Below.drew ?_) | (with_reducible refine below_drewN ?_ _) | (with_reducible refine below_via ?_ (by with_reducible assumption) ?_) | omega | (simp; done) | (simp; omega))), by simp, by simp [go_sem]⟩
    case round =>
      obtain ⟨k, hk, rfl, hown, hbl, hsz, h0⟩ := hrel
      have Hown := Lib.hid hown
      have Hbl := Lib.hid hbl
      have hz := hbl.size
      clear hown hbl
      by_cases hlt : k < x.clients.length
      · have kl : (k : Int) < (x.clients.length : Int) := by omega
        have dl : decide ((k : Int) < (x.clients.length : Int)) = true := by simpa using hlt
        obtain ⟨b, o, rfl, hb, hc⟩ := HR.out k (encI x.clients[k]) (by simp [hlt])
        have e0 := (Hbl.out.cell (p := ⟨b, o + k * 1 + 0, none⟩) hb).trans (hc 0 _ rfl)
        simp only [Nat.add_zero, Nat.mul_one] at e0
        have HS := Lib.hid (map_snoc hlt (fun c => (⟨x.id, c⟩ : Un)))
        clear hc
        go_wp2_with (first | (at_builtin; refine wpList_app rfl _ _ _ rfl elUn (w.heap.size + 1) _ _ rfl (Hown.out.alloc _) (some ⟨_, 0, none⟩) 1 1 rfl [encUn ⟨x.id, x.clients[k]⟩] rfl (fun h => by cases h) (rd_oneN (by simp)) (rowsUn [⟨x.id, x.clients[k]⟩]) (by unfold maxLen; first | (simp; done) | omega | (simp; omega)) (by first | (simp; done) | omega | (simp; omega)) (by first | omega | (simp; done) | (simp; omega)) ?_; intro v3 w3 hown3 hb3) | fail)
        go_roundw
        case rel => exact ⟨k + 1, by omega, by go_num, by rw [HS.out, List.map_append]; exact hown3, (Hbl.out.alloc hz _).trans (hb3.mono (by omega)), by have := hb3.size; simp at this; omega, by rw [hb3.cell (p := ⟨w.heap.size, 0, none⟩) (by simp)]; simp [go_sem, h0, hsz, ↓IntWalk.iteOmega]⟩
        case measure => simp [intOf]; omega
      · have dl : decide ((k : Int) < (x.clients.length : Int)) = false := by simpa using hlt
        have HT := Lib.hid (show x.clients.take k = x.clients from List.take_of_length_le (by omega))
        go_wp2_with (fail)
        go_ret
        refine ⟨_, rfl, ?_, Hbl.out⟩
        rw [HU.out]
        have := Hown.out
        rw [HT.out] at this
        exact this.isSl
end Go.Proofs.Ytemhhojenocddaa
