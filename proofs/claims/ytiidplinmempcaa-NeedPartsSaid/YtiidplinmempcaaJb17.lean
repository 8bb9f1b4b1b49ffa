/- Joined: Ref15a, NedM. -/
import Derived.Test.YtiidplinmempcaaJb6
import Derived.Test.YtiidplinmempcaaJb16
import Derived.Deep.CutRange
import Derived.Deep.DeepCutAuto
/- Accounts: contracts of the reference's Is, Units, Has. -/
namespace Go.Proofs.Ytiidplinmempcaa
open Go.RowKit
theorem okA_ref {x : Acct} : okAAc x ↔ (1 ≤ x.id ∧ x.id ≤ 16) ∧ (1 ≤ x.member ∧ x.member ≤ 8) ∧ (1 ≤ x.kind ∧ x.kind ≤ 4) ∧ ¬ (x.kind = 1 ∧ 0 < x.clients.length) ∧ ¬ (x.kind = 4 ∧ 1 < x.clients.length) ∧ risC 0 x.clients = true := by
  unfold okAAc mostA
  constructor
  · rintro ⟨h1, h2, h3, h4, h5⟩
    refine ⟨h1, h2, h3, fun h => ?_, fun h => ?_, h5⟩
    · rw [if_pos h.1] at h4; omega
    · rw [if_neg (by omega), if_pos h.1] at h4; omega
  · rintro ⟨h1, h2, h3, h4, h5, h6⟩
    refine ⟨h1, h2, h3, ?_, h6⟩
    have := risC_len h6 (by omega)
    split
    · omega
    · split
      · omega
      · omega
set_option maxRecDepth 100000 in
set_option maxHeartbeats 8000000 in
theorem ref15Is (x : Acct) (A : Option Addr) (c : Nat) (w : World) (hl : x.clients.length ≤ 1099511627776) (hr : Rd w A 1 (x.clients.map encI)) :
    Calls Try.prog 50 #[.agg #[.int .i64 x.id, .int .i64 x.member, .int .i64 x.kind, .slice A x.clients.length c]] w fun e w' => e = .returned (.bool (decide (okAAc x))) ∧ Below w.heap.size w w' := by
  have HR := Lib.hid hr
  clear hr
  by_cases t0 : x.id < 1
  · have d0 := decide_eq_true t0
    have HNO := Lib.hid (decide_eq_false (show ¬ okAAc x from fun hk => by rw [okA_ref] at hk; omega))
    go_enter Try.func50, Try.ntmps50
    go_wp2_with (fail)
    go_ret
    exact ⟨by rw [HNO.out]; first | done | rfl, by (repeat' (first | (with_reducible exact Below.refl _ _) | (with_reducible assumption) | (with_reducible refine Below.alloc ?_ ?_ _) | (with_reducible refine Below.setCell ?_ ?_ _) | (with_reducible refine Below.drew ?_) | (with_reducible refine below_drewN ?_ _) | (with_reducible refine below_via ?_ (by with_reducible assumption) ?_) | omega | (simp; done) | (simp; omega)))⟩
  have d0 := decide_eq_false t0
  by_cases t1 : 16 < x.id
  · have d1 := decide_eq_true t1
    have HNO := Lib.hid (decide_eq_false (show ¬ okAAc x from fun hk => by rw [okA_ref] at hk; omega))
    go_enter Try.func50, Try.ntmps50
    go_wp2_with (fail)
    go_ret
    exact ⟨by rw [HNO.out]; first | done | rfl, by (repeat' (first | (with_reducible exact Below.refl _ _) | (with_reducible assumption) | (with_reducible refine Below.alloc ?_ ?_ _) | (with_reducible refine Below.setCell ?_ ?_ _) | (with_reducible refine Below.drew ?_) | (with_reducible refine below_drewN ?_ _) | (with_reducible refine below_via ?_ (by with_reducible assumption) ?_) | omega | (simp; done) | (simp; omega)))⟩
  have d1 := decide_eq_false t1
  by_cases t2 : x.member < 1
  · have d2 := decide_eq_true t2
    have HNO := Lib.hid (decide_eq_false (show ¬ okAAc x from fun hk => by rw [okA_ref] at hk; omega))
    go_enter Try.func50, Try.ntmps50
    go_wp2_with (fail)
    go_ret
    exact ⟨by rw [HNO.out]; first | done | rfl, by (repeat' (first | (with_reducible exact Below.refl _ _) | (with_reducible assumption) | (with_reducible refine Below.alloc ?_ ?_ _) | (with_reducible refine Below.setCell ?_ ?_ _) | (with_reducible refine Below.drew ?_) | (with_reducible refine below_drewN ?_ _) | (with_reducible refine below_via ?_ (by with_reducible assumption) ?_) | omega | (simp; done) | (simp; omega)))⟩
  have d2 := decide_eq_false t2
  by_cases t3 : 8 < x.member
  · have d3 := decide_eq_true t3
    have HNO := Lib.hid (decide_eq_false (show ¬ okAAc x from fun hk => by rw [okA_ref] at hk; omega))
    go_enter Try.func50, Try.ntmps50
    go_wp2_with (fail)
    go_ret
    exact ⟨by rw [HNO.out]; first | done | rfl, by (repeat' (first | (with_reducible exact Below.refl _ _) | (with_reducible assumption) | (with_reducible refine Below.alloc ?_ ?_ _) | (with_reducible refine Below.setCell ?_ ?_ _) | (with_reducible refine Below.drew ?_) | (with_reducible refine below_drewN ?_ _) | (with_reducible refine below_via ?_ (by with_reducible assumption) ?_) | omega | (simp; done) | (simp; omega)))⟩
  have d3 := decide_eq_false t3
  by_cases t4 : x.kind < 1
  · have d4 := decide_eq_true t4
    have HNO := Lib.hid (decide_eq_false (show ¬ okAAc x from fun hk => by rw [okA_ref] at hk; omega))
    go_enter Try.func50, Try.ntmps50
    go_wp2_with (fail)
    go_ret
    exact ⟨by rw [HNO.out]; first | done | rfl, by (repeat' (first | (with_reducible exact Below.refl _ _) | (with_reducible assumption) | (with_reducible refine Below.alloc ?_ ?_ _) | (with_reducible refine Below.setCell ?_ ?_ _) | (with_reducible refine Below.drew ?_) | (with_reducible refine below_drewN ?_ _) | (with_reducible refine below_via ?_ (by with_reducible assumption) ?_) | omega | (simp; done) | (simp; omega)))⟩
  have d4 := decide_eq_false t4
  by_cases t5 : 4 < x.kind
  · have d5 := decide_eq_true t5
    have HNO := Lib.hid (decide_eq_false (show ¬ okAAc x from fun hk => by rw [okA_ref] at hk; omega))
    go_enter Try.func50, Try.ntmps50
    go_wp2_with (fail)
    go_ret
    exact ⟨by rw [HNO.out]; first | done | rfl, by (repeat' (first | (with_reducible exact Below.refl _ _) | (with_reducible assumption) | (with_reducible refine Below.alloc ?_ ?_ _) | (with_reducible refine Below.setCell ?_ ?_ _) | (with_reducible refine Below.drew ?_) | (with_reducible refine below_drewN ?_ _) | (with_reducible refine below_via ?_ (by with_reducible assumption) ?_) | omega | (simp; done) | (simp; omega)))⟩
  have d5 := decide_eq_false t5
  by_cases t6 : x.kind = 1 ∧ 0 < x.clients.length
  · have b6 : (x.kind == 1) = true := by simpa using t6.1
    have d6 : decide (0 < (x.clients.length : Int)) = true := by simp; omega
    have HNO := Lib.hid (decide_eq_false (show ¬ okAAc x from fun hk => by rw [okA_ref] at hk; omega))
    go_enter Try.func50, Try.ntmps50
    go_wp2_with (fail)
    go_ret
    exact ⟨by rw [HNO.out]; first | done | rfl, by (repeat' (first | (with_reducible exact Below.refl _ _) | (with_reducible assumption) | (with_reducible refine Below.alloc ?_ ?_ _) | (with_reducible refine Below.setCell ?_ ?_ _) | (with_reducible refine Below.drew ?_) | (with_reducible refine below_drewN ?_ _) | (with_reducible refine below_via ?_ (by with_reducible assumption) ?_) | omega | (simp; done) | (simp; omega)))⟩
  by_cases t7 : x.kind = 4 ∧ 1 < x.clients.length
  · have b6 : (x.kind == 1) = false := by simp; omega
    have b7 : (x.kind == 4) = true := by simpa using t7.1
    have d7 : decide (1 < (x.clients.length : Int)) = true := by simp; omega
    have HNO := Lib.hid (decide_eq_false (show ¬ okAAc x from fun hk => by rw [okA_ref] at hk; omega))
    go_enter Try.func50, Try.ntmps50
    go_wp2_with (fail)
    go_ret
    exact ⟨by rw [HNO.out]; first | done | rfl, by (repeat' (first | (with_reducible exact Below.refl _ _) | (with_reducible assumption) | (with_reducible refine Below.alloc ?_ ?_ _) | (with_reducible refine Below.setCell ?_ ?_ _) | (with_reducible refine Below.drew ?_) | (with_reducible refine below_drewN ?_ _) | (with_reducible refine below_via ?_ (by with_reducible assumption) ?_) | omega | (simp; done) | (simp; omega)))⟩
  have HC := Lib.hid (show decide (okAAc x) = risC 0 x.clients from by
    cases h : risC 0 x.clients
    · exact decide_eq_false (fun hk => by rw [okA_ref, h] at hk; cases hk.2.2.2.2.2)
    · exact decide_eq_true (okA_ref.2 ⟨by omega, by omega, by omega, t6, t7, h⟩))
  obtain ⟨b6, d6⟩ : ((x.kind == 1) = false ∨ ((x.kind == 1) = true ∧ decide (0 < (x.clients.length : Int)) = false)) ∧ ((x.kind == 4) = false ∨ ((x.kind == 4) = true ∧ decide (1 < (x.clients.length : Int)) = false)) := by
    constructor
    · by_cases h : x.kind = 1
      · exact .inr ⟨by simpa using h, decide_eq_false (by omega)⟩
      · exact .inl (by simpa using h)
    · by_cases h : x.kind = 4
      · exact .inr ⟨by simpa using h, decide_eq_false (by omega)⟩
      · exact .inl (by simpa using h)
  clear t6 t7
  rcases b6 with b6 | ⟨b6, e6⟩
  · rcases d6 with d6 | ⟨d6, e7⟩
    · go_enter Try.func50, Try.ntmps50
      go_wp2_with (fail)
      go_loopw [3] (fun i wr => ∃ (k : Nat) (q : Int), k ≤ x.clients.length ∧ i = .int .i64 k ∧ risC 0 x.clients = risC q (x.clients.drop k) ∧ Below w.heap.size w wr ∧ wr.cell? ⟨w.heap.size, 3, none⟩ = some (.slice A x.clients.length c) ∧ (k = 0 ∧ q = 0 ∨ 0 < k ∧ q = x.clients.getD (k - 1) 0 ∧ 1 ≤ q)) (fun i _ => x.clients.length - (intOf i).toNat)
      case atStart => exact ⟨0, 0, Nat.zero_le _, rfl, rfl, by (repeat' (first | (with_reducible exact Below.refl _ _) | (with_reducible assumption) | (with_reducible refine Below.alloc ?_ ?_ _) | (with_reducible refine Below.setCell ?_ ?_ _) | (with_reducible refine Below.drew ?_) | (with_reducible refine below_drewN ?_ _) | (with_reducible refine below_via ?_ (by with_reducible assumption) ?_) | omega | (simp; done) | (simp; omega))), by simp [go_sem], .inl ⟨rfl, rfl⟩⟩
      case round =>
        obtain ⟨k, q, hk, rfl, hv, hbl, hcell, hx⟩ := hrel
        have HV := Lib.hid hv
        have Hbl := Lib.hid hbl
        have hz := hbl.size
        clear hv hbl
        by_cases hlt : k < x.clients.length
        · have kl : (k : Int) < (x.clients.length : Int) := by omega
          have dl : decide ((k : Int) < (x.clients.length : Int)) = true := by simpa using hlt
          obtain ⟨b, o, rfl, hb, hc⟩ := HR.out k (encI x.clients[k]) (by simp [hlt])
          have e0 := (Hbl.out.cell (p := ⟨b, o + k * 1 + 0, none⟩) hb).trans (hc 0 _ rfl)
          simp only [Nat.add_zero, Nat.mul_one] at e0
          clear hc
          have HD := Lib.hid (drop_cons' hlt)
          rcases hx with ⟨k0, hx⟩ | ⟨k0, hx, x1⟩
          · have g0 : decide (0 < k) = false := by simp; omega
            have x0 : 0 ≤ q ∧ q ≤ 0 := by omega
            clear k0 hx
            by_cases t0 : x.clients[k] < 1
            · have d0 := decide_eq_true t0
              have HN := Lib.hid (show risC 0 x.clients = false from by rw [HV.out, HD.out]; exact risC_no (by omega))
              have wk : IntKind.i64.wrap ((k : Int) - 1) = (k : Int) - 1 := IntWalk.i64_in _ (by omega)
              have tk : ((k : Int) - 1).toNat = k - 1 := by omega
              go_wp2_with fail
              go_quiet (fail)
              clear wk tk
              go_wp2_with fail
              go_ret
              exact ⟨by rw [HC.out, HN.out]; rfl, by have hbl := Hbl.out; (repeat' (first | (with_reducible exact Below.refl _ _) | (with_reducible assumption) | (with_reducible refine Below.alloc ?_ ?_ _) | (with_reducible refine Below.setCell ?_ ?_ _) | (with_reducible refine Below.drew ?_) | (with_reducible refine below_drewN ?_ _) | (with_reducible refine below_via ?_ (by with_reducible assumption) ?_) | omega | (simp; done) | (simp; omega)))⟩
            have d0 := decide_eq_false t0
            by_cases t1 : 16 < x.clients[k]
            · have d1 := decide_eq_true t1
              have HN := Lib.hid (show risC 0 x.clients = false from by rw [HV.out, HD.out]; exact risC_no (by omega))
              have wk : IntKind.i64.wrap ((k : Int) - 1) = (k : Int) - 1 := IntWalk.i64_in _ (by omega)
              have tk : ((k : Int) - 1).toNat = k - 1 := by omega
              go_wp2_with fail
              go_quiet (fail)
              clear wk tk
              go_wp2_with fail
              go_ret
              exact ⟨by rw [HC.out, HN.out]; rfl, by have hbl := Hbl.out; (repeat' (first | (with_reducible exact Below.refl _ _) | (with_reducible assumption) | (with_reducible refine Below.alloc ?_ ?_ _) | (with_reducible refine Below.setCell ?_ ?_ _) | (with_reducible refine Below.drew ?_) | (with_reducible refine below_drewN ?_ _) | (with_reducible refine below_via ?_ (by with_reducible assumption) ?_) | omega | (simp; done) | (simp; omega)))⟩
            have d1 := decide_eq_false t1
            have HN := Lib.hid (show risC 0 x.clients = risC x.clients[k] (x.clients.drop (k + 1)) from by rw [HV.out, HD.out]; exact risC_step (by omega) (by omega))
            have c1 : 1 ≤ x.clients[k] := by omega
            have wk : IntKind.i64.wrap ((k : Int) - 1) = (k : Int) - 1 := IntWalk.i64_in _ (by omega)
            have tk : ((k : Int) - 1).toNat = k - 1 := by omega
            go_wp2_with fail
            go_quiet (fail)
            clear wk tk
            go_wp2_with fail
            go_roundw
            case rel => exact ⟨k + 1, x.clients[k], by omega, by go_num, HN.out, by have hbl := Hbl.out; (repeat' (first | (with_reducible exact Below.refl _ _) | (with_reducible assumption) | (with_reducible refine Below.alloc ?_ ?_ _) | (with_reducible refine Below.setCell ?_ ?_ _) | (with_reducible refine Below.drew ?_) | (with_reducible refine below_drewN ?_ _) | (with_reducible refine below_via ?_ (by with_reducible assumption) ?_) | omega | (simp; done) | (simp; omega))), by simpa [go_sem] using hcell, .inr ⟨by omega, by rw [Nat.add_sub_cancel, getD_at hlt], by omega⟩⟩
            case measure => simp [intOf]; omega
          · have g0 : decide (0 < k) = true := by simpa using k0
            have g1 : (0 : Int) ≤ (k : Int) - 1 := by omega
            have hk1 : k - 1 < x.clients.length := by omega
            rw [getD_at hk1] at hx
            obtain ⟨b1, o1, q1, hb1, hq1⟩ := HR.out (k - 1) (encI x.clients[k - 1]) (by simp [hk1])
            injection q1 with q1
            injection q1 with q1 q2 _
            subst q1 q2
            have f0 := (Hbl.out.cell (p := ⟨b, o + (k - 1) * 1 + 0, none⟩) hb).trans (hq1 0 _ rfl)
            simp only [Nat.add_zero, Nat.mul_one] at f0
            rw [← hx] at f0
            have X0 := Lib.hid hx
            clear hq1 hx
            by_cases t0 : x.clients[k] < 1
            · have d0 := decide_eq_true t0
              have HN := Lib.hid (show risC 0 x.clients = false from by rw [HV.out, HD.out]; exact risC_no (by omega))
              have wk : IntKind.i64.wrap ((k : Int) - 1) = (k : Int) - 1 := IntWalk.i64_in _ (by omega)
              have tk : ((k : Int) - 1).toNat = k - 1 := by omega
              go_wp2_with fail
              go_quiet (fail)
              clear wk tk
              go_wp2_with fail
              go_ret
              exact ⟨by rw [HC.out, HN.out]; rfl, by have hbl := Hbl.out; (repeat' (first | (with_reducible exact Below.refl _ _) | (with_reducible assumption) | (with_reducible refine Below.alloc ?_ ?_ _) | (with_reducible refine Below.setCell ?_ ?_ _) | (with_reducible refine Below.drew ?_) | (with_reducible refine below_drewN ?_ _) | (with_reducible refine below_via ?_ (by with_reducible assumption) ?_) | omega | (simp; done) | (simp; omega)))⟩
            have d0 := decide_eq_false t0
            by_cases t1 : 16 < x.clients[k]
            · have d1 := decide_eq_true t1
              have HN := Lib.hid (show risC 0 x.clients = false from by rw [HV.out, HD.out]; exact risC_no (by omega))
              have wk : IntKind.i64.wrap ((k : Int) - 1) = (k : Int) - 1 := IntWalk.i64_in _ (by omega)
              have tk : ((k : Int) - 1).toNat = k - 1 := by omega
              go_wp2_with fail
              go_quiet (fail)
              clear wk tk
              go_wp2_with fail
              go_ret
              exact ⟨by rw [HC.out, HN.out]; rfl, by have hbl := Hbl.out; (repeat' (first | (with_reducible exact Below.refl _ _) | (with_reducible assumption) | (with_reducible refine Below.alloc ?_ ?_ _) | (with_reducible refine Below.setCell ?_ ?_ _) | (with_reducible refine Below.drew ?_) | (with_reducible refine below_drewN ?_ _) | (with_reducible refine below_via ?_ (by with_reducible assumption) ?_) | omega | (simp; done) | (simp; omega)))⟩
            have d1 := decide_eq_false t1
            by_cases t2 : x.clients[k] ≤ q
            · have d2 := decide_eq_true t2
              have HN := Lib.hid (show risC 0 x.clients = false from by rw [HV.out, HD.out]; exact risC_no (by omega))
              have wk : IntKind.i64.wrap ((k : Int) - 1) = (k : Int) - 1 := IntWalk.i64_in _ (by omega)
              have tk : ((k : Int) - 1).toNat = k - 1 := by omega
              go_wp2_with fail
              go_quiet (fail)
              clear wk tk
              go_wp2_with fail
              go_ret
              exact ⟨by rw [HC.out, HN.out]; rfl, by have hbl := Hbl.out; (repeat' (first | (with_reducible exact Below.refl _ _) | (with_reducible assumption) | (with_reducible refine Below.alloc ?_ ?_ _) | (with_reducible refine Below.setCell ?_ ?_ _) | (with_reducible refine Below.drew ?_) | (with_reducible refine below_drewN ?_ _) | (with_reducible refine below_via ?_ (by with_reducible assumption) ?_) | omega | (simp; done) | (simp; omega)))⟩
            have d2 := decide_eq_false t2
            have HN := Lib.hid (show risC 0 x.clients = risC x.clients[k] (x.clients.drop (k + 1)) from by rw [HV.out, HD.out]; exact risC_step (by omega) (by omega))
            have c1 : 1 ≤ x.clients[k] := by omega
            have wk : IntKind.i64.wrap ((k : Int) - 1) = (k : Int) - 1 := IntWalk.i64_in _ (by omega)
            have tk : ((k : Int) - 1).toNat = k - 1 := by omega
            go_wp2_with fail
            go_quiet (fail)
            clear wk tk
            go_wp2_with fail
            go_roundw
            case rel => exact ⟨k + 1, x.clients[k], by omega, by go_num, HN.out, by have hbl := Hbl.out; (repeat' (first | (with_reducible exact Below.refl _ _) | (with_reducible assumption) | (with_reducible refine Below.alloc ?_ ?_ _) | (with_reducible refine Below.setCell ?_ ?_ _) | (with_reducible refine Below.drew ?_) | (with_reducible refine below_drewN ?_ _) | (with_reducible refine below_via ?_ (by with_reducible assumption) ?_) | omega | (simp; done) | (simp; omega))), by simpa [go_sem] using hcell, .inr ⟨by omega, by rw [Nat.add_sub_cancel, getD_at hlt], by omega⟩⟩
            case measure => simp [intOf]; omega
        · have dl : decide ((k : Int) < (x.clients.length : Int)) = false := by simpa using hlt
          have HD := Lib.hid (drop_all (l := x.clients) (k := k) (by omega))
          go_wp2_with fail
          go_ret
          exact ⟨by rw [HC.out, HV.out, HD.out]; rfl, Hbl.out⟩
    · go_enter Try.func50, Try.ntmps50
      go_wp2_with (fail)
      go_loopw [3] (fun i wr => ∃ (k : Nat) (q : Int), k ≤ x.clients.length ∧ i = .int .i64 k ∧ risC 0 x.clients = risC q (x.clients.drop k) ∧ Below w.heap.size w wr ∧ wr.cell? ⟨w.heap.size, 3, none⟩ = some (.slice A x.clients.length c) ∧ (k = 0 ∧ q = 0 ∨ 0 < k ∧ q = x.clients.getD (k - 1) 0 ∧ 1 ≤ q)) (fun i _ => x.clients.length - (intOf i).toNat)
      case atStart => exact ⟨0, 0, Nat.zero_le _, rfl, rfl, by (repeat' (first | (with_reducible exact Below.refl _ _) | (with_reducible assumption) | (with_reducible refine Below.alloc ?_ ?_ _) | (with_reducible refine Below.setCell ?_ ?_ _) | (with_reducible refine Below.drew ?_) | (with_reducible refine below_drewN ?_ _) | (with_reducible refine below_via ?_ (by with_reducible assumption) ?_) | omega | (simp; done) | (simp; omega))), by simp [go_sem], .inl ⟨rfl, rfl⟩⟩
      case round =>
        obtain ⟨k, q, hk, rfl, hv, hbl, hcell, hx⟩ := hrel
        have HV := Lib.hid hv
        have Hbl := Lib.hid hbl
        have hz := hbl.size
        clear hv hbl
        by_cases hlt : k < x.clients.length
        · have kl : (k : Int) < (x.clients.length : Int) := by omega
          have dl : decide ((k : Int) < (x.clients.length : Int)) = true := by simpa using hlt
          obtain ⟨b, o, rfl, hb, hc⟩ := HR.out k (encI x.clients[k]) (by simp [hlt])
          have e0 := (Hbl.out.cell (p := ⟨b, o + k * 1 + 0, none⟩) hb).trans (hc 0 _ rfl)
          simp only [Nat.add_zero, Nat.mul_one] at e0
          clear hc
          have HD := Lib.hid (drop_cons' hlt)
          rcases hx with ⟨k0, hx⟩ | ⟨k0, hx, x1⟩
          · have g0 : decide (0 < k) = false := by simp; omega
            have x0 : 0 ≤ q ∧ q ≤ 0 := by omega
            clear k0 hx
            by_cases t0 : x.clients[k] < 1
            · have d0 := decide_eq_true t0
              have HN := Lib.hid (show risC 0 x.clients = false from by rw [HV.out, HD.out]; exact risC_no (by omega))
              have wk : IntKind.i64.wrap ((k : Int) - 1) = (k : Int) - 1 := IntWalk.i64_in _ (by omega)
              have tk : ((k : Int) - 1).toNat = k - 1 := by omega
              go_wp2_with fail
              go_quiet (fail)
              clear wk tk
              go_wp2_with fail
              go_ret
              exact ⟨by rw [HC.out, HN.out]; rfl, by have hbl := Hbl.out; (repeat' (first | (with_reducible exact Below.refl _ _) | (with_reducible assumption) | (with_reducible refine Below.alloc ?_ ?_ _) | (with_reducible refine Below.setCell ?_ ?_ _) | (with_reducible refine Below.drew ?_) | (with_reducible refine below_drewN ?_ _) | (with_reducible refine below_via ?_ (by with_reducible assumption) ?_) | omega | (simp; done) | (simp; omega)))⟩
            have d0 := decide_eq_false t0
            by_cases t1 : 16 < x.clients[k]
            · have d1 := decide_eq_true t1
              have HN := Lib.hid (show risC 0 x.clients = false from by rw [HV.out, HD.out]; exact risC_no (by omega))
              have wk : IntKind.i64.wrap ((k : Int) - 1) = (k : Int) - 1 := IntWalk.i64_in _ (by omega)
              have tk : ((k : Int) - 1).toNat = k - 1 := by omega
              go_wp2_with fail
              go_quiet (fail)
              clear wk tk
              go_wp2_with fail
              go_ret
              exact ⟨by rw [HC.out, HN.out]; rfl, by have hbl := Hbl.out; (repeat' (first | (with_reducible exact Below.refl _ _) | (with_reducible assumption) | (with_reducible refine Below.alloc ?_ ?_ _) | (with_reducible refine Below.setCell ?_ ?_ _) | (with_reducible refine Below.drew ?_) | (with_reducible refine below_drewN ?_ _) | (with_reducible refine below_via ?_ (by with_reducible assumption) ?_) | omega | (simp; done) | (simp; omega)))⟩
            have d1 := decide_eq_false t1
            have HN := Lib.hid (show risC 0 x.clients = risC x.clients[k] (x.clients.drop (k + 1)) from by rw [HV.out, HD.out]; exact risC_step (by omega) (by omega))
            have c1 : 1 ≤ x.clients[k] := by omega
            have wk : IntKind.i64.wrap ((k : Int) - 1) = (k : Int) - 1 := IntWalk.i64_in _ (by omega)
            have tk : ((k : Int) - 1).toNat = k - 1 := by omega
            go_wp2_with fail
            go_quiet (fail)
            clear wk tk
            go_wp2_with fail
            go_roundw
            case rel => exact ⟨k + 1, x.clients[k], by omega, by go_num, HN.out, by have hbl := Hbl.out; (repeat' (first | (with_reducible exact Below.refl _ _) | (with_reducible assumption) | (with_reducible refine Below.alloc ?_ ?_ _) | (with_reducible refine Below.setCell ?_ ?_ _) | (with_reducible refine Below.drew ?_) | (with_reducible refine below_drewN ?_ _) | (with_reducible refine below_via ?_ (by with_reducible assumption) ?_) | omega | (simp; done) | (simp; omega))), by simpa [go_sem] using hcell, .inr ⟨by omega, by rw [Nat.add_sub_cancel, getD_at hlt], by omega⟩⟩
            case measure => simp [intOf]; omega
          · have g0 : decide (0 < k) = true := by simpa using k0
            have g1 : (0 : Int) ≤ (k : Int) - 1 := by omega
            have hk1 : k - 1 < x.clients.length := by omega
            rw [getD_at hk1] at hx
            obtain ⟨b1, o1, q1, hb1, hq1⟩ := HR.out (k - 1) (encI x.clients[k - 1]) (by simp [hk1])
            injection q1 with q1
            injection q1 with q1 q2 _
            subst q1 q2
            have f0 := (Hbl.out.cell (p := ⟨b, o + (k - 1) * 1 + 0, none⟩) hb).trans (hq1 0 _ rfl)
            simp only [Nat.add_zero, Nat.mul_one] at f0
            rw [← hx] at f0
            have X0 := Lib.hid hx
            clear hq1 hx
            by_cases t0 : x.clients[k] < 1
            · have d0 := decide_eq_true t0
              have HN := Lib.hid (show risC 0 x.clients = false from by rw [HV.out, HD.out]; exact risC_no (by omega))
              have wk : IntKind.i64.wrap ((k : Int) - 1) = (k : Int) - 1 := IntWalk.i64_in _ (by omega)
              have tk : ((k : Int) - 1).toNat = k - 1 := by omega
              go_wp2_with fail
              go_quiet (fail)
              clear wk tk
              go_wp2_with fail
              go_ret
              exact ⟨by rw [HC.out, HN.out]; rfl, by have hbl := Hbl.out; (repeat' (first | (with_reducible exact Below.refl _ _) | (with_reducible assumption) | (with_reducible refine Below.alloc ?_ ?_ _) | (with_reducible refine Below.setCell ?_ ?_ _) | (with_reducible refine Below.drew ?_) | (with_reducible refine below_drewN ?_ _) | (with_reducible refine below_via ?_ (by with_reducible assumption) ?_) | omega | (simp; done) | (simp; omega)))⟩
            have d0 := decide_eq_false t0
            by_cases t1 : 16 < x.clients[k]
            · have d1 := decide_eq_true t1
              have HN := Lib.hid (show risC 0 x.clients = false from by rw [HV.out, HD.out]; exact risC_no (by omega))
              have wk : IntKind.i64.wrap ((k : Int) - 1) = (k : Int) - 1 := IntWalk.i64_in _ (by omega)
              have tk : ((k : Int) - 1).toNat = k - 1 := by omega
              go_wp2_with fail
              go_quiet (fail)
              clear wk tk
              go_wp2_with fail
              go_ret
              exact ⟨by rw [HC.out, HN.out]; rfl, by have hbl := Hbl.out; (repeat' (first | (with_reducible exact Below.refl _ _) | (with_reducible assumption) | (with_reducible refine Below.alloc ?_ ?_ _) | (with_reducible refine Below.setCell ?_ ?_ _) | (with_reducible refine Below.drew ?_) | (with_reducible refine below_drewN ?_ _) | (with_reducible refine below_via ?_ (by with_reducible assumption) ?_) | omega | (simp; done) | (simp; omega)))⟩
            have d1 := decide_eq_false t1
            by_cases t2 : x.clients[k] ≤ q
            · have d2 := decide_eq_true t2
              have HN := Lib.hid (show risC 0 x.clients = false from by rw [HV.out, HD.out]; exact risC_no (by omega))
              have wk : IntKind.i64.wrap ((k : Int) - 1) = (k : Int) - 1 := IntWalk.i64_in _ (by omega)
              have tk : ((k : Int) - 1).toNat = k - 1 := by omega
              go_wp2_with fail
              go_quiet (fail)
              clear wk tk
              go_wp2_with fail
              go_ret
              exact ⟨by rw [HC.out, HN.out]; rfl, by have hbl := Hbl.out; (repeat' (first | (with_reducible exact Below.refl _ _) | (with_reducible assumption) | (with_reducible refine Below.alloc ?_ ?_ _) | (with_reducible refine Below.setCell ?_ ?_ _) | (with_reducible refine Below.drew ?_) | (with_reducible refine below_drewN ?_ _) | (with_reducible refine below_via ?_ (by with_reducible assumption) ?_) | omega | (simp; done) | (simp; omega)))⟩
            have d2 := decide_eq_false t2
            have HN := Lib.hid (show risC 0 x.clients = risC x.clients[k] (x.clients.drop (k + 1)) from by rw [HV.out, HD.out]; exact risC_step (by omega) (by omega))
            have c1 : 1 ≤ x.clients[k] := by omega
            have wk : IntKind.i64.wrap ((k : Int) - 1) = (k : Int) - 1 := IntWalk.i64_in _ (by omega)
            have tk : ((k : Int) - 1).toNat = k - 1 := by omega
            go_wp2_with fail
            go_quiet (fail)
            clear wk tk
            go_wp2_with fail
            go_roundw
            case rel => exact ⟨k + 1, x.clients[k], by omega, by go_num, HN.out, by have hbl := Hbl.out; (repeat' (first | (with_reducible exact Below.refl _ _) | (with_reducible assumption) | (with_reducible refine Below.alloc ?_ ?_ _) | (with_reducible refine Below.setCell ?_ ?_ _) | (with_reducible refine Below.drew ?_) | (with_reducible refine below_drewN ?_ _) | (with_reducible refine below_via ?_ (by with_reducible assumption) ?_) | omega | (simp; done) | (simp; omega))), by simpa [go_sem] using hcell, .inr ⟨by omega, by rw [Nat.add_sub_cancel, getD_at hlt], by omega⟩⟩
            case measure => simp [intOf]; omega
        · have dl : decide ((k : Int) < (x.clients.length : Int)) = false := by simpa using hlt
          have HD := Lib.hid (drop_all (l := x.clients) (k := k) (by omega))
          go_wp2_with fail
          go_ret
          exact ⟨by rw [HC.out, HV.out, HD.out]; rfl, Hbl.out⟩
  · have d7 : (x.kind == 4) = false := by
      have h : x.kind = 1 := by simpa using b6
      rw [h]; rfl
    have h0 : x.clients.length = 0 := by have := of_decide_eq_false e6; omega
    have HL := Lib.hid (List.eq_nil_of_length_eq_zero h0)
    clear d6 e6
    rw [h0]
    go_enter Try.func50, Try.ntmps50
    go_wp2_with (fail)
    refine wp_loop_rounds 1 ?_
    rw [rounds_succ]
    go_wp2_with fail
    go_ret
    exact ⟨by rw [HC.out, HL.out]; rfl, by (repeat' (first | (with_reducible exact Below.refl _ _) | (with_reducible assumption) | (with_reducible refine Below.alloc ?_ ?_ _) | (with_reducible refine Below.setCell ?_ ?_ _) | (with_reducible refine Below.drew ?_) | (with_reducible refine below_drewN ?_ _) | (with_reducible refine below_via ?_ (by with_reducible assumption) ?_) | omega | (simp; done) | (simp; omega)))⟩
set_option maxRecDepth 100000 in
set_option maxHeartbeats 8000000 in
theorem ref15Units (x : Acct) (A : Option Addr) (c : Nat) (w : World) (hl : x.clients.length ≤ 1048576) (hr : Rd w A 1 (x.clients.map encI)) :
    Calls Try.prog 52 #[.agg #[.int .i64 x.id, .int .i64 x.member, .int .i64 x.kind, .slice A x.clients.length c]] w fun e w' => ∃ v, e = .returned v ∧ IsSl 2 encUn w' v (unitsA x) ∧ Below w.heap.size w w' := by
  have HR := Lib.hid hr
  clear hr
  by_cases hk1 : x.kind = 1
  · have b1 : (x.kind == 1) = true := by simpa using hk1
    have HU := Lib.hid (show unitsA x = [⟨x.id, 0⟩] from if_pos hk1)
    clear hk1
    go_enter Try.func52, Try.ntmps52
    go_wp2_with (first | (at_builtin; refine wpList_app rfl _ _ _ rfl elUn (w.heap.size + 1) _ _ rfl ((Own.nil _ _ _ _).alloc _) (some ⟨_, 0, none⟩) 1 1 rfl [encUn ⟨x.id, 0⟩] rfl (fun h => by cases h) (rd_oneN (by simp)) (rowsUn [⟨x.id, 0⟩]) (by unfold maxLen; first | (simp; done) | omega | (simp; omega)) (by first | (simp; done) | omega | (simp; omega)) (by first | omega | (simp; done) | (simp; omega)) ?_; intro v3 w3 hown3 hb3) | fail)
    go_ret
    refine ⟨_, rfl, ?_, by (repeat' (first | (with_reducible exact Below.refl _ _) | (with_reducible assumption) | (with_reducible refine Below.alloc ?_ ?_ _) | (with_reducible refine Below.setCell ?_ ?_ _) | (with_reducible refine Below.drew ?_) | (with_reducible refine below_drewN ?_ _) | (with_reducible refine below_via ?_ (by with_reducible assumption) ?_) | omega | (simp; done) | (simp; omega)))⟩
    rw [HU.out]
    exact hown3.isSl
  · have b1 : (x.kind == 1) = false := by simpa using hk1
    have HU := Lib.hid (show unitsA x = x.clients.map (fun c => ⟨x.id, c⟩) from if_neg hk1)
    clear hk1
    go_enter Try.func52, Try.ntmps52
    go_wp2_with (fail)
    go_loopw [3, 4] (fun v i wr => ∃ k : Nat, k ≤ x.clients.length ∧ i = .int .i64 k ∧ Own wr (w.heap.size + 1) 60 2 v (((x.clients.take k).map (fun c => (⟨x.id, c⟩ : Un))).map encUn) ∧ Below w.heap.size w wr ∧ w.heap.size < wr.heap.size ∧ (wr.cell? ⟨w.heap.size, 0, none⟩ = some (.int .i64 x.id) ∧ wr.cell? ⟨w.heap.size, 3, none⟩ = some (.slice A x.clients.length c))) (fun _ i _ => x.clients.length - (intOf i).toNat)
    case atStart => exact ⟨0, Nat.zero_le _, rfl, Own.nil _ _ _ _, by (repeat' (first | (with_reducible exact Below.refl _ _) | (with_reducible assumption) | (with_reducible refine Below.alloc ?_ ?_ _) | (with_reducible refine Below.setCell ?_ ?_ _) | (with_reducible refine Below.drew ?_) | (with_reducible refine below_drewN ?_ _) | (with_reducible refine below_via ?_ (by with_reducible assumption) ?_) | omega | (simp; done) | (simp; omega))), by simp, by simp [go_sem]⟩
    case round =>
      obtain ⟨k, hk, rfl, hown, hbl, hsz, h0, h3⟩ := hrel
      have Hown := Lib.hid hown
      have Hbl := Lib.hid hbl
      have hz := hbl.size
      clear hown hbl
      by_cases hlt : k < x.clients.length
      · have kl : (k : Int) < (x.clients.length : Int) := by omega
        have dl : decide ((k : Int) < (x.clients.length : Int)) = true := by simpa using hlt
        obtain ⟨b, o, rfl, hb, hc⟩ := HR.out k (encI x.clients[k]) (by simp [hlt])
        have e0 := (Hbl.out.cell (p := ⟨b, o + k * 1 + 0, none⟩) hb).trans (hc 0 _ rfl)
        simp only [Nat.add_zero, Nat.mul_one] at e0
        have HS := Lib.hid (map_snoc hlt (fun c => (⟨x.id, c⟩ : Un)))
        clear hc
        go_wp2_with fail
        go_region_held3 (fun w' => (w'.cell? ⟨w.heap.size, 0, none⟩ = some (.int .i64 x.id) ∧ w'.cell? ⟨w.heap.size, 3, none⟩ = some (.slice (some ⟨b, o, none⟩) x.clients.length c)) ∧ w'.cell? ⟨b, o + k, none⟩ = some (.int .i64 x.clients[k])) (first | (simp [go_sem]; done) | (repeat' (first | (with_reducible assumption) | (with_reducible refine And.intro ?_ ?_) | (with_reducible refine cell_drew ?_) | (with_reducible refine cell_via (by with_reducible assumption) ?_ ?_) | (simp [*]; done) | (simp [go_sem]; done) | (with_reducible refine cell_alloc ?_ ?_) | (with_reducible refine cell_set_far ?_ ?_) | omega | (simp; omega)))) (first | (refine step_app rfl _ _ _ rfl elUn (w.heap.size + 1) _ _ rfl (by first | exact Hown.out.drew.alloc _ | exact (Hown.out.alloc _).drew | exact Hown.out.alloc _) _ 1 1 rfl [encUn ⟨x.id, x.clients[k]⟩] rfl (fun h => by cases h) (by first | exact rd_one | exact rd_one.drew) (rowsUn [⟨x.id, x.clients[k]⟩]) (by unfold maxLen; simp; omega) (by simp; omega) (by first | omega | (simp; done) | (simp; omega)) ?_; intro v3 w3 hown3 hb3) | fail)
        go_wp2_with fail
        go_roundw
        case rel => exact ⟨k + 1, by omega, by go_num, by rw [HS.out, List.map_append]; exact hown3, by have hbl := Hbl.out; (repeat' (first | (with_reducible exact Below.refl _ _) | (with_reducible assumption) | (with_reducible refine Below.alloc ?_ ?_ _) | (with_reducible refine Below.setCell ?_ ?_ _) | (with_reducible refine Below.drew ?_) | (with_reducible refine below_drewN ?_ _) | (with_reducible refine below_via ?_ (by with_reducible assumption) ?_) | omega | (simp; done) | (simp; omega))), by have := hb3.size; simp at this; omega, by rw [hb3.cell (p := ⟨w.heap.size, 0, none⟩) (by simp)]; simp [go_sem, h0, hsz], by rw [hb3.cell (p := ⟨w.heap.size, 3, none⟩) (by simp)]; simp [go_sem, h3, hsz]⟩
        case measure => simp [intOf]; omega
      · have dl : decide ((k : Int) < (x.clients.length : Int)) = false := by simpa using hlt
        have HT := Lib.hid (show x.clients.take k = x.clients from List.take_of_length_le (by omega))
        go_wp2_with (fail)
        go_ret
        refine ⟨_, rfl, ?_, Hbl.out⟩
        rw [HU.out]
        have := Hown.out
        rw [HT.out] at this
        exact this.isSl
end Go.Proofs.Ytiidplinmempcaa

/- Layer 25's laws: NeedParts' walk. -/
namespace Go.Proofs.Ytiidplinmempcaa
open Go.RowKit
theorem ref15IsN (x : AcctV) (w : World) (hl : x.clients.val.length ≤ 1099511627776) (hg : GoodA w x) :
    Calls Try.prog 50 #[.agg #[.int .i64 x.id, .int .i64 x.member, .int .i64 x.kind, .slice x.clients.A x.clients.val.length x.clients.c]] w fun e w' => e = .returned (.bool (decide (okAAc (lgA x)))) ∧ Below w.heap.size w w' :=
  ref15Is (lgA x) x.clients.A x.clients.c w hl hg.rd
theorem ref15UnitsN (x : AcctV) (w : World) (hl : x.clients.val.length ≤ 1048576) (hg : GoodA w x) :
    Calls Try.prog 52 #[.agg #[.int .i64 x.id, .int .i64 x.member, .int .i64 x.kind, .slice x.clients.A x.clients.val.length x.clients.c]] w fun e w' => ∃ A c, e = .returned (.slice A (unitsA (lgA x)).length c) ∧ Rs w' 2 ((unitsA (lgA x)).map encUn) A c ∧ Below w.heap.size w w' :=
  (ref15Units (lgA x) x.clients.A x.clients.c w hl hg.rd).mono fun e w' ⟨v, h1, ⟨A, c, h2, h3⟩, h4⟩ => ⟨A, c, by rw [h1, h2], h3, h4⟩
set_option maxRecDepth 100000 in
set_option maxHeartbeats 64000000 in
theorem needPartsW (x0 : AcctV) (w : World) (hg : GoodA w x0) :
    Calls Try.prog 9 #[.agg #[.int .i64 x0.id, .int .i64 x0.member, .int .i64 x0.kind, .slice x0.clients.A x0.clients.val.length x0.clients.c]] w fun e w' => e = .returned (.bool true) ∧ Below w.heap.size w w' := by
  have c0 := fun W (h : Below w.heap.size w W) => law25Short x0 W (hg.keep h)
  have hgs := good_shortN hg
  generalize shortN x0 = x at *
  have hxl := hgs.2
  have HX := Lib.hid hgs.1
  have C0 := Lib.hid c0
  have hul := unitsN_len (lgA x)
  have hua := units_len (lgA x)
  have hcl : (lgA x).clients.length = x.clients.val.length := rfl
  rw [hcl] at hul hua
  clear c0 hgs hg hcl
  by_cases hok : okAAc (lgA x)
  rotate_left
  · have HOK := Lib.hid (decide_eq_false hok)
    clear hok
    go_enter Try.func9, Try.ntmps9
    go_wp2_with (first | (go_at_call 49; (with_reducible refine (C0.out _ (by (repeat' (first | (with_reducible exact Below.refl _ _) | (with_reducible assumption) | (with_reducible refine Below.alloc ?_ ?_ _) | (with_reducible refine Below.setCell ?_ ?_ _) | (with_reducible refine Below.drew ?_) | (with_reducible refine below_drewN ?_ _) | (with_reducible refine below_via ?_ (by with_reducible assumption) ?_) | omega | (simp; done) | (simp; omega))))).mono ?_); rintro e w1 ⟨rfl, hb1⟩; obtain ⟨fc1, fg1, hc1, hf1, hz1⟩ := bget hb1; (try simp at hz1)) | (go_at_call 50; (with_reducible refine (ref15IsN x _ (by omega) (HX.out.keep (by (repeat' (first | (with_reducible exact Below.refl _ _) | (with_reducible assumption) | (with_reducible refine Below.alloc ?_ ?_ _) | (with_reducible refine Below.setCell ?_ ?_ _) | (with_reducible refine Below.drew ?_) | (with_reducible refine below_drewN ?_ _) | (with_reducible refine below_via ?_ (by with_reducible assumption) ?_) | omega | (simp; done) | (simp; omega)))))).mono ?_); rw [HOK.out]; rintro e w2 ⟨rfl, hb2⟩; obtain ⟨fc2, fg2, hc2, hf2, hz2⟩ := bget hb2; (try simp at hz2)) | (go_at_call 51; (with_reducible refine (law25lives _).mono ?_); rintro e w9 ⟨rfl, hb9⟩; obtain ⟨fc9, fg9, hc9, hf9, hz9⟩ := bget hb9; (try simp at hz9)) | fail)
    go_ret
    exact ⟨rfl, by (repeat' (first | (with_reducible exact Below.refl _ _) | (with_reducible assumption) | (with_reducible refine Below.alloc ?_ ?_ _) | (with_reducible refine Below.setCell ?_ ?_ _) | (with_reducible refine Below.drew ?_) | (with_reducible refine below_drewN ?_ _) | (with_reducible refine below_via ?_ (by with_reducible assumption) ?_) | omega | (simp; done) | (simp; omega)))⟩
  have HOK := Lib.hid (decide_eq_true hok)
  have HPO := Lib.hid (fun u m (h1 : u ∈ unitsA (lgA x)) (h2 : m ∈ unitsN (lgA x)) => @part_of (lgA x) u m h1 h2)
  have HIO := Lib.hid (fun u (h : u ∈ unitsA (lgA x)) => in_once hok h)
  have HHA := Lib.hid (fun u (h : u ∈ unitsA (lgA x)) => (show hasA (lgA x) u = true from decide_eq_true h))
  have HUL := Lib.hid (fun u => partsN_len (lgA x) u)
  have C3 := Lib.hid (fun W h => ref15UnitsN x W (by omega) h)
  have C4 := Lib.hid (fun W h => needUnits x W (by omega) h)
  clear hok
  generalize unitsA (lgA x) = us at *
  generalize unitsN (lgA x) = ms at *
  go_enter Try.func9, Try.ntmps9
  go_wp2_with (first | (go_at_call 49; (with_reducible refine (C0.out _ (by (repeat' (first | (with_reducible exact Below.refl _ _) | (with_reducible assumption) | (with_reducible refine Below.alloc ?_ ?_ _) | (with_reducible refine Below.setCell ?_ ?_ _) | (with_reducible refine Below.drew ?_) | (with_reducible refine below_drewN ?_ _) | (with_reducible refine below_via ?_ (by with_reducible assumption) ?_) | omega | (simp; done) | (simp; omega))))).mono ?_); rintro e w1 ⟨rfl, hb1⟩; obtain ⟨fc1, fg1, hc1, hf1, hz1⟩ := bget hb1; (try simp at hz1)) | (go_at_call 50; (with_reducible refine (ref15IsN x _ (by omega) (HX.out.keep (by (repeat' (first | (with_reducible exact Below.refl _ _) | (with_reducible assumption) | (with_reducible refine Below.alloc ?_ ?_ _) | (with_reducible refine Below.setCell ?_ ?_ _) | (with_reducible refine Below.drew ?_) | (with_reducible refine below_drewN ?_ _) | (with_reducible refine below_via ?_ (by with_reducible assumption) ?_) | omega | (simp; done) | (simp; omega)))))).mono ?_); rw [HOK.out]; rintro e w2 ⟨rfl, hb2⟩; obtain ⟨fc2, fg2, hc2, hf2, hz2⟩ := bget hb2; (try simp at hz2)) | (go_at_call 52; (with_reducible refine (C3.out _ (HX.out.keep (by (repeat' (first | (with_reducible exact Below.refl _ _) | (with_reducible assumption) | (with_reducible refine Below.alloc ?_ ?_ _) | (with_reducible refine Below.setCell ?_ ?_ _) | (with_reducible refine Below.drew ?_) | (with_reducible refine below_drewN ?_ _) | (with_reducible refine below_via ?_ (by with_reducible assumption) ?_) | omega | (simp; done) | (simp; omega)))))).mono ?_); rintro e w3 ⟨A3, c3, rfl, hrs3, hb3⟩; have HS3 := Lib.hid hrs3.rd; clear hrs3; obtain ⟨fc3, fg3, hc3, hf3, hz3⟩ := bget hb3; (try simp at hz3)) | (go_at_call 53; (with_reducible refine (C4.out _ (HX.out.keep (by (repeat' (first | (with_reducible exact Below.refl _ _) | (with_reducible assumption) | (with_reducible refine Below.alloc ?_ ?_ _) | (with_reducible refine Below.setCell ?_ ?_ _) | (with_reducible refine Below.drew ?_) | (with_reducible refine below_drewN ?_ _) | (with_reducible refine below_via ?_ (by with_reducible assumption) ?_) | omega | (simp; done) | (simp; omega)))))).mono ?_); rintro e w4 ⟨A4, c4, rfl, hrs4, hb4⟩; have HS4 := Lib.hid hrs4.rd; clear hrs4; obtain ⟨fc4, fg4, hc4, hf4, hz4⟩ := bget hb4; (try simp at hz4)) | fail)
  have b0 : w4.cell? ⟨w.heap.size, 0, none⟩ = some (.int .i64 x.id) := by simp [hc4, hc3, hc2, hc1, go_sem, ↓IntWalk.iteOmega]
  have b1 : w4.cell? ⟨w.heap.size, 1, none⟩ = some (.int .i64 x.member) := by simp [hc4, hc3, hc2, hc1, go_sem, ↓IntWalk.iteOmega]
  have b2 : w4.cell? ⟨w.heap.size, 2, none⟩ = some (.int .i64 x.kind) := by simp [hc4, hc3, hc2, hc1, go_sem, ↓IntWalk.iteOmega]
  have b3 : w4.cell? ⟨w.heap.size, 3, none⟩ = some (.slice x.clients.A x.clients.val.length x.clients.c) := by simp [hc4, hc3, hc2, hc1, go_sem, ↓IntWalk.iteOmega]
  have HB := Lib.hid (And.intro b0 (And.intro b1 (And.intro b2 b3)))
  have Hw4 := Lib.hid (show Below w.heap.size w w4 by (repeat' (first | (with_reducible exact Below.refl _ _) | (with_reducible assumption) | (with_reducible refine Below.alloc ?_ ?_ _) | (with_reducible refine Below.setCell ?_ ?_ _) | (with_reducible refine Below.drew ?_) | (with_reducible refine below_drewN ?_ _) | (with_reducible refine below_via ?_ (by with_reducible assumption) ?_) | omega | (simp; done) | (simp; omega))))
  have HU := Lib.hid (HS3.out.keep hb4)
  have hw4 : w.heap.size < w4.heap.size := by omega
  generalize w4 = wo at *
  clear b0 b1 b2 b3 hc1 hf1 hb1 hc2 hf2 hb2 hc3 hf3 hb3 hc4 hf4 hb4
  go_loopw [5] (fun i wr => ∃ k : Nat, k ≤ us.length ∧ i = .int .i64 k ∧ Below wo.heap.size wo wr) (fun i _ => us.length - (intOf i).toNat)
  case atStart => exact ⟨0, Nat.zero_le _, rfl, Below.refl _ _⟩
  case round =>
    obtain ⟨i, hi, rfl, hbl⟩ := hrel
    have Hbl1 := Lib.hid hbl
    have hz := hbl.size
    clear hbl
    by_cases hlt : i < us.length
    · have kl : (i : Int) < (us.length : Int) := by omega
      have dl : decide ((i : Int) < (us.length : Int)) = true := by simpa using hlt
      obtain ⟨b, o, rfl, hb, hc⟩ := HU.out i (encUn us[i]) (by simp [hlt])
      have HEU := Lib.hid (And.intro (hc 0 _ rfl) (hc 1 _ rfl))
      have e0 := (Hbl1.out.cell (p := ⟨b, o + i * 2 + 0, none⟩) hb).trans (hc 0 _ rfl)
      have e1 := (Hbl1.out.cell (p := ⟨b, o + i * 2 + 1, none⟩) hb).trans (hc 1 _ rfl)
      simp only [Nat.add_zero] at e0
      clear hc
      have hbw : b < wr.heap.size := by omega
      have HM := Lib.hid (List.getElem_mem hlt)
      have HPOu := Lib.hid (fun m => HPO.out us[i] m HM.out)
      have HIOu := Lib.hid (HIO.out us[i] HM.out)
      have hha := HHA.out us[i] HM.out
      have hun := fun W (h : GoodA W x) => needUnit x us[i] W (by omega) h
      rw [hha] at hun
      generalize us[i] = u at *
      have HUN := Lib.hid hun
      clear hun hha
      have b0 := (Hbl1.out.cell (p := ⟨w.heap.size, 0, none⟩) (by simp; omega)).trans HB.out.1
      have b1 := (Hbl1.out.cell (p := ⟨w.heap.size, 1, none⟩) (by simp; omega)).trans HB.out.2.1
      have b2 := (Hbl1.out.cell (p := ⟨w.heap.size, 2, none⟩) (by simp; omega)).trans HB.out.2.2.1
      have b3 := (Hbl1.out.cell (p := ⟨w.heap.size, 3, none⟩) (by simp; omega)).trans HB.out.2.2.2
      go_upto_region 10 with fail
      go_cut [7, 8] from 28 to 36 (fun p ok wx => ∃ g, p = .pointer (some ⟨g, 0, none⟩) ∧ ok = .bool true ∧ (wr.heap.size ≤ g ∧ g < wx.heap.size) ∧ (wx.cell? ⟨g, 0, none⟩ = some (.int .i64 (unitN (lgA x) u).acc) ∧ wx.cell? ⟨g, 1, none⟩ = some (.int .i64 (unitN (lgA x) u).cli)) ∧ Below wr.heap.size wr wx)
      case first =>
        go_region_held3 (fun w' => ((w'.cell? ⟨w.heap.size, 0, none⟩ = some (.int .i64 x.id) ∧ w'.cell? ⟨w.heap.size, 1, none⟩ = some (.int .i64 x.member) ∧ w'.cell? ⟨w.heap.size, 2, none⟩ = some (.int .i64 x.kind) ∧ w'.cell? ⟨w.heap.size, 3, none⟩ = some (.slice x.clients.A x.clients.val.length x.clients.c))) ∧ w'.cell? ⟨b, o + i * 2, none⟩ = some (.int .i64 u.acc) ∧ w'.cell? ⟨b, o + i * 2 + 1, none⟩ = some (.int .i64 u.cli)) (first | (simp [go_sem]; done) | (repeat' (first | (with_reducible assumption) | (with_reducible refine And.intro ?_ ?_) | (with_reducible refine cell_drew ?_) | (with_reducible refine cell_via (by with_reducible assumption) ?_ ?_) | (simp [*]; done) | (simp [go_sem]; done) | (with_reducible refine cell_alloc ?_ ?_) | (with_reducible refine cell_set_far ?_ ?_) | omega | (simp; omega)))) (first | (go_at_call 54; (with_reducible refine (HUN.out _ (HX.out.keep (by have hw4 := Hw4.out; have hbl := Hbl1.out; (repeat' (first | (with_reducible exact Below.refl _ _) | (with_reducible assumption) | (with_reducible refine Below.alloc ?_ ?_ _) | (with_reducible refine Below.setCell ?_ ?_ _) | (with_reducible refine Below.drew ?_) | (with_reducible refine below_drewN ?_ _) | (with_reducible refine below_via ?_ (by with_reducible assumption) ?_) | omega | (simp; done) | (simp; omega)))))).mono ?_); rintro e w6 ⟨rfl, hb6⟩; obtain ⟨fc6, fg6, hc6, hf6, hz6⟩ := bget hb6; (try simp at hz6)) | fail)
        all_goals
          go_wp2_with fail
          go_meet
          refine ⟨_, rfl, rfl, ⟨(by first | omega | (simp; done) | (simp; omega)), (by first | omega | (simp; done) | (simp; omega))⟩, ⟨?_, ?_⟩, by (repeat' (first | (with_reducible exact Below.refl _ _) | (with_reducible assumption) | (with_reducible refine Below.alloc ?_ ?_ _) | (with_reducible refine Below.setCell ?_ ?_ _) | (with_reducible refine Below.drew ?_) | (with_reducible refine below_drewN ?_ _) | (with_reducible refine below_via ?_ (by with_reducible assumption) ?_) | omega | (simp; done) | (simp; omega)))⟩
          all_goals (first | (simp [go_sem]; done) | (simp [go_sem, *]; done))
      case rest =>
        obtain ⟨g7, rfl, rfl, ⟨hg7, hg7w⟩, ⟨m0, m1⟩, hbc⟩ := hcut
        have Hbc := Lib.hid (Hbl1.out.trans (hbc.mono hz))
        have HG7 := Lib.hid (And.intro m0 m1)
        have hzc := hbc.size
        clear b0 b1 b2 b3 e0 e1 m0 m1 hbc hbw HUN
        go_wp2_with fail
        go_loopw [6, 8, 9] (fun n ok k w2 => ∃ m : Nat, m ≤ ms.length ∧ k = .int .i64 m ∧ n = .int .i64 (inAll (lgA x) u (ms.take m) : Nat) ∧ ok = .bool true ∧ Below wc.heap.size wc w2) (fun _ _ k _ => ms.length - (intOf k).toNat)
        case atStart => exact ⟨0, Nat.zero_le _, rfl, rfl, rfl, Below.refl _ _⟩
        case round =>
          obtain ⟨m, hm, rfl, rfl, rfl, hbl2⟩ := hrel
          have HBC := Lib.hid hbl2
          have Hbl2 := Lib.hid (Hbc.out.trans (hbl2.mono (by omega)))
          have hz2 := hbl2.size
          clear hbl2
          by_cases hlt2 : m < ms.length
          · have kl2 : (m : Int) < (ms.length : Int) := by omega
            have dl2 : decide ((m : Int) < (ms.length : Int)) = true := by simpa using hlt2
            obtain ⟨b5, o5, rfl, hb5, hc5⟩ := HS4.out m (encUn ms[m]) (by simp [hlt2])
            have HMU := Lib.hid (And.intro (hc5 0 _ rfl) (hc5 1 _ rfl))
            have f0 := (Hbl2.out.cell (p := ⟨b5, o5 + m * 2 + 0, none⟩) hb5).trans (hc5 0 _ rfl)
            have f1 := (Hbl2.out.cell (p := ⟨b5, o5 + m * 2 + 1, none⟩) hb5).trans (hc5 1 _ rfl)
            simp only [Nat.add_zero] at f0
            clear hc5
            have hbw5 : b5 < wr.heap.size := by omega
            have b0 := (Hbl2.out.cell (p := ⟨w.heap.size, 0, none⟩) (by simp; omega)).trans HB.out.1
            have b1 := (Hbl2.out.cell (p := ⟨w.heap.size, 1, none⟩) (by simp; omega)).trans HB.out.2.1
            have b2 := (Hbl2.out.cell (p := ⟨w.heap.size, 2, none⟩) (by simp; omega)).trans HB.out.2.2.1
            have b3 := (Hbl2.out.cell (p := ⟨w.heap.size, 3, none⟩) (by simp; omega)).trans HB.out.2.2.2
            have hmm := HPOu.out ms[m] (List.getElem_mem hlt2)
            have hsn := inAll_snoc (x := lgA x) (u := u) hlt2
            have hpl := HUL.out ms[m]
            have hN := inAll_le (lgA x) u ms m
            rw [HIOu.out] at hN
            have cp := fun W (h : GoodA W x) => needParts x ms[m] W (by omega) h
            rw [show (lgA x).clients.length = x.clients.val.length from rfl] at hpl
            generalize ms[m] = M at *
            generalize partsN (lgA x) M = P at *
            generalize inAll (lgA x) u (ms.take m) = N at *
            have HSN := Lib.hid hsn
            have HMM := Lib.hid hmm
            have CP := Lib.hid cp
            clear cp hsn hmm
            go_wp2_with fail
            go_region_held3 (fun w' => ((w'.cell? ⟨w.heap.size, 0, none⟩ = some (.int .i64 x.id) ∧ w'.cell? ⟨w.heap.size, 1, none⟩ = some (.int .i64 x.member) ∧ w'.cell? ⟨w.heap.size, 2, none⟩ = some (.int .i64 x.kind) ∧ w'.cell? ⟨w.heap.size, 3, none⟩ = some (.slice x.clients.A x.clients.val.length x.clients.c))) ∧ w'.cell? ⟨b5, o5 + m * 2, none⟩ = some (.int .i64 M.acc) ∧ w'.cell? ⟨b5, o5 + m * 2 + 1, none⟩ = some (.int .i64 M.cli)) (first | (simp [go_sem]; done) | (repeat' (first | (with_reducible assumption) | (with_reducible refine And.intro ?_ ?_) | (with_reducible refine cell_drew ?_) | (with_reducible refine cell_via (by with_reducible assumption) ?_ ?_) | (simp [*]; done) | (simp [go_sem]; done) | (with_reducible refine cell_alloc ?_ ?_) | (with_reducible refine cell_set_far ?_ ?_) | omega | (simp; omega)))) (first | (go_at_call 55; (with_reducible refine (CP.out _ (HX.out.keep (by have hw4 := Hw4.out; have hbl := Hbl2.out; (repeat' (first | (with_reducible exact Below.refl _ _) | (with_reducible assumption) | (with_reducible refine Below.alloc ?_ ?_ _) | (with_reducible refine Below.setCell ?_ ?_ _) | (with_reducible refine Below.drew ?_) | (with_reducible refine below_drewN ?_ _) | (with_reducible refine below_via ?_ (by with_reducible assumption) ?_) | omega | (simp; done) | (simp; omega)))))).mono ?_); rintro e w6 ⟨A6, c6, rfl, hrs6, hb6⟩; have HS6 := Lib.hid hrs6.rd; clear hrs6; obtain ⟨fc6, fg6, hc6, hf6, hz6⟩ := bget hb6; (try simp at hz6)) | fail)
            have Hb6 := Lib.hid (show Below wr.heap.size wr w6 by (repeat' (first | (with_reducible exact Below.refl _ _) | (with_reducible assumption) | (with_reducible refine Below.alloc ?_ ?_ _) | (with_reducible refine Below.setCell ?_ ?_ _) | (with_reducible refine Below.drew ?_) | (with_reducible refine below_drewN ?_ _) | (with_reducible refine below_via ?_ (by with_reducible assumption) ?_) | omega | (simp; done) | (simp; omega))))
            clear b0 b1 b2 b3 f0 f1 hc6 hf6 hb6 hbw5 CP
            go_wp2_with fail
            go_loopw [6, 8, 11] (fun n ok j w7 => ∃ q : Nat, q ≤ P.length ∧ j = .int .i64 q ∧ n = .int .i64 ((N + cntU (P.take q) u : Nat) : Int) ∧ ok = .bool true ∧ Below w6.heap.size w6 w7) (fun _ _ j _ => P.length - (intOf j).toNat)
            case atStart => exact ⟨0, Nat.zero_le _, rfl, rfl, rfl, by (repeat' (first | (with_reducible exact Below.refl _ _) | (with_reducible assumption) | (with_reducible refine Below.alloc ?_ ?_ _) | (with_reducible refine Below.setCell ?_ ?_ _) | (with_reducible refine Below.drew ?_) | (with_reducible refine below_drewN ?_ _) | (with_reducible refine below_via ?_ (by with_reducible assumption) ?_) | omega | (simp; done) | (simp; omega)))⟩
            case round =>
              obtain ⟨q, hq, rfl, rfl, rfl, hbl7⟩ := hrel
              have HB7 := Lib.hid hbl7
              have hz7 := hbl7.size
              have H27 := Lib.hid (Hb6.out.trans (hbl7.mono (by have := Hb6.out.size; omega)))
              have hz6 := Hb6.out.size
              clear hbl7
              have HW7 := Lib.hid (Hbl2.out.trans (H27.out.mono (by omega)))
              by_cases hlt7 : q < P.length
              · have kl7 : (q : Int) < (P.length : Int) := by omega
                have dl7 : decide ((q : Int) < (P.length : Int)) = true := by simpa using hlt7
                obtain ⟨b8, o8, rfl, hb8, hc8⟩ := HS6.out q (encUn P[q]) (by simp [hlt7])
                have g0 := (HB7.out.cell (p := ⟨b8, o8 + q * 2 + 0, none⟩) hb8).trans (hc8 0 _ rfl)
                have g1 := (HB7.out.cell (p := ⟨b8, o8 + q * 2 + 1, none⟩) hb8).trans (hc8 1 _ rfl)
                simp only [Nat.add_zero] at g0
                clear hc8
                have hbw8 : b8 < wr.heap.size := by omega
                have e0 := (HW7.out.cell (p := ⟨b, o + i * 2 + 0, none⟩) hb).trans HEU.out.1
                have e1 := (HW7.out.cell (p := ⟨b, o + i * 2 + 1, none⟩) hb).trans HEU.out.2
                simp only [Nat.add_zero] at e0
                have hbw : b < wr.heap.size := by omega
                have hcs := cntU_snoc hlt7 u
                have hcl := cntU_le (P.take q) u
                have hcl2 : (P.take q).length ≤ q := by rw [List.length_take]; omega
                generalize cntU (P.take q) u = C at *
                rcases un_test (x := P[q]) (u := u) with h | h
                · have HCS := Lib.hid (show cntU (P.take (q + 1)) u = C + 1 from by rw [hcs, if_pos h])
                  have hM := HMM.out (h ▸ List.getElem_mem hlt7)
                  rw [hM] at HMU
                  rw [h] at g0 g1
                  have f0 := (HW7.out.cell (p := ⟨b5, o5 + m * 2 + 0, none⟩) hb5).trans HMU.out.1
                  have f1 := (HW7.out.cell (p := ⟨b5, o5 + m * 2 + 1, none⟩) hb5).trans HMU.out.2
                  simp only [Nat.add_zero] at f0
                  have hbw5 : b5 < wr.heap.size := by omega
                  have p0 := ((HBC.out.trans (H27.out.mono hz2)).cell (p := ⟨g7, 0, none⟩) hg7w).trans HG7.out.1
                  have p1 := ((HBC.out.trans (H27.out.mono hz2)).cell (p := ⟨g7, 1, none⟩) hg7w).trans HG7.out.2
                  have hgw7 : g7 < wr.heap.size := by omega
                  clear hcs hM h
                  go_wp2_with fail
                  go_quiet (fail)
                  go_wp2_with fail
                  go_quiet (fail)
                  go_wp2_with fail
                  go_roundw
                  case rel => exact ⟨q + 1, by omega, by go_num, by rw [HCS.out]; go_num, rfl, by have hb7 := HB7.out; (repeat' (first | (with_reducible exact Below.refl _ _) | (with_reducible assumption) | (with_reducible refine Below.alloc ?_ ?_ _) | (with_reducible refine Below.setCell ?_ ?_ _) | (with_reducible refine Below.drew ?_) | (with_reducible refine below_drewN ?_ _) | (with_reducible refine below_via ?_ (by with_reducible assumption) ?_) | omega | (simp; done) | (simp; omega)))⟩
                  case measure => simp [intOf]; omega
                · have HCS := Lib.hid (show cntU (P.take (q + 1)) u = C from by rw [hcs, if_neg (fun e => by rw [e] at h; simp at h)]; rfl)
                  clear hcs
                  rcases h with h | h
                  all_goals
                    go_wp2_with fail
                    go_quiet (fail)
                    go_wp2_with fail
                    go_roundw
                    case rel => exact ⟨q + 1, by omega, by go_num, by rw [HCS.out], rfl, by have hb7 := HB7.out; (repeat' (first | (with_reducible exact Below.refl _ _) | (with_reducible assumption) | (with_reducible refine Below.alloc ?_ ?_ _) | (with_reducible refine Below.setCell ?_ ?_ _) | (with_reducible refine Below.drew ?_) | (with_reducible refine below_drewN ?_ _) | (with_reducible refine below_via ?_ (by with_reducible assumption) ?_) | omega | (simp; done) | (simp; omega)))⟩
                    case measure => simp [intOf]; omega
              · have dl7 : decide ((q : Int) < (P.length : Int)) = false := by simpa using hlt7
                have HT := Lib.hid (List.take_of_length_le (show P.length ≤ q by omega))
                go_wp2_with fail
                go_roundw
                case rel => exact ⟨m + 1, by omega, by go_num, by rw [HSN.out, HT.out], rfl, by have h1 := HBC.out; have h2 := H27.out; (repeat' (first | (with_reducible exact Below.refl _ _) | (with_reducible assumption) | (with_reducible refine Below.alloc ?_ ?_ _) | (with_reducible refine Below.setCell ?_ ?_ _) | (with_reducible refine Below.drew ?_) | (with_reducible refine below_drewN ?_ _) | (with_reducible refine below_via ?_ (by with_reducible assumption) ?_) | omega | (simp; done) | (simp; omega)))⟩
                case measure => simp [intOf]; omega
          · have dl2 : decide ((m : Int) < (ms.length : Int)) = false := by simpa using hlt2
            have HT := Lib.hid (show inAll (lgA x) u (ms.take m) = 1 from by rw [List.take_of_length_le (show ms.length ≤ m by omega)]; exact HIOu.out)
            rw [HT.out]
            go_wp2_with fail
            go_roundw
            case rel => exact ⟨i + 1, by omega, by go_num, by have h1 := Hbl2.out; (repeat' (first | (with_reducible exact Below.refl _ _) | (with_reducible assumption) | (with_reducible refine Below.alloc ?_ ?_ _) | (with_reducible refine Below.setCell ?_ ?_ _) | (with_reducible refine Below.drew ?_) | (with_reducible refine below_drewN ?_ _) | (with_reducible refine below_via ?_ (by with_reducible assumption) ?_) | omega | (simp; done) | (simp; omega)))⟩
            case measure => simp [intOf]; omega
    · have dl : decide ((i : Int) < (us.length : Int)) = false := by simpa using hlt
      go_wp2_with (first | (go_at_call 51; (with_reducible refine (law25lives _).mono ?_); rintro e w9 ⟨rfl, hb9⟩; obtain ⟨fc9, fg9, hc9, hf9, hz9⟩ := bget hb9; (try simp at hz9)) | fail)
      go_ret
      exact ⟨rfl, by have hw4 := Hw4.out; have hbl := Hbl1.out; (repeat' (first | (with_reducible exact Below.refl _ _) | (with_reducible assumption) | (with_reducible refine Below.alloc ?_ ?_ _) | (with_reducible refine Below.setCell ?_ ?_ _) | (with_reducible refine Below.drew ?_) | (with_reducible refine below_drewN ?_ _) | (with_reducible refine below_via ?_ (by with_reducible assumption) ?_) | omega | (simp; done) | (simp; omega)))⟩
end Go.Proofs.Ytiidplinmempcaa
