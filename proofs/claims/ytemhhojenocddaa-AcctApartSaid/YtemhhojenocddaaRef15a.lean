/- Accounts: contracts of the reference's Is, Units, Has. -/
import Derived.Test.YtemhhojenocddaaAcct2
namespace Go.Proofs.Ytemhhojenocddaa
open Go.RowKit
theorem okA_ref {x : Acct} : okA x ↔ (1 ≤ x.id ∧ x.id ≤ 16) ∧ (1 ≤ x.member ∧ x.member ≤ 8) ∧ (1 ≤ x.kind ∧ x.kind ≤ 4) ∧ ¬ (x.kind = 1 ∧ 0 < x.clients.length) ∧ ¬ (x.kind = 4 ∧ 1 < x.clients.length) ∧ risC 0 x.clients = true := by
  unfold okA mostA
  constructor
  · rintro ⟨h1, h2, h3, h4, h5⟩
    refine ⟨h1, h2, h3, fun h => ?_, fun h => ?_, h5⟩
    · rw [if_pos h.1] at h4; omega
    · rw [if_neg (by omega), if_pos h.1] at h4; omega
  · rintro ⟨h1, h2, h3, h4, h5, h6⟩
    refine ⟨h1, h2, h3, ?_, h6⟩
    have := risC_len h6 (by omega)
    split
    · omega
    · split
      · omega
      · omega
set_option maxRecDepth 100000 in
set_option maxHeartbeats 8000000 in
theorem ref15Is (x : Acct) (A : Option Addr) (c : Nat) (w : World) (hl : x.clients.length ≤ 1099511627776) (hr : Rd w A 1 (x.clients.map encI)) :
    Calls Try.prog 12 #[.agg #[.int .i64 x.id, .int .i64 x.member, .int .i64 x.kind, .slice A x.clients.length c]] w fun e w' => e = .returned (.bool (decide (okA x))) ∧ Below w.heap.size w w' := by
  have HR := Lib.hid hr
  clear hr
  by_cases t0 : x.id < 1
  · have d0 := decide_eq_true t0
    have HNO := Lib.hid (decide_eq_false (show ¬ okA x from fun hk => by rw [okA_ref] at hk; omega))
    go_enter Try.func12, Try.ntmps12
    go_wp2_with (fail)
    go_ret
    exact ⟨by rw [HNO.out]; first | done | rfl, by (repeat' (first | (with_reducible exact Below.refl _ _) | (with_reducible assumption) | (with_reducible refine Below.alloc ?_ ?_ _) | (with_reducible refine Below.setCell ?_ ?_ _) | (with_reducible refine Below.drew ?_) | (with_reducible refine below_drewN ?_ _) | (with_reducible refine below_via ?_ (by with_reducible assumption) ?_) | omega | (simp; done) | (simp; omega)))⟩
  have d0 := decide_eq_false t0
  by_cases t1 : 16 < x.id
  · have d1 := decide_eq_true t1
    have HNO := Lib.hid (decide_eq_false (show ¬ okA x from fun hk => by rw [okA_ref] at hk; omega))
    go_enter Try.func12, Try.ntmps12
    go_wp2_with (fail)
    go_ret
    exact ⟨by rw [HNO.out]; first | done | rfl, by (repeat' (first | (with_reducible exact Below.refl _ _) | (with_reducible assumption) | (with_reducible refine Below.alloc ?_ ?_ _) | (with_reducible refine Below.setCell ?_ ?_ _) | (with_reducible refine Below.drew ?_) | (with_reducible refine below_drewN ?_ _) | (with_reducible refine below_via ?_ (by with_reducible assumption) ?_) | omega | (simp; done) | (simp; omega)))⟩
  have d1 := decide_eq_false t1
  by_cases t2 : x.member < 1
  · have d2 := decide_eq_true t2
    have HNO := Lib.hid (decide_eq_false (show ¬ okA x from fun hk => by rw [okA_ref] at hk; omega))
    go_enter Try.func12, Try.ntmps12
    go_wp2_with (fail)
    go_ret
    exact ⟨by rw [HNO.out]; first | done | rfl, by (repeat' (first | (with_reducible exact Below.refl _ _) | (with_reducible assumption) | (with_reducible refine Below.alloc ?_ ?_ _) | (with_reducible refine Below.setCell ?_ ?_ _) | (with_reducible refine Below.drew ?_) | (with_reducible refine below_drewN ?_ _) | (with_reducible refine below_via ?_ (by with_reducible assumption) ?_) | omega | (simp; done) | (simp; omega)))⟩
  have d2 := decide_eq_false t2
  by_cases t3 : 8 < x.member
  · have d3 := decide_eq_true t3
    have HNO := Lib.hid (decide_eq_false (show ¬ okA x from fun hk => by rw [okA_ref] at hk; omega))
    go_enter Try.func12, Try.ntmps12
    go_wp2_with (fail)
    go_ret
    exact ⟨by rw [HNO.out]; first | done | rfl, by (repeat' (first | (with_reducible exact Below.refl _ _) | (with_reducible assumption) | (with_reducible refine Below.alloc ?_ ?_ _) | (with_reducible refine Below.setCell ?_ ?_ _) | (with_reducible refine Below.drew ?_) | (with_reducible refine below_drewN ?_ _) | (with_reducible refine below_via ?_ (by with_reducible assumption) ?_) | omega | (simp; done) | (simp; omega)))⟩
  have d3 := decide_eq_false t3
  by_cases t4 : x.kind < 1
  · have d4 := decide_eq_true t4
    have HNO := Lib.hid (decide_eq_false (show ¬ okA x from fun hk => by rw [okA_ref] at hk; omega))
    go_enter Try.func12, Try.ntmps12
    go_wp2_with (fail)
    go_ret
    exact ⟨by rw [HNO.out]; first | done | rfl, by (repeat' (first | (with_reducible exact Below.refl _ _) | (with_reducible assumption) | (with_reducible refine Below.alloc ?_ ?_ _) | (with_reducible refine Below.setCell ?_ ?_ _) | (with_reducible refine Below.drew ?_) | (with_reducible refine below_drewN ?_ _) | (with_reducible refine below_via ?_ (by with_reducible assumption) ?_) | omega | (simp; done) | (simp; omega)))⟩
  have d4 := decide_eq_false t4
  by_cases t5 : 4 < x.kind
  · have d5 := decide_eq_true t5
    have HNO := Lib.hid (decide_eq_false (show ¬ okA x from fun hk => by rw [okA_ref] at hk; omega))
    go_enter Try.func12, Try.ntmps12
    go_wp2_with (fail)
    go_ret
    exact ⟨by rw [HNO.out]; first | done | rfl, by (repeat' (first | (with_reducible exact Below.refl _ _) | (with_reducible assumption) | (with_reducible refine Below.alloc ?_ ?_ _) | (with_reducible refine Below.setCell ?_ ?_ _) | (with_reducible refine Below.drew ?_) | (with_reducible refine below_drewN ?_ _) | (with_reducible refine below_via ?_ (by with_reducible assumption) ?_) | omega | (simp; done) | (simp; omega)))⟩
  have d5 := decide_eq_false t5
  by_cases t6 : x.kind = 1 ∧ 0 < x.clients.length
  · have b6 : (x.kind == 1) = true := by simpa using t6.1
    have d6 : decide (0 < (x.clients.length : Int)) = true := by simp; omega
    have HNO := Lib.hid (decide_eq_false (show ¬ okA x from fun hk => by rw [okA_ref] at hk; omega))
    go_enter Try.func12, Try.ntmps12
    go_wp2_with (fail)
    go_ret
    exact ⟨by rw [HNO.out]; first | done | rfl, by (repeat' (first | (with_reducible exact Below.refl _ _) | (with_reducible assumption) | (with_reducible refine Below.alloc ?_ ?_ _) | (with_reducible refine Below.setCell ?_ ?_ _) | (with_reducible refine Below.drew ?_) | (with_reducible refine below_drewN ?_ _) | (with_reducible refine below_via ?_ (by with_reducible assumption) ?_) | omega | (simp; done) | (simp; omega)))⟩
  by_cases t7 : x.kind = 4 ∧ 1 < x.clients.length
  · have b6 : (x.kind == 1) = false := by simp; omega
    have b7 : (x.kind == 4) = true := by simpa using t7.1
    have d7 : decide (1 < (x.clients.length : Int)) = true := by simp; omega
    have HNO := Lib.hid (decide_eq_false (show ¬ okA x from fun hk => by rw [okA_ref] at hk; omega))
    go_enter Try.func12, Try.ntmps12
    go_wp2_with (fail)
    go_ret
    exact ⟨by rw [HNO.out]; first | done | rfl, by (repeat' (first | (with_reducible exact Below.refl _ _) | (with_reducible assumption) | (with_reducible refine Below.alloc ?_ ?_ _) | (with_reducible refine Below.setCell ?_ ?_ _) | (with_reducible refine Below.drew ?_) | (with_reducible refine below_drewN ?_ _) | (with_reducible refine below_via ?_ (by with_reducible assumption) ?_) | omega | (simp; done) | (simp; omega)))⟩
  have HC := Lib.hid (show decide (okA x) = risC 0 x.clients from by
    cases h : risC 0 x.clients
    · exact decide_eq_false (fun hk => by rw [okA_ref, h] at hk; cases hk.2.2.2.2.2)
    · exact decide_eq_true (okA_ref.2 ⟨by omega, by omega, by omega, t6, t7, h⟩))
  obtain ⟨b6, d6⟩ : ((x.kind == 1) = false ∨ ((x.kind == 1) = true ∧ decide (0 < (x.clients.length : Int)) = false)) ∧ ((x.kind == 4) = false ∨ ((x.kind == 4) = true ∧ decide (1 < (x.clients.length : Int)) = false)) := by
    constructor
    · by_cases h : x.kind = 1
      · exact .inr ⟨by simpa using h, decide_eq_false (by omega)⟩
      · exact .inl (by simpa using h)
    · by_cases h : x.kind = 4
      · exact .inr ⟨by simpa using h, decide_eq_false (by omega)⟩
      · exact .inl (by simpa using h)
  clear t6 t7
  rcases b6 with b6 | ⟨b6, e6⟩
  · rcases d6 with d6 | ⟨d6, e7⟩
    · go_enter Try.func12, Try.ntmps12
      go_wp2_with (fail)
      go_loopw [3] (fun i wr => ∃ (k : Nat) (q : Int), k ≤ x.clients.length ∧ i = .int .i64 k ∧ risC 0 x.clients = risC q (x.clients.drop k) ∧ Below w.heap.size w wr ∧ wr.cell? ⟨w.heap.size, 3, none⟩ = some (.slice A x.clients.length c) ∧ (k = 0 ∧ q = 0 ∨ 0 < k ∧ q = x.clients.getD (k - 1) 0 ∧ 1 ≤ q)) (fun i _ => x.clients.length - (intOf i).toNat)
      case atStart => exact ⟨0, 0, Nat.zero_le _, rfl, rfl, by (repeat' (first | (with_reducible exact Below.refl _ _) | (with_reducible assumption) | (with_reducible refine Below.alloc ?_ ?_ _) | (with_reducible refine Below.setCell ?_ ?_ _) | (with_reducible refine Below.drew ?_) | (with_reducible refine below_drewN ?_ _) | (with_reducible refine below_via ?_ (by with_reducible assumption) ?_) | omega | (simp; done) | (simp; omega))), by simp [go_sem], .inl ⟨rfl, rfl⟩⟩
      case round =>
        obtain ⟨k, q, hk, rfl, hv, hbl, hcell, hx⟩ := hrel
        have HV := Lib.hid hv
        have Hbl := Lib.hid hbl
        have hz := hbl.size
        clear hv hbl
        by_cases hlt : k < x.clients.length
        · have kl : (k : Int) < (x.clients.length : Int) := by omega
          have dl : decide ((k : Int) < (x.clients.length : Int)) = true := by simpa using hlt
          obtain ⟨b, o, rfl, hb, hc⟩ := HR.out k (encI x.clients[k]) (by simp [hlt])
          have e0 := (Hbl.out.cell (p := ⟨b, o + k * 1 + 0, none⟩) hb).trans (hc 0 _ rfl)
          simp only [Nat.add_zero, Nat.mul_one] at e0
          clear hc
          have HD := Lib.hid (drop_cons' hlt)
          rcases hx with ⟨k0, hx⟩ | ⟨k0, hx, x1⟩
          · have g0 : decide (0 < k) = false := by simp; omega
            have x0 : 0 ≤ q ∧ q ≤ 0 := by omega
            clear k0 hx
            by_cases t0 : x.clients[k] < 1
            · have d0 := decide_eq_true t0
              have HN := Lib.hid (show risC 0 x.clients = false from by rw [HV.out, HD.out]; exact risC_no (by omega))
              have wk : IntKind.i64.wrap ((k : Int) - 1) = (k : Int) - 1 := IntWalk.i64_in _ (by omega)
              have tk : ((k : Int) - 1).toNat = k - 1 := by omega
              go_wp2_with fail
              go_quiet (fail)
              clear wk tk
              go_wp2_with fail
              go_ret
              exact ⟨by rw [HC.out, HN.out]; rfl, by have hbl := Hbl.out; (repeat' (first | (with_reducible exact Below.refl _ _) | (with_reducible assumption) | (with_reducible refine Below.alloc ?_ ?_ _) | (with_reducible refine Below.setCell ?_ ?_ _) | (with_reducible refine Below.drew ?_) | (with_reducible refine below_drewN ?_ _) | (with_reducible refine below_via ?_ (by with_reducible assumption) ?_) | omega | (simp; done) | (simp; omega)))⟩
            have d0 := decide_eq_false t0
            by_cases t1 : 16 < x.clients[k]
            · have d1 := decide_eq_true t1
              have HN := Lib.hid (show risC 0 x.clients = false from by rw [HV.out, HD.out]; exact risC_no (by omega))
              have wk : IntKind.i64.wrap ((k : Int) - 1) = (k : Int) - 1 := IntWalk.i64_in _ (by omega)
              have tk : ((k : Int) - 1).toNat = k - 1 := by omega
              go_wp2_with fail
              go_quiet (fail)
              clear wk tk
              go_wp2_with fail
              go_ret
              exact ⟨by rw [HC.out, HN.out]; rfl, by have hbl := Hbl.out; (repeat' (first | (with_reducible exact Below.refl _ _) | (with_reducible assumption) | (with_reducible refine Below.alloc ?_ ?_ _) | (with_reducible refine Below.setCell ?_ ?_ _) | (with_reducible refine Below.drew ?_) | (with_reducible refine below_drewN ?_ _) | (with_reducible refine below_via ?_ (by with_reducible assumption) ?_) | omega | (simp; done) | (simp; omega)))⟩
            have d1 := decide_eq_false t1
            have HN := Lib.hid (show risC 0 x.clients = risC x.clients[k] (x.clients.drop (k + 1)) from by rw [HV.out, HD.out]; exact risC_step (by omega) (by omega))
            have c1 : 1 ≤ x.clients[k] := by omega
            have wk : IntKind.i64.wrap ((k : Int) - 1) = (k : Int) - 1 := IntWalk.i64_in _ (by omega)
            have tk : ((k : Int) - 1).toNat = k - 1 := by omega
            go_wp2_with fail
            go_quiet (fail)
            clear wk tk
            go_wp2_with fail
            go_roundw
            case rel => exact ⟨k + 1, x.clients[k], by omega, by go_num, HN.out, by have hbl := Hbl.out; (repeat' (first | (with_reducible exact Below.refl _ _) | (with_reducible assumption) | (with_reducible refine Below.alloc ?_ ?_ _) | (with_reducible refine Below.setCell ?_ ?_ _) | (with_reducible refine Below.drew ?_) | (with_reducible refine below_drewN ?_ _) | (with_reducible refine below_via ?_ (by with_reducible assumption) ?_) | omega | (simp; done) | (simp; omega))), by simpa [go_sem] using hcell, .inr ⟨by omega, by rw [Nat.add_sub_cancel, getD_at hlt], by omega⟩⟩
            case measure => simp [intOf]; omega
          · have g0 : decide (0 < k) = true := by simpa using k0
            have g1 : (0 : Int) ≤ (k : Int) - 1 := by omega
            have hk1 : k - 1 < x.clients.length := by omega
            rw [getD_at hk1] at hx
            obtain ⟨b1, o1, q1, hb1, hq1⟩ := HR.out (k - 1) (encI x.clients[k - 1]) (by simp [hk1])
            injection q1 with q1
            injection q1 with q1 q2 _
            subst q1 q2
            have f0 := (Hbl.out.cell (p := ⟨b, o + (k - 1) * 1 + 0, none⟩) hb).trans (hq1 0 _ rfl)
            simp only [Nat.add_zero, Nat.mul_one] at f0
            rw [← hx] at f0
            have X0 := Lib.hid hx
            clear hq1 hx
            by_cases t0 : x.clients[k] < 1
            · have d0 := decide_eq_true t0
              have HN := Lib.hid (show risC 0 x.clients = false from by rw [HV.out, HD.out]; exact risC_no (by omega))
              have wk : IntKind.i64.wrap ((k : Int) - 1) = (k : Int) - 1 := IntWalk.i64_in _ (by omega)
              have tk : ((k : Int) - 1).toNat = k - 1 := by omega
              go_wp2_with fail
              go_quiet (fail)
              clear wk tk
              go_wp2_with fail
              go_ret
              exact ⟨by rw [HC.out, HN.out]; rfl, by have hbl := Hbl.out; (repeat' (first | (with_reducible exact Below.refl _ _) | (with_reducible assumption) | (with_reducible refine Below.alloc ?_ ?_ _) | (with_reducible refine Below.setCell ?_ ?_ _) | (with_reducible refine Below.drew ?_) | (with_reducible refine below_drewN ?_ _) | (with_reducible refine below_via ?_ (by with_reducible assumption) ?_) | omega | (simp; done) | (simp; omega)))⟩
            have d0 := decide_eq_false t0
            by_cases t1 : 16 < x.clients[k]
            · have d1 := decide_eq_true t1
              have HN := Lib.hid (show risC 0 x.clients = false from by rw [HV.out, HD.out]; exact risC_no (by omega))
              have wk : IntKind.i64.wrap ((k : Int) - 1) = (k : Int) - 1 := IntWalk.i64_in _ (by omega)
              have tk : ((k : Int) - 1).toNat = k - 1 := by omega
              go_wp2_with fail
              go_quiet (fail)
              clear wk tk
              go_wp2_with fail
              go_ret
              exact ⟨by rw [HC.out, HN.out]; rfl, by have hbl := Hbl.out; (repeat' (first | (with_reducible exact Below.refl _ _) | (with_reducible assumption) | (with_reducible refine Below.alloc ?_ ?_ _) | (with_reducible refine Below.setCell ?_ ?_ _) | (with_reducible refine Below.drew ?_) | (with_reducible refine below_drewN ?_ _) | (with_reducible refine below_via ?_ (by with_reducible assumption) ?_) | omega | (simp; done) | (simp; omega)))⟩
            have d1 := decide_eq_false t1
            by_cases t2 : x.clients[k] ≤ q
            · have d2 := decide_eq_true t2
              have HN := Lib.hid (show risC 0 x.clients = false from by rw [HV.out, HD.out]; exact risC_no (by omega))
              have wk : IntKind.i64.wrap ((k : Int) - 1) = (k : Int) - 1 := IntWalk.i64_in _ (by omega)
              have tk : ((k : Int) - 1).toNat = k - 1 := by omega
              go_wp2_with fail
              go_quiet (fail)
              clear wk tk
              go_wp2_with fail
              go_ret
              exact ⟨by rw [HC.out, HN.out]; rfl, by have hbl := Hbl.out; (repeat' (first | (with_reducible exact Below.refl _ _) | (with_reducible assumption) | (with_reducible refine Below.alloc ?_ ?_ _) | (with_reducible refine Below.setCell ?_ ?_ _) | (with_reducible refine Below.drew ?_) | (with_reducible refine below_drewN ?_ _) | (with_reducible refine below_via ?_ (by with_reducible assumption) ?_) | omega | (simp; done) | (simp; omega)))⟩
            have d2 := decide_eq_false t2
            have HN := Lib.hid (show risC 0 x.clients = risC x.clients[k] (x.clients.drop (k + 1)) from by rw [HV.out, HD.out]; exact risC_step (by omega) (by omega))
            have c1 : 1 ≤ x.clients[k] := by omega
            have wk : IntKind.i64.wrap ((k : Int) - 1) = (k : Int) - 1 := IntWalk.i64_in _ (by omega)
            have tk : ((k : Int) - 1).toNat = k - 1 := by omega
            go_wp2_with fail
            go_quiet (fail)
            clear wk tk
            go_wp2_with fail
            go_roundw
            case rel => exact ⟨k + 1, x.clients[k], by omega, by go_num, HN.out, by have hbl := Hbl.out; (repeat' (first | (with_reducible exact Below.refl _ _) | (with_reducible assumption) | (with_reducible refine Below.alloc ?_ ?_ _) | (with_reducible refine Below.setCell ?_ ?_ _) | (with_reducible refine Below.drew ?_) | (with_reducible refine below_drewN ?_ _) | (with_reducible refine below_via ?_ (by with_reducible assumption) ?_) | omega | (simp; done) | (simp; omega))), by simpa [go_sem] using hcell, .inr ⟨by omega, by rw [Nat.add_sub_cancel, getD_at hlt], by omega⟩⟩
            case measure => simp [intOf]; omega
        · have dl : decide ((k : Int) < (x.clients.length : Int)) = false := by simpa using hlt
          have HD := Lib.hid (drop_all (l := x.clients) (k := k) (by omega))
          go_wp2_with fail
          go_ret
          exact ⟨by rw [HC.out, HV.out, HD.out]; rfl, Hbl.out⟩
    · go_enter Try.func12, Try.ntmps12
      go_wp2_with (fail)
      go_loopw [3] (fun i wr => ∃ (k : Nat) (q : Int), k ≤ x.clients.length ∧ i = .int .i64 k ∧ risC 0 x.clients = risC q (x.clients.drop k) ∧ Below w.heap.size w wr ∧ wr.cell? ⟨w.heap.size, 3, none⟩ = some (.slice A x.clients.length c) ∧ (k = 0 ∧ q = 0 ∨ 0 < k ∧ q = x.clients.getD (k - 1) 0 ∧ 1 ≤ q)) (fun i _ => x.clients.length - (intOf i).toNat)
      case atStart => exact ⟨0, 0, Nat.zero_le _, rfl, rfl, by (repeat' (first | (with_reducible exact Below.refl _ _) | (with_reducible assumption) | (with_reducible refine Below.alloc ?_ ?_ _) | (with_reducible refine Below.setCell ?_ ?_ _) | (with_reducible refine Below.drew ?_) | (with_reducible refine below_drewN ?_ _) | (with_reducible refine below_via ?_ (by with_reducible assumption) ?_) | omega | (simp; done) | (simp; omega))), by simp [go_sem], .inl ⟨rfl, rfl⟩⟩
      case round =>
        obtain ⟨k, q, hk, rfl, hv, hbl, hcell, hx⟩ := hrel
        have HV := Lib.hid hv
        have Hbl := Lib.hid hbl
        have hz := hbl.size
        clear hv hbl
        by_cases hlt : k < x.clients.length
        · have kl : (k : Int) < (x.clients.length : Int) := by omega
          have dl : decide ((k : Int) < (x.clients.length : Int)) = true := by simpa using hlt
          obtain ⟨b, o, rfl, hb, hc⟩ := HR.out k (encI x.clients[k]) (by simp [hlt])
          have e0 := (Hbl.out.cell (p := ⟨b, o + k * 1 + 0, none⟩) hb).trans (hc 0 _ rfl)
          simp only [Nat.add_zero, Nat.mul_one] at e0
          clear hc
          have HD := Lib.hid (drop_cons' hlt)
          rcases hx with ⟨k0, hx⟩ | ⟨k0, hx, x1⟩
          · have g0 : decide (0 < k) = false := by simp; omega
            have x0 : 0 ≤ q ∧ q ≤ 0 := by omega
            clear k0 hx
            by_cases t0 : x.clients[k] < 1
            · have d0 := decide_eq_true t0
              have HN := Lib.hid (show risC 0 x.clients = false from by rw [HV.out, HD.out]; exact risC_no (by omega))
              have wk : IntKind.i64.wrap ((k : Int) - 1) = (k : Int) - 1 := IntWalk.i64_in _ (by omega)
              have tk : ((k : Int) - 1).toNat = k - 1 := by omega
              go_wp2_with fail
              go_quiet (fail)
              clear wk tk
              go_wp2_with fail
              go_ret
              exact ⟨by rw [HC.out, HN.out]; rfl, by have hbl := Hbl.out; (repeat' (first | (with_reducible exact Below.refl _ _) | (with_reducible assumption) | (with_reducible refine Below.alloc ?_ ?_ _) | (with_reducible refine Below.setCell ?_ ?_ _) | (with_reducible refine Below.drew ?_) | (with_reducible refine below_drewN ?_ _) | (with_reducible refine below_via ?_ (by with_reducible assumption) ?_) | omega | (simp; done) | (simp; omega)))⟩
            have d0 := decide_eq_false t0
            by_cases t1 : 16 < x.clients[k]
            · have d1 := decide_eq_true t1
              have HN := Lib.hid (show risC 0 x.clients = false from by rw [HV.out, HD.out]; exact risC_no (by omega))
              have wk : IntKind.i64.wrap ((k : Int) - 1) = (k : Int) - 1 := IntWalk.i64_in _ (by omega)
              have tk : ((k : Int) - 1).toNat = k - 1 := by omega
              go_wp2_with fail
              go_quiet (fail)
              clear wk tk
              go_wp2_with fail
              go_ret
              exact ⟨by rw [HC.out, HN.out]; rfl, by have hbl := Hbl.out; (repeat' (first | (with_reducible exact Below.refl _ _) | (with_reducible assumption) | (with_reducible refine Below.alloc ?_ ?_ _) | (with_reducible refine Below.setCell ?_ ?_ _) | (with_reducible refine Below.drew ?_) | (with_reducible refine below_drewN ?_ _) | (with_reducible refine below_via ?_ (by with_reducible assumption) ?_) | omega | (simp; done) | (simp; omega)))⟩
            have d1 := decide_eq_false t1
            have HN := Lib.hid (show risC 0 x.clients = risC x.clients[k] (x.clients.drop (k + 1)) from by rw [HV.out, HD.out]; exact risC_step (by omega) (by omega))
            have c1 : 1 ≤ x.clients[k] := by omega
            have wk : IntKind.i64.wrap ((k : Int) - 1) = (k : Int) - 1 := IntWalk.i64_in _ (by omega)
            have tk : ((k : Int) - 1).toNat = k - 1 := by omega
            go_wp2_with fail
            go_quiet (fail)
            clear wk tk
            go_wp2_with fail
            go_roundw
            case rel => exact ⟨k + 1, x.clients[k], by omega, by go_num, HN.out, by have hbl := Hbl.out; (repeat' (first | (with_reducible exact Below.refl _ _) | (with_reducible assumption) | (with_reducible refine Below.alloc ?_ ?_ _) | (with_reducible refine Below.setCell ?_ ?_ _) | (with_reducible refine Below.drew ?_) | (with_reducible refine below_drewN ?_ _) | (with_reducible refine below_via ?_ (by with_reducible assumption) ?_) | omega | (simp; done) | (simp; omega))), by simpa [go_sem] using hcell, .inr ⟨by omega, by rw [Nat.add_sub_cancel, getD_at hlt], by omega⟩⟩
            case measure => simp [intOf]; omega
          · have g0 : decide (0 < k) = true := by simpa using k0
            have g1 : (0 : Int) ≤ (k : Int) - 1 := by omega
            have hk1 : k - 1 < x.clients.length := by omega
            rw [getD_at hk1] at hx
            obtain ⟨b1, o1, q1, hb1, hq1⟩ := HR.out (k - 1) (encI x.clients[k - 1]) (by simp [hk1])
            injection q1 with q1
            injection q1 with q1 q2 _
            subst q1 q2
            have f0 := (Hbl.out.cell (p := ⟨b, o + (k - 1) * 1 + 0, none⟩) hb).trans (hq1 0 _ rfl)
            simp only [Nat.add_zero, Nat.mul_one] at f0
            rw [← hx] at f0
            have X0 := Lib.hid hx
            clear hq1 hx
            by_cases t0 : x.clients[k] < 1
            · have d0 := decide_eq_true t0
              have HN := Lib.hid (show risC 0 x.clients = false from by rw [HV.out, HD.out]; exact risC_no (by omega))
              have wk : IntKind.i64.wrap ((k : Int) - 1) = (k : Int) - 1 := IntWalk.i64_in _ (by omega)
              have tk : ((k : Int) - 1).toNat = k - 1 := by omega
              go_wp2_with fail
              go_quiet (fail)
              clear wk tk
              go_wp2_with fail
              go_ret
              exact ⟨by rw [HC.out, HN.out]; rfl, by have hbl := Hbl.out; (repeat' (first | (with_reducible exact Below.refl _ _) | (with_reducible assumption) | (with_reducible refine Below.alloc ?_ ?_ _) | (with_reducible refine Below.setCell ?_ ?_ _) | (with_reducible refine Below.drew ?_) | (with_reducible refine below_drewN ?_ _) | (with_reducible refine below_via ?_ (by with_reducible assumption) ?_) | omega | (simp; done) | (simp; omega)))⟩
            have d0 := decide_eq_false t0
            by_cases t1 : 16 < x.clients[k]
            · have d1 := decide_eq_true t1
              have HN := Lib.hid (show risC 0 x.clients = false from by rw [HV.out, HD.out]; exact risC_no (by omega))
              have wk : IntKind.i64.wrap ((k : Int) - 1) = (k : Int) - 1 := IntWalk.i64_in _ (by omega)
              have tk : ((k : Int) - 1).toNat = k - 1 := by omega
              go_wp2_with fail
              go_quiet (fail)
              clear wk tk
              go_wp2_with fail
              go_ret
              exact ⟨by rw [HC.out, HN.out]; rfl, by have hbl := Hbl.out; (repeat' (first | (with_reducible exact Below.refl _ _) | (with_reducible assumption) | (with_reducible refine Below.alloc ?_ ?_ _) | (with_reducible refine Below.setCell ?_ ?_ _) | (with_reducible refine Below.drew ?_) | (with_reducible refine below_drewN ?_ _) | (with_reducible refine below_via ?_ (by with_reducible assumption) ?_) | omega | (simp; done) | (simp; omega)))⟩
            have d1 := decide_eq_false t1
            by_cases t2 : x.clients[k] ≤ q
            · have d2 := decide_eq_true t2
              have HN := Lib.hid (show risC 0 x.clients = false from by rw [HV.out, HD.out]; exact risC_no (by omega))
              have wk : IntKind.i64.wrap ((k : Int) - 1) = (k : Int) - 1 := IntWalk.i64_in _ (by omega)
              have tk : ((k : Int) - 1).toNat = k - 1 := by omega
              go_wp2_with fail
              go_quiet (fail)
              clear wk tk
              go_wp2_with fail
              go_ret
              exact ⟨by rw [HC.out, HN.out]; rfl, by have hbl := Hbl.out; (repeat' (first | (with_reducible exact Below.refl _ _) | (with_reducible assumption) | (with_reducible refine Below.alloc ?_ ?_ _) | (with_reducible refine Below.setCell ?_ ?_ _) | (with_reducible refine Below.drew ?_) | (with_reducible refine below_drewN ?_ _) | (with_reducible refine below_via ?_ (by with_reducible assumption) ?_) | omega | (simp; done) | (simp; omega)))⟩
            have d2 := decide_eq_false t2
            have HN := Lib.hid (show risC 0 x.clients = risC x.clients[k] (x.clients.drop (k + 1)) from by rw [HV.out, HD.out]; exact risC_step (by omega) (by omega))
            have c1 : 1 ≤ x.clients[k] := by omega
            have wk : IntKind.i64.wrap ((k : Int) - 1) = (k : Int) - 1 := IntWalk.i64_in _ (by omega)
            have tk : ((k : Int) - 1).toNat = k - 1 := by omega
            go_wp2_with fail
            go_quiet (fail)
            clear wk tk
            go_wp2_with fail
            go_roundw
            case rel => exact ⟨k + 1, x.clients[k], by omega, by go_num, HN.out, by have hbl := Hbl.out; (repeat' (first | (with_reducible exact Below.refl _ _) | (with_reducible assumption) | (with_reducible refine Below.alloc ?_ ?_ _) | (with_reducible refine Below.setCell ?_ ?_ _) | (with_reducible refine Below.drew ?_) | (with_reducible refine below_drewN ?_ _) | (with_reducible refine below_via ?_ (by with_reducible assumption) ?_) | omega | (simp; done) | (simp; omega))), by simpa [go_sem] using hcell, .inr ⟨by omega, by rw [Nat.add_sub_cancel, getD_at hlt], by omega⟩⟩
            case measure => simp [intOf]; omega
        · have dl : decide ((k : Int) < (x.clients.length : Int)) = false := by simpa using hlt
          have HD := Lib.hid (drop_all (l := x.clients) (k := k) (by omega))
          go_wp2_with fail
          go_ret
          exact ⟨by rw [HC.out, HV.out, HD.out]; rfl, Hbl.out⟩
  · have d7 : (x.kind == 4) = false := by
      have h : x.kind = 1 := by simpa using b6
      rw [h]; rfl
    have h0 : x.clients.length = 0 := by have := of_decide_eq_false e6; omega
    have HL := Lib.hid (List.eq_nil_of_length_eq_zero h0)
    clear d6 e6
    rw [h0]
    go_enter Try.func12, Try.ntmps12
    go_wp2_with (fail)
    refine wp_loop_rounds 1 ?_
    rw [rounds_succ]
    go_wp2_with fail
    go_ret
    exact ⟨by rw [HC.out, HL.out]; rfl, by (repeat' (first | (with_reducible exact Below.refl _ _) | (with_reducible assumption) | (with_reducible refine Below.alloc ?_ ?_ _) | (with_reducible refine Below.setCell ?_ ?_ _) | (with_reducible refine Below.drew ?_) | (with_reducible refine below_drewN ?_ _) | (with_reducible refine below_via ?_ (by with_reducible assumption) ?_) | omega | (simp; done) | (simp; omega)))⟩
set_option maxRecDepth 100000 in
set_option maxHeartbeats 8000000 in
theorem ref15Units (x : Acct) (A : Option Addr) (c : Nat) (w : World) (hl : x.clients.length ≤ 1048576) (hr : Rd w A 1 (x.clients.map encI)) :
    Calls Try.prog 15 #[.agg #[.int .i64 x.id, .int .i64 x.member, .int .i64 x.kind, .slice A x.clients.length c]] w fun e w' => ∃ v, e = .returned v ∧ IsSl 2 encUn w' v (unitsA x) ∧ Below w.heap.size w w' := by
  have HR := Lib.hid hr
  clear hr
  by_cases hk1 : x.kind = 1
  · have b1 : (x.kind == 1) = true := by simpa using hk1
    have HU := Lib.hid (show unitsA x = [⟨x.id, 0⟩] from if_pos hk1)
    clear hk1
    go_enter Try.func15, Try.ntmps15
    go_wp2_with (first | (at_builtin; refine wpList_app rfl _ _ _ rfl elUn (w.heap.size + 1) _ _ rfl ((Own.nil _ _ _ _).alloc _) (some ⟨_, 0, none⟩) 1 1 rfl [encUn ⟨x.id, 0⟩] rfl (fun h => by cases h) (rd_oneN (by simp)) (rowsUn [⟨x.id, 0⟩]) (by unfold maxLen; first | (simp; done) | omega | (simp; omega)) (by first | (simp; done) | omega | (simp; omega)) (by first | omega | (simp; done) | (simp; omega)) ?_; intro v3 w3 hown3 hb3) | fail)
    go_ret
    refine ⟨_, rfl, ?_, by (repeat' (first | (with_reducible exact Below.refl _ _) | (with_reducible assumption) | (with_reducible refine Below.alloc ?_ ?_ _) | (with_reducible refine Below.setCell ?_ ?_ _) | (with_reducible refine Below.drew ?_) | (with_reducible refine below_drewN ?_ _) | (with_reducible refine below_via ?_ (by with_reducible assumption) ?_) | omega | (simp; done) | (simp; omega)))⟩
    rw [HU.out]
    exact hown3.isSl
  · have b1 : (x.kind == 1) = false := by simpa using hk1
    have HU := Lib.hid (show unitsA x = x.clients.map (fun c => ⟨x.id, c⟩) from if_neg hk1)
    clear hk1
    go_enter Try.func15, Try.ntmps15
    go_wp2_with (fail)
    go_loopw [3, 4] (fun v i wr => ∃ k : Nat, k ≤ x.clients.length ∧ i = .int .i64 k ∧ Own wr (w.heap.size + 1) 26 2 v (((x.clients.take k).map (fun c => (⟨x.id, c⟩ : Un))).map encUn) ∧ Below w.heap.size w wr ∧ w.heap.size < wr.heap.size ∧ (wr.cell? ⟨w.heap.size, 0, none⟩ = some (.int .i64 x.id) ∧ wr.cell? ⟨w.heap.size, 3, none⟩ = some (.slice A x.clients.length c))) (fun _ i _ => x.clients.length - (intOf i).toNat)
    case atStart => exact ⟨0, Nat.zero_le _, rfl, Own.nil _ _ _ _, by (repeat' (first | (with_reducible exact Below.refl _ _) | (with_reducible assumption) | (with_reducible refine Below.alloc ?_ ?_ _) | (with_reducible refine Below.setCell ?_ ?_ _) | (with_reducible refine Below.drew ?_) | (with_reducible refine below_drewN ?_ _) | (with_reducible refine below_via ?_ (by with_reducible assumption) ?_) | omega | (simp; done) | (simp; omega))), by simp, by simp [go_sem]⟩
    case round =>
      obtain ⟨k, hk, rfl, hown, hbl, hsz, h0, h3⟩ := hrel
      have Hown := Lib.hid hown
      have Hbl := Lib.hid hbl
      have hz := hbl.size
      clear hown hbl
      by_cases hlt : k < x.clients.length
      · have kl : (k : Int) < (x.clients.length : Int) := by omega
        have dl : decide ((k : Int) < (x.clients.length : Int)) = true := by simpa using hlt
        obtain ⟨b, o, rfl, hb, hc⟩ := HR.out k (encI x.clients[k]) (by simp [hlt])
        have e0 := (Hbl.out.cell (p := ⟨b, o + k * 1 + 0, none⟩) hb).trans (hc 0 _ rfl)
        simp only [Nat.add_zero, Nat.mul_one] at e0
        have HS := Lib.hid (map_snoc hlt (fun c => (⟨x.id, c⟩ : Un)))
        clear hc
        go_wp2_with fail
        go_region_held3 (fun w' => (w'.cell? ⟨w.heap.size, 0, none⟩ = some (.int .i64 x.id) ∧ w'.cell? ⟨w.heap.size, 3, none⟩ = some (.slice (some ⟨b, o, none⟩) x.clients.length c)) ∧ w'.cell? ⟨b, o + k, none⟩ = some (.int .i64 x.clients[k])) (first | (simp [go_sem]; done) | (repeat' (first | (with_reducible assumption) | (with_reducible refine And.intro ?_ ?_) | (with_reducible refine cell_drew ?_) | (with_reducible refine cell_via (by with_reducible assumption) ?_ ?_) | (simp [*]; done) | (simp [go_sem]; done) | (with_reducible refine cell_alloc ?_ ?_) | (with_reducible refine cell_set_far ?_ ?_) | omega | (simp; omega)))) (first | (refine step_app rfl _ _ _ rfl elUn (w.heap.size + 1) _ _ rfl (by first | exact Hown.out.drew.alloc _ | exact (Hown.out.alloc _).drew | exact Hown.out.alloc _) _ 1 1 rfl [encUn ⟨x.id, x.clients[k]⟩] rfl (fun h => by cases h) (by first | exact rd_one | exact rd_one.drew) (rowsUn [⟨x.id, x.clients[k]⟩]) (by unfold maxLen; simp; omega) (by simp; omega) (by first | omega | (simp; done) | (simp; omega)) ?_; intro v3 w3 hown3 hb3) | fail)
        go_wp2_with fail
        go_roundw
        case rel => exact ⟨k + 1, by omega, by go_num, by rw [HS.out, List.map_append]; exact hown3, by have hbl := Hbl.out; (repeat' (first | (with_reducible exact Below.refl _ _) | (with_reducible assumption) | (with_reducible refine Below.alloc ?_ ?_ _) | (with_reducible refine Below.setCell ?_ ?_ _) | (with_reducible refine Below.drew ?_) | (with_reducible refine below_drewN ?_ _) | (with_reducible refine below_via ?_ (by with_reducible assumption) ?_) | omega | (simp; done) | (simp; omega))), by have := hb3.size; simp at this; omega, by rw [hb3.cell (p := ⟨w.heap.size, 0, none⟩) (by simp)]; simp [go_sem, h0, hsz, ↓IntWalk.iteOmega], by rw [hb3.cell (p := ⟨w.heap.size, 3, none⟩) (by simp)]; simp [go_sem, h3, hsz, ↓IntWalk.iteOmega]⟩
        case measure => simp [intOf]; omega
      · have dl : decide ((k : Int) < (x.clients.length : Int)) = false := by simpa using hlt
        have HT := Lib.hid (show x.clients.take k = x.clients from List.take_of_length_le (by omega))
        go_wp2_with (fail)
        go_ret
        refine ⟨_, rfl, ?_, Hbl.out⟩
        rw [HU.out]
        have := Hown.out
        rw [HT.out] at this
        exact this.isSl
theorem ref15Has (x : Acct) (u : Un) (A : Option Addr) (c : Nat) (w : World) (hl : x.clients.length ≤ 1000000) (hr : Rd w A 1 (x.clients.map encI)) :
    Calls Try.prog 17 #[.agg #[.int .i64 x.id, .int .i64 x.member, .int .i64 x.kind, .slice A x.clients.length c], .agg #[.int .i64 u.acc, .int .i64 u.cli]] w fun e w' => e = .returned (.bool (hasA x u)) ∧ Below w.heap.size w w' := by
  have HR := Lib.hid hr
  have hul := units_len x
  have C1 := Lib.hid (fun W h => ref15Units x A c W (by omega) h)
  have HU : hasA x u = decide (u ∈ unitsA x) := rfl
  rw [HU]
  clear hr HU
  generalize unitsA x = l at *
  go_enter Try.func17, Try.ntmps17
  go_wp2_with (first | (go_at_call 15; (with_reducible refine (C1.out _ (HR.out.keep (by (repeat' (first | (with_reducible exact Below.refl _ _) | (with_reducible assumption) | (with_reducible refine Below.alloc ?_ ?_ _) | (with_reducible refine Below.setCell ?_ ?_ _) | (with_reducible refine Below.drew ?_) | (with_reducible refine below_drewN ?_ _) | (with_reducible refine below_via ?_ (by with_reducible assumption) ?_) | omega | (simp; done) | (simp; omega)))))).mono ?_); rintro e w1 ⟨_, rfl, ⟨A1, c1, rfl, hrs1⟩, hb1⟩; have HS1 := Lib.hid hrs1.rd; clear hrs1; obtain ⟨fc1, fg1, hc1, hf1, hz1⟩ := bget hb1; (try simp at hz1)) | fail)
  have k0 : w1.cell? ⟨w.heap.size + 1, 0, none⟩ = some (.int .i64 u.acc) := by simp [hc1, go_sem, ↓IntWalk.iteOmega]
  have k1 : w1.cell? ⟨w.heap.size + 1, 1, none⟩ = some (.int .i64 u.cli) := by simp [hc1, go_sem, ↓IntWalk.iteOmega]
  have hb0 : Below w.heap.size w w1 := by (repeat' (first | (with_reducible exact Below.refl _ _) | (with_reducible assumption) | (with_reducible refine Below.alloc ?_ ?_ _) | (with_reducible refine Below.setCell ?_ ?_ _) | (with_reducible refine Below.drew ?_) | (with_reducible refine below_drewN ?_ _) | (with_reducible refine below_via ?_ (by with_reducible assumption) ?_) | omega | (simp; done) | (simp; omega)))
  have Hb0 := Lib.hid hb0
  clear hb0 hb1 hc1 hf1
  go_loopw [6] (fun i wr => ∃ k : Nat, k ≤ l.length ∧ i = .int .i64 k ∧ (∃ n, wr = w1.drewN n) ∧ ∀ j (_ : j < l.length), j < k → ¬ l[j] = u) (fun i _ => l.length - (intOf i).toNat)
  case atStart => exact ⟨0, Nat.zero_le _, rfl, ⟨0, rfl⟩, fun j _ h => absurd h (by omega)⟩
  case round =>
    obtain ⟨k, hk, rfl, ⟨nn, rfl⟩, hno⟩ := hrel
    have Hno := Lib.hid hno
    clear hno
    by_cases hlt : k < l.length
    · have kl : (k : Int) < (l.length : Int) := by omega
      have dl : decide ((k : Int) < (l.length : Int)) = true := by simpa using hlt
      obtain ⟨b, o, rfl, hb, hc⟩ := HS1.out k (encUn l[k]) (by simp [hlt])
      have c0 := hc 0 _ rfl
      have c1 := hc 1 _ rfl
      simp only [Nat.add_zero] at c0
      clear hc
      rcases un_test (x := l[k]) (u := u) with he | he | he
      · have HM := Lib.hid (decide_eq_true (show u ∈ l from by rw [← he]; exact List.getElem_mem hlt))
        rw [he] at c0 c1
        clear he
        go_wp2_with fail
        go_quiet (fail)
        go_wp2_with fail
        go_ret
        exact ⟨by rw [HM.out]; rfl, by have hbl := Hb0.out; (repeat' (first | (with_reducible exact Below.refl _ _) | (with_reducible assumption) | (with_reducible refine Below.alloc ?_ ?_ _) | (with_reducible refine Below.setCell ?_ ?_ _) | (with_reducible refine Below.drew ?_) | (with_reducible refine below_drewN ?_ _) | (with_reducible refine below_via ?_ (by with_reducible assumption) ?_) | omega | (simp; done) | (simp; omega)))⟩
      all_goals
        have Hm := Lib.hid (show ¬ l[k] = u from by intro e; rw [e] at he; simp at he)
        go_wp2_with fail
        go_quiet (fail)
        go_wp2_with fail
        go_roundw
        case rel => exact ⟨k + 1, by omega, by go_num, ⟨_, rfl⟩, fun j hj h => by
          rcases Nat.lt_or_ge j k with h1 | h1
          · exact Hno.out j hj h1
          · obtain rfl : j = k := by omega
            exact Hm.out⟩
        case measure => simp [intOf]; omega
    · have dl : decide ((k : Int) < (l.length : Int)) = false := by simpa using hlt
      have HM := Lib.hid (decide_eq_false (show ¬ u ∈ l from fun hu => by
        obtain ⟨j, hj, e⟩ := List.mem_iff_getElem.1 hu
        exact Hno.out j hj (by omega) e))
      go_wp2_with fail
      go_ret
      exact ⟨by rw [HM.out]; rfl, by have hbl := Hb0.out; (repeat' (first | (with_reducible exact Below.refl _ _) | (with_reducible assumption) | (with_reducible refine Below.alloc ?_ ?_ _) | (with_reducible refine Below.setCell ?_ ?_ _) | (with_reducible refine Below.drew ?_) | (with_reducible refine below_drewN ?_ _) | (with_reducible refine below_via ?_ (by with_reducible assumption) ?_) | omega | (simp; done) | (simp; omega)))⟩
end Go.Proofs.Ytemhhojenocddaa
