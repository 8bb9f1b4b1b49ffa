/- Choices: contract of elect.Is. -/
import Derived.Test.YtffmljkpbgohkaaElect5
namespace Go.Proofs.Ytffmljkpbgohkaa
open Go.RowKit
set_option maxRecDepth 100000 in
set_option maxHeartbeats 4000000 in
theorem electIs (l : List Choice) (A : Option Addr) (c : Nat) (w : World) (hl : l.length ≤ 1099511627776) (hr : Rd w A 5 (l.map encChoice)) :
    Calls Try.prog 44 #[.slice A l.length c] w fun e w' => e = .returned (.bool (isC l)) ∧ Below w.heap.size w w' := by
  have HR := Lib.hid hr
  clear hr
  go_enter Try.func44, Try.ntmps44
  go_wp2_with fail
  go_loopw [7] (fun i wr => ∃ (k : Nat) (p : Option Un), k ≤ l.length ∧ i = .int .i64 k ∧ isC l = isE p (l.drop k) ∧ Below w.heap.size w wr ∧ (k = 0 ∧ p = none ∨ 0 < k ∧ p = some (l.getD (k - 1) ⟨⟨0, 0⟩, ⟨0, 0⟩, false⟩).frm)) (fun i _ => l.length - (intOf i).toNat)
  case atStart => exact ⟨0, none, Nat.zero_le _, rfl, rfl, Below.refl _ _, .inl ⟨rfl, rfl⟩⟩
  case round =>
    obtain ⟨k, p, hk, rfl, hv, hbl, hp⟩ := hrel
    have Hbl := Lib.hid hbl
    have HV := Lib.hid hv
    have hz := hbl.size
    clear hbl hv
    by_cases hlt : k < l.length
    · obtain ⟨be, oe, rfl, hbe, hqe⟩ := HR.out k (encChoice l[k]) (by simp [hlt])
      replace hqe := fun j v hv => (Hbl.out.cell (p := ⟨be, oe + k * 5 + j, none⟩) hbe).trans (hqe j v hv)
      have e0 := hqe 0 _ rfl
      have e1 := hqe 1 _ rfl
      have e2 := hqe 2 _ rfl
      have e3 := hqe 3 _ rfl
      have e4 := hqe 4 _ rfl
      simp only [Nat.add_zero] at e0
      clear hqe
      have HD := Lib.hid (drop_cons' hlt)
      have hbw : be < wr.heap.size := by omega
      have kl : (k : Int) < (l.length : Int) := by omega
      have WK := Lib.hid (show IntKind.i64.wrap ((k : Int) - 1) = (k : Int) - 1 from IntWalk.i64_in _ (by omega))
      have TK := Lib.hid (show ((k : Int) - 1).toNat = k - 1 from by omega)
      have NX := Lib.hid (show l.getD (k + 1 - 1) ⟨⟨0, 0⟩, ⟨0, 0⟩, false⟩ = l[k] from by rw [Nat.add_sub_cancel, getD_at hlt])
      rcases hp with ⟨k0, hp⟩ | ⟨k0, hp⟩
      · have g0 : decide (0 < k) = false := by simp; omega
        subst hp
        have K0 := Lib.hid k0
        clear k0
        rcases un_test (x := l[k].frm) (u := l[k].too) with he | he | he
        · have HN := Lib.hid (isE_same (p := none) (l := l.drop (k + 1)) he)
          rw [← he] at e2 e3
          clear he
          have wk := WK.out
          have tk := TK.out
          go_wp2_with fail
          go_quiet (fail)
          clear wk tk
          go_wp2_with fail
          go_ret
          exact ⟨by rw [HV.out, HD.out, HN.out]; first | done | rfl, by (have hbl := Hbl.out; (repeat' (first | (with_reducible exact Below.refl _ _) | (with_reducible assumption) | (with_reducible refine Below.alloc ?_ ?_ _) | (with_reducible refine Below.setCell ?_ ?_ _) | (with_reducible refine Below.drew ?_) | (with_reducible refine below_drewN ?_ _) | (with_reducible refine below_via ?_ (by with_reducible assumption) ?_) | omega | (simp; done) | (simp; omega))))⟩
        all_goals
          have HN := Lib.hid (isE_none (x := l[k]) (l := l.drop (k + 1)) (by intro e; rw [e] at he; simp at he))
          have wk := WK.out
          have tk := TK.out
          go_wp2_with fail
          go_quiet (fail)
          clear wk tk
          go_wp2_with fail
          go_roundw
          case rel => exact ⟨k + 1, some l[k].frm, by omega, by go_num, by rw [HV.out, HD.out, HN.out], by (have hbl := Hbl.out; (repeat' (first | (with_reducible exact Below.refl _ _) | (with_reducible assumption) | (with_reducible refine Below.alloc ?_ ?_ _) | (with_reducible refine Below.setCell ?_ ?_ _) | (with_reducible refine Below.drew ?_) | (with_reducible refine below_drewN ?_ _) | (with_reducible refine below_via ?_ (by with_reducible assumption) ?_) | omega | (simp; done) | (simp; omega)))), .inr ⟨by omega, by rw [NX.out]⟩⟩
          case measure => simp [intOf]; omega
      · have g0 : decide (0 < k) = true := by simpa using k0
        have g1 : (0 : Int) ≤ (k : Int) - 1 := by omega
        have g2 : (k : Int) - 1 < (l.length : Int) := by omega
        have g3 : (1 : Int) ≤ (k : Int) := by omega
        have g4 : 1 ≤ k := by omega
        have g5 : (k : Int) < (l.length : Int) + 1 := by omega
        have g6 : k - 1 < l.length := by omega
        have hk1 : k - 1 < l.length := by omega
        rw [getD_at hk1] at hp
        subst hp
        obtain ⟨b1, o1, q1, hb1, hq1⟩ := HR.out (k - 1) (encChoice l[k - 1]) (by simp [hk1])
        injection q1 with q1
        injection q1 with q1 q2 _
        subst q1 q2
        have f0 := (Hbl.out.cell (p := ⟨be, oe + (k - 1) * 5 + 0, none⟩) hbe).trans (hq1 0 _ rfl)
        have f1 := (Hbl.out.cell (p := ⟨be, oe + (k - 1) * 5 + 1, none⟩) hbe).trans (hq1 1 _ rfl)
        simp only [Nat.add_zero] at f0
        obtain ⟨q, hqq⟩ : ∃ q, q = l[k - 1].frm := ⟨_, rfl⟩
        rw [← hqq] at f0 f1 HV
        clear hq1 hqq
        rcases un_test (x := l[k].frm) (u := l[k].too) with he | he | he
        · have HN := Lib.hid (isE_same (p := some q) (l := l.drop (k + 1)) he)
          rw [← he] at e2 e3
          clear he
          have wk := WK.out
          have tk := TK.out
          go_wp2_with fail
          go_quiet (fail)
          clear wk tk
          go_wp2_with fail
          go_ret
          exact ⟨by rw [HV.out, HD.out, HN.out]; first | done | rfl, by (have hbl := Hbl.out; (repeat' (first | (with_reducible exact Below.refl _ _) | (with_reducible assumption) | (with_reducible refine Below.alloc ?_ ?_ _) | (with_reducible refine Below.setCell ?_ ?_ _) | (with_reducible refine Below.drew ?_) | (with_reducible refine below_drewN ?_ _) | (with_reducible refine below_via ?_ (by with_reducible assumption) ?_) | omega | (simp; done) | (simp; omega))))⟩
        all_goals
          have HN := Lib.hid (isE_some (q := q) (x := l[k]) (l := l.drop (k + 1)) (by intro e; rw [e] at he; simp at he))
          cases hm : lessU q l[k].frm
          · have HM := Lib.hid hm
            clear hm
            have wk := WK.out
            have tk := TK.out
            go_wp2_with fail
            go_region_held3 (fun w' => w'.cell? ⟨wr.heap.size, 0, none⟩ = some (.int .i64 l[k].frm.acc) ∧ w'.cell? ⟨wr.heap.size, 1, none⟩ = some (.int .i64 l[k].frm.cli) ∧ w'.cell? ⟨wr.heap.size, 2, none⟩ = some (.int .i64 l[k].too.acc) ∧ w'.cell? ⟨wr.heap.size, 3, none⟩ = some (.int .i64 l[k].too.cli) ∧ w'.cell? ⟨be, oe + (k - 1) * 5, none⟩ = some (.int .i64 q.acc) ∧ w'.cell? ⟨be, oe + (k - 1) * 5 + 1, none⟩ = some (.int .i64 q.cli)) (first | (simp [go_sem]; done) | (repeat' (first | (with_reducible assumption) | (with_reducible refine And.intro ?_ ?_) | (with_reducible refine cell_drew ?_) | (with_reducible refine cell_via (by with_reducible assumption) ?_ ?_) | (simp [*]; done) | (simp [go_sem]; done) | (with_reducible refine cell_alloc ?_ ?_) | (with_reducible refine cell_set_far ?_ ?_) | omega | (simp; omega)))) (first | (go_at_call 74; (with_reducible refine (acctLess q l[k].frm _).mono ?_); rw [HM.out]; rintro e w1 ⟨rfl, hb1⟩; obtain ⟨fc1, fg1, hc1, hf1, hz1⟩ := bget hb1; (try simp at hz1)))
            all_goals
              clear wk tk
              go_wp2_with fail
              go_ret
              exact ⟨by rw [HV.out, HD.out, HN.out, HM.out]; first | done | rfl, by (have hbl := Hbl.out; (repeat' (first | (with_reducible exact Below.refl _ _) | (with_reducible assumption) | (with_reducible refine Below.alloc ?_ ?_ _) | (with_reducible refine Below.setCell ?_ ?_ _) | (with_reducible refine Below.drew ?_) | (with_reducible refine below_drewN ?_ _) | (with_reducible refine below_via ?_ (by with_reducible assumption) ?_) | omega | (simp; done) | (simp; omega))))⟩
          · have HM := Lib.hid hm
            clear hm
            have wk := WK.out
            have tk := TK.out
            go_wp2_with fail
            go_region_held3 (fun w' => w'.cell? ⟨wr.heap.size, 0, none⟩ = some (.int .i64 l[k].frm.acc) ∧ w'.cell? ⟨wr.heap.size, 1, none⟩ = some (.int .i64 l[k].frm.cli) ∧ w'.cell? ⟨wr.heap.size, 2, none⟩ = some (.int .i64 l[k].too.acc) ∧ w'.cell? ⟨wr.heap.size, 3, none⟩ = some (.int .i64 l[k].too.cli) ∧ w'.cell? ⟨be, oe + (k - 1) * 5, none⟩ = some (.int .i64 q.acc) ∧ w'.cell? ⟨be, oe + (k - 1) * 5 + 1, none⟩ = some (.int .i64 q.cli)) (first | (simp [go_sem]; done) | (repeat' (first | (with_reducible assumption) | (with_reducible refine And.intro ?_ ?_) | (with_reducible refine cell_drew ?_) | (with_reducible refine cell_via (by with_reducible assumption) ?_ ?_) | (simp [*]; done) | (simp [go_sem]; done) | (with_reducible refine cell_alloc ?_ ?_) | (with_reducible refine cell_set_far ?_ ?_) | omega | (simp; omega)))) (first | (go_at_call 74; (with_reducible refine (acctLess q l[k].frm _).mono ?_); rw [HM.out]; rintro e w1 ⟨rfl, hb1⟩; obtain ⟨fc1, fg1, hc1, hf1, hz1⟩ := bget hb1; (try simp at hz1)))
            all_goals
              clear wk tk
              go_wp2_with fail
              go_roundw
              case rel => exact ⟨k + 1, some l[k].frm, by omega, by go_num, by rw [HV.out, HD.out, HN.out, HM.out, Bool.true_and], by (have hbl := Hbl.out; (repeat' (first | (with_reducible exact Below.refl _ _) | (with_reducible assumption) | (with_reducible refine Below.alloc ?_ ?_ _) | (with_reducible refine Below.setCell ?_ ?_ _) | (with_reducible refine Below.drew ?_) | (with_reducible refine below_drewN ?_ _) | (with_reducible refine below_via ?_ (by with_reducible assumption) ?_) | omega | (simp; done) | (simp; omega)))), .inr ⟨by omega, by rw [NX.out]⟩⟩
              case measure => simp [intOf]; omega
    · have HD := Lib.hid (drop_all (l := l) (k := k) (by omega))
      go_wp2_with fail
      go_ret
      exact ⟨by rw [HV.out, HD.out]; rfl, Hbl.out⟩
end Go.Proofs.Ytffmljkpbgohkaa
