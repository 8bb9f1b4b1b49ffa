/- Instruments: the contract of inst.Shock whole; of the reference's Shock; the law's short, lives. -/
import Derived.Test.YtpjehhkmdndcmaaRef13
import Derived.Test.YtpjehhkmdndcmaaWide8
namespace Go.Proofs.Ytpjehhkmdndcmaa
open Go.RowKit
theorem shock_yes {x : Inst} {q : Int} {k : Nat} (h : okI x) (hk : k < x.moves.length) : shockI x q k = x.moves[k] * x.mult * q := by
  unfold shockI
  rw [if_pos ⟨h, by omega, by omega⟩, Int.toNat_natCast, getD_at hk, Int.mul_comm q, Int.mul_comm (x.mult * q), Int.mul_assoc]
theorem okS_nat {x : Inst} {s : Int} (h : okS x s) : ∃ k : Nat, s = k ∧ k < x.moves.length := ⟨s.toNat, by have := h.2; omega, by have := h.2; omega⟩
theorem shock_in {x : Inst} {q s : Int} (hq : In64 q) : In128 (shockI x q s) := by
  by_cases h : okS x s
  · obtain ⟨k, rfl, hk⟩ := okS_nat h
    rw [shock_yes h.1 hk]
    have hmv := okI_move h.1 hk
    have hm := h.1.2.2
    have e1 := mul_le_of (a := x.moves[k]) (b := x.mult) (A := 2147483647) (B := 65536) (by omega) (by omega) 140737488289792 (by omega)
    have e2 := mul_le_of (a := x.moves[k] * x.mult) (b := q) (A := 140737488355328) (B := 9223372036854775808) (by omega) (by unfold In64 at hq; omega) 1298074214633706907132624082305024 (by omega)
    unfold In128; omega
  · rw [shock_no h]; unfold In128; omega
theorem instShock (x : Inst) (q s : Int) (A : Option Addr) (c : Nat) (w : World) (hq : In64 q) (hl : x.moves.length ≤ 1099511627776) (hr : Rd w A 1 (x.moves.map encI)) :
    Calls Try.prog 12 #[.agg #[.int .i64 (x).id, .int .i64 (x).mult, .int .i64 (x).price, .int .i64 (x).next, .slice A (x).moves.length c], .int .i64 q, .int .i64 s] w fun e w' => e = .returned (.agg #[.int .i64 (whi (shockI x q s)), .int .u64 (wlo (shockI x q s))]) ∧ Below w.heap.size w w' := by
  by_cases h : okS x s
  · obtain ⟨k, rfl, hk⟩ := okS_nat h
    rw [shock_yes h.1 hk]
    exact instShockYes x q k A c w hq hr hk h.1
  · rw [shock_no h, whi_zero, wlo_zero]
    exact instShockNo x q s A c w hl hr h
set_option maxRecDepth 100000 in
set_option maxHeartbeats 8000000 in
theorem ref13ShockNo (x : Inst) (q s : Int) (A : Option Addr) (c : Nat) (w : World) (hl : x.moves.length ≤ 1099511627776) (hr : Rd w A 1 (x.moves.map encI)) (h : ¬ okS x s) :
    Calls Try.prog 15 #[.agg #[.int .i64 (x).id, .int .i64 (x).mult, .int .i64 (x).price, .int .i64 (x).next, .slice A (x).moves.length c], .int .i64 q, .int .i64 s] w (BigPost w 0 300) := by
  have c1 := fun W h => ref13Is x A c W hl h
  have HR := Lib.hid hr
  clear hr
  by_cases h1 : okI x
  · rw [decide_eq_true h1] at c1
    have C1 := Lib.hid c1
    clear c1
    generalize hn : x.moves.length = n at *
    by_cases h2 : s < 0
    · have d2 : decide (s < 0) = true := by simpa using h2
      clear h h1 hn
      go_enter Try.func15, Try.ntmps15
      go_wp2_with (first | (go_at_call 17; (with_reducible refine (C1.out _ (HR.out.keep (by (repeat' (first | (with_reducible exact Below.refl _ _) | (with_reducible assumption) | (with_reducible refine Below.alloc ?_ ?_ _) | (with_reducible refine Below.setCell ?_ ?_ _) | (with_reducible refine Below.drew ?_) | (with_reducible refine below_drewN ?_ _) | (with_reducible refine below_via ?_ (by with_reducible assumption) ?_) | omega | (simp; done) | (simp; omega)))))).mono ?_); rintro e w1 ⟨rfl, hb1⟩; obtain ⟨fc1, fg1, hc1, hf1, hz1⟩ := bget hb1; (try simp at hz1)) | fail)
      all_goals
        refine bigRet (s := false) (A := none) (l := []) (c := 0) rfl rfl rfl ?_ ?_ isBig_nil2 (by simp) ?_
        · (first | (simp [go_sem, *]; done) | (simp [go_sem, *, ↓IntWalk.iteOmega]; done))
        · (first | (simp [go_sem, *]; done) | (simp [go_sem, *, ↓IntWalk.iteOmega]; done))
        · (repeat' (first | (with_reducible exact Below.refl _ _) | (with_reducible assumption) | (with_reducible refine Below.alloc ?_ ?_ _) | (with_reducible refine Below.setCell ?_ ?_ _) | (with_reducible refine Below.drew ?_) | (with_reducible refine below_drewN ?_ _) | (with_reducible refine below_via ?_ (by with_reducible assumption) ?_) | omega | (simp; done) | (simp; omega)))
    · have d2 : decide (s < 0) = false := by simpa using h2
      have d3 : decide ((n : Int) ≤ s) = true := by
        rw [← hn]
        rw [decide_eq_true_iff]
        by_cases h3 : s < (x.moves.length : Int)
        · exact absurd ⟨h1, by omega, h3⟩ h
        · omega
      clear h h1 hn
      go_enter Try.func15, Try.ntmps15
      go_wp2_with (first | (go_at_call 17; (with_reducible refine (C1.out _ (HR.out.keep (by (repeat' (first | (with_reducible exact Below.refl _ _) | (with_reducible assumption) | (with_reducible refine Below.alloc ?_ ?_ _) | (with_reducible refine Below.setCell ?_ ?_ _) | (with_reducible refine Below.drew ?_) | (with_reducible refine below_drewN ?_ _) | (with_reducible refine below_via ?_ (by with_reducible assumption) ?_) | omega | (simp; done) | (simp; omega)))))).mono ?_); rintro e w1 ⟨rfl, hb1⟩; obtain ⟨fc1, fg1, hc1, hf1, hz1⟩ := bget hb1; (try simp at hz1)) | fail)
      all_goals
        refine bigRet (s := false) (A := none) (l := []) (c := 0) rfl rfl rfl ?_ ?_ isBig_nil2 (by simp) ?_
        · (first | (simp [go_sem, *]; done) | (simp [go_sem, *, ↓IntWalk.iteOmega]; done))
        · (first | (simp [go_sem, *]; done) | (simp [go_sem, *, ↓IntWalk.iteOmega]; done))
        · (repeat' (first | (with_reducible exact Below.refl _ _) | (with_reducible assumption) | (with_reducible refine Below.alloc ?_ ?_ _) | (with_reducible refine Below.setCell ?_ ?_ _) | (with_reducible refine Below.drew ?_) | (with_reducible refine below_drewN ?_ _) | (with_reducible refine below_via ?_ (by with_reducible assumption) ?_) | omega | (simp; done) | (simp; omega)))
  · rw [decide_eq_false h1] at c1
    have C1 := Lib.hid c1
    clear c1 h h1
    go_enter Try.func15, Try.ntmps15
    go_wp2_with (first | (go_at_call 17; (with_reducible refine (C1.out _ (HR.out.keep (by (repeat' (first | (with_reducible exact Below.refl _ _) | (with_reducible assumption) | (with_reducible refine Below.alloc ?_ ?_ _) | (with_reducible refine Below.setCell ?_ ?_ _) | (with_reducible refine Below.drew ?_) | (with_reducible refine below_drewN ?_ _) | (with_reducible refine below_via ?_ (by with_reducible assumption) ?_) | omega | (simp; done) | (simp; omega)))))).mono ?_); rintro e w1 ⟨rfl, hb1⟩; obtain ⟨fc1, fg1, hc1, hf1, hz1⟩ := bget hb1; (try simp at hz1)) | fail)
    all_goals
      refine bigRet (s := false) (A := none) (l := []) (c := 0) rfl rfl rfl ?_ ?_ isBig_nil2 (by simp) ?_
      · (first | (simp [go_sem, *]; done) | (simp [go_sem, *, ↓IntWalk.iteOmega]; done))
      · (first | (simp [go_sem, *]; done) | (simp [go_sem, *, ↓IntWalk.iteOmega]; done))
      · (repeat' (first | (with_reducible exact Below.refl _ _) | (with_reducible assumption) | (with_reducible refine Below.alloc ?_ ?_ _) | (with_reducible refine Below.setCell ?_ ?_ _) | (with_reducible refine Below.drew ?_) | (with_reducible refine below_drewN ?_ _) | (with_reducible refine below_via ?_ (by with_reducible assumption) ?_) | omega | (simp; done) | (simp; omega)))
set_option maxRecDepth 100000 in
set_option maxHeartbeats 8000000 in
theorem ref13ShockYes (x : Inst) (q : Int) (k : Nat) (A : Option Addr) (c : Nat) (w : World) (hq : In64 q) (hr : Rd w A 1 (x.moves.map encI)) (hk : k < x.moves.length) (h : okI x) :
    Calls Try.prog 15 #[.agg #[.int .i64 (x).id, .int .i64 (x).mult, .int .i64 (x).price, .int .i64 (x).next, .slice A (x).moves.length c], .int .i64 q, .int .i64 k] w (BigPost w (q * x.mult * x.moves[k]) 300) := by
  have hl8 := h.2.2.2.2.2.2.1
  have c1 := fun W h => ref13Is x A c W (by omega) h
  have HR := Lib.hid hr
  rw [decide_eq_true h] at c1
  have C1 := Lib.hid c1
  have hm := h.2.2
  obtain ⟨b, o, rfl, hb, hcm⟩ := hr k (encI x.moves[k]) (by simp [hk])
  have e0 := hcm 0 _ rfl
  have hmv := okI_move h hk
  generalize x.moves[k] = m at *
  have i1 : In64 m := by unfold In64; omega
  have i2 : In64 x.mult := by unfold In64; omega
  have d2 : decide ((k : Int) < 0) = false := by simp
  have hkn : (k : Int) < (x.moves.length : Int) := by omega
  have d3 : decide ((x.moves.length : Int) ≤ (k : Int)) = false := by simp; omega
  simp at e0
  generalize x.moves.length = n at *
  clear c1 h hm hr hcm hmv
  go_enter Try.func15, Try.ntmps15
  go_wp2_with (first | (go_at_call 17; (with_reducible refine (C1.out _ (HR.out.keep (by (repeat' (first | (with_reducible exact Below.refl _ _) | (with_reducible assumption) | (with_reducible refine Below.alloc ?_ ?_ _) | (with_reducible refine Below.setCell ?_ ?_ _) | (with_reducible refine Below.drew ?_) | (with_reducible refine below_drewN ?_ _) | (with_reducible refine below_via ?_ (by with_reducible assumption) ?_) | omega | (simp; done) | (simp; omega)))))).mono ?_); rintro e w1 ⟨rfl, hb1⟩; obtain ⟨fc1, fg1, hc1, hf1, hz1⟩ := bget hb1; (try simp at hz1)) | fail)
  go_region_held3 (fun w' => (w'.cell? ⟨w.heap.size, 1, none⟩ = some (.int .i64 x.mult) ∧ w'.cell? ⟨w.heap.size, 4, none⟩ = some (.slice (some ⟨b, o, none⟩) n c)) ∧ w'.cell? ⟨b, o + k, none⟩ = some (.int .i64 m)) (first | (simp [go_sem]; done) | (repeat' (first | (with_reducible assumption) | (with_reducible refine And.intro ?_ ?_) | (with_reducible refine cell_drew ?_) | (with_reducible refine cell_via (by with_reducible assumption) ?_ ?_) | (simp [*]; done) | (simp [go_sem]; done) | (with_reducible refine cell_alloc ?_ ?_) | (with_reducible refine cell_set_far ?_ ?_) | omega | (simp; omega)))) (first | (go_at_call 22; (with_reducible refine (bigOf q _ hq).mono ?_); rintro e w2 ⟨s2, A2, l2, c2, rfl, hB2, hl2, hb2⟩; have HB2 := Lib.hid hB2; clear hB2; obtain ⟨fc2, fg2, hc2, hf2, hz2⟩ := bget hb2; (try simp at hz2)) | (go_at_call 22; (with_reducible refine (bigOf x.mult _ i2).mono ?_); rintro e w3 ⟨s3, A3, l3, c3, rfl, hB3, hl3, hb3⟩; have HB3 := Lib.hid hB3; clear hB3; obtain ⟨fc3, fg3, hc3, hf3, hz3⟩ := bget hb3; (try simp at hz3)) | (go_at_call 59; (with_reducible refine (bigMul q x.mult s2 s3 l2 l3 A2 A3 c2 c3 65 _ (by omega) hl2 hl3 (HB2.out.keep (by (repeat' (first | (with_reducible exact Below.refl _ _) | (with_reducible assumption) | (with_reducible refine Below.alloc ?_ ?_ _) | (with_reducible refine Below.setCell ?_ ?_ _) | (with_reducible refine Below.drew ?_) | (with_reducible refine below_drewN ?_ _) | (with_reducible refine below_via ?_ (by with_reducible assumption) ?_) | omega | (simp; done) | (simp; omega))))) (HB3.out.keep (by (repeat' (first | (with_reducible exact Below.refl _ _) | (with_reducible assumption) | (with_reducible refine Below.alloc ?_ ?_ _) | (with_reducible refine Below.setCell ?_ ?_ _) | (with_reducible refine Below.drew ?_) | (with_reducible refine below_drewN ?_ _) | (with_reducible refine below_via ?_ (by with_reducible assumption) ?_) | omega | (simp; done) | (simp; omega)))))).mono ?_); rintro e w4 ⟨s4, A4, l4, c4, rfl, hB4, hl4, hb4⟩; have HB4 := Lib.hid hB4; clear hB4; obtain ⟨fc4, fg4, hc4, hf4, hz4⟩ := bget hb4; (try simp at hz4)) | (go_at_call 22; (with_reducible refine (bigOf m _ i1).mono ?_); rintro e w5 ⟨s5, A5, l5, c5, rfl, hB5, hl5, hb5⟩; have HB5 := Lib.hid hB5; clear hB5; obtain ⟨fc5, fg5, hc5, hf5, hz5⟩ := bget hb5; (try simp at hz5)) | (go_at_call 59; (with_reducible refine (bigMul (q * x.mult) m s4 s5 l4 l5 A4 A5 c4 c5 130 _ (by omega) (by omega) (by omega) (HB4.out.keep (by (repeat' (first | (with_reducible exact Below.refl _ _) | (with_reducible assumption) | (with_reducible refine Below.alloc ?_ ?_ _) | (with_reducible refine Below.setCell ?_ ?_ _) | (with_reducible refine Below.drew ?_) | (with_reducible refine below_drewN ?_ _) | (with_reducible refine below_via ?_ (by with_reducible assumption) ?_) | omega | (simp; done) | (simp; omega))))) (HB5.out.keep (by (repeat' (first | (with_reducible exact Below.refl _ _) | (with_reducible assumption) | (with_reducible refine Below.alloc ?_ ?_ _) | (with_reducible refine Below.setCell ?_ ?_ _) | (with_reducible refine Below.drew ?_) | (with_reducible refine below_drewN ?_ _) | (with_reducible refine below_via ?_ (by with_reducible assumption) ?_) | omega | (simp; done) | (simp; omega)))))).mono ?_); rintro e w6 ⟨s6, A6, l6, c6, rfl, hB6, hl6, hb6⟩; have HB6 := Lib.hid hB6; clear hB6; obtain ⟨fc6, fg6, hc6, hf6, hz6⟩ := bget hb6; (try simp at hz6)) | fail)
  all_goals
    go_wp2_with fail
    refine bigRet rfl rfl rfl ?_ ?_ ?_ (by omega) ?_
    · (first | (simp [go_sem, *]; done) | (simp [go_sem, *, ↓IntWalk.iteOmega]; done))
    · (first | (simp [go_sem, *]; done) | (simp [go_sem, *, ↓IntWalk.iteOmega]; done))
    · (repeat' (first | (focus ((refine (HB6.out).keep ?_); (repeat' (first | (with_reducible exact Below.refl _ _) | (with_reducible assumption) | (with_reducible refine Below.alloc ?_ ?_ _) | (with_reducible refine Below.setCell ?_ ?_ _) | (with_reducible refine Below.drew ?_) | (with_reducible refine below_drewN ?_ _) | (with_reducible refine below_via ?_ (by with_reducible assumption) ?_) | omega | (simp; done) | (simp; omega))); done)) | (refine IsBig.far (v0 := .slice none 0 0) ?_ ?_ ?_ _; rotate_left; (focus (first | (simp [go_sem, *]; done) | (simp [go_sem, *, ↓IntWalk.iteOmega]; done))); (focus (simp; done))) | (refine IsBig.far (v0 := .bool false) ?_ ?_ ?_ _; rotate_left; (focus (first | (simp [go_sem, *]; done) | (simp [go_sem, *, ↓IntWalk.iteOmega]; done))); (focus (simp; done))) | fail))
    · (repeat' (first | (with_reducible exact Below.refl _ _) | (with_reducible assumption) | (with_reducible refine Below.alloc ?_ ?_ _) | (with_reducible refine Below.setCell ?_ ?_ _) | (with_reducible refine Below.drew ?_) | (with_reducible refine below_drewN ?_ _) | (with_reducible refine below_via ?_ (by with_reducible assumption) ?_) | omega | (simp; done) | (simp; omega)))
theorem ref13Shock (x : Inst) (q s : Int) (A : Option Addr) (c : Nat) (w : World) (hq : In64 q) (hl : x.moves.length ≤ 1099511627776) (hr : Rd w A 1 (x.moves.map encI)) :
    Calls Try.prog 15 #[.agg #[.int .i64 (x).id, .int .i64 (x).mult, .int .i64 (x).price, .int .i64 (x).next, .slice A (x).moves.length c], .int .i64 q, .int .i64 s] w (BigPost w (shockI x q s) 300) := by
  by_cases h : okS x s
  · obtain ⟨k, rfl, hk⟩ := okS_nat h
    rw [shock_yes h.1 hk]
    have e : x.moves[k] * x.mult * q = q * x.mult * x.moves[k] := by rw [Int.mul_comm _ q, Int.mul_comm x.moves[k], Int.mul_assoc]
    rw [e]
    exact ref13ShockYes x q k A c w hq hr hk h.1
  · rw [shock_no h]
    exact ref13ShockNo x q s A c w hl hr h
/-- An instrument of 12 moves at most. -/
def shortI (x : Inst) : Inst := { x with moves := x.moves.take 12 }
theorem rd_takeI {w : World} {A : Option Addr} {l : List Int} (h : Rd w A 1 (l.map encI)) (k : Nat) : Rd w A 1 ((l.take k).map encI) := by
  intro i r hr
  rw [List.map_take, List.getElem?_take] at hr
  split at hr
  · exact h i r hr
  · cases hr
set_option maxRecDepth 100000 in
set_option maxHeartbeats 8000000 in
theorem law13short (x y : Inst) (A : Option Addr) (c : Nat) (w : World) (hy : y = shortI x) (hlc : x.moves.length ≤ c) (hcm : c ≤ maxLen) (hr : Rd w A 1 (x.moves.map encI)) :
    Calls Try.prog 11 #[.agg #[.int .i64 (x).id, .int .i64 (x).mult, .int .i64 (x).price, .int .i64 (x).next, .slice A (x).moves.length c]] w fun e w' => e = .returned (.agg #[.int .i64 (y).id, .int .i64 (y).mult, .int .i64 (y).price, .int .i64 (y).next, .slice A (y).moves.length c]) ∧ Below w.heap.size w w' := by
  unfold maxLen at hcm
  obtain ⟨n, hn⟩ : ∃ n, n = x.moves.length := ⟨_, rfl⟩
  obtain ⟨m, hm⟩ : ∃ m, m = y.moves.length := ⟨_, rfl⟩
  have e1 : y.id = x.id ∧ y.mult = x.mult ∧ y.price = x.price ∧ y.next = x.next := by subst hy; exact ⟨rfl, rfl, rfl, rfl⟩
  have e2 : m = min 12 n := by rw [hm, hn, hy]; simp [shortI]
  rw [e1.1, e1.2.1, e1.2.2.1, e1.2.2.2, ← hm, ← hn]
  rw [← hn] at hlc
  by_cases h : 12 < n
  · have e3 : m = 12 := by omega
    rw [e3]
    have d1 : decide (12 < (n : Int)) = true := by simp; omega
    obtain ⟨b, o, rfl, hq⟩ := hr 0 (encI (x.moves[0]'(by omega))) (by rw [List.getElem?_map, List.getElem?_eq_getElem (by omega)]; rfl)
    clear hq hr hn hm hy e1 e2 e3
    go_enter Try.func11, Try.ntmps11
    go_wp2_with fail
    all_goals
      refine bodyPost_ret (by simp [results, Try.results11, go_sem, ]; try rfl) rfl ⟨rfl, ?_⟩
      (repeat' (first | (with_reducible exact Below.refl _ _) | (with_reducible assumption) | (with_reducible refine Below.alloc ?_ ?_ _) | (with_reducible refine Below.setCell ?_ ?_ _) | (with_reducible refine Below.drew ?_) | (with_reducible refine below_drewN ?_ _) | (with_reducible refine below_via ?_ (by with_reducible assumption) ?_) | omega | (simp; done) | (simp; omega)))
  · have e3 : m = n := by omega
    rw [e3]
    have d1 : decide (12 < (n : Int)) = false := by simp; omega
    clear hr hn hm hy e1 e2 e3
    go_enter Try.func11, Try.ntmps11
    go_wp2_with fail
    all_goals
      refine bodyPost_ret (by simp [results, Try.results11, go_sem, ]; try rfl) rfl ⟨rfl, ?_⟩
      (repeat' (first | (with_reducible exact Below.refl _ _) | (with_reducible assumption) | (with_reducible refine Below.alloc ?_ ?_ _) | (with_reducible refine Below.setCell ?_ ?_ _) | (with_reducible refine Below.drew ?_) | (with_reducible refine below_drewN ?_ _) | (with_reducible refine below_via ?_ (by with_reducible assumption) ?_) | omega | (simp; done) | (simp; omega)))
end Go.Proofs.Ytpjehhkmdndcmaa
