/- Instruments: contract of inst.Shock. -/
import Derived.Test.YtpjehhkmdndcmaaInst2
namespace Go.Proofs.Ytpjehhkmdndcmaa
open Go.RowKit
theorem shock_no {x : Inst} {q s : Int} (h : ¬ okS x s) : shockI x q s = 0 := if_neg h
set_option maxRecDepth 100000 in
set_option maxHeartbeats 8000000 in
theorem instShockNo (x : Inst) (q s : Int) (A : Option Addr) (c : Nat) (w : World) (hl : x.moves.length ≤ 1099511627776) (hr : Rd w A 1 (x.moves.map encI)) (h : ¬ okS x s) :
    Calls Try.prog 12 #[.agg #[.int .i64 (x).id, .int .i64 (x).mult, .int .i64 (x).price, .int .i64 (x).next, .slice A (x).moves.length c], .int .i64 q, .int .i64 s] w fun e w' => e = .returned (.agg #[.int .i64 0, .int .u64 0]) ∧ Below w.heap.size w w' := by
  have c1 := fun W h => instCheck x A c W hl h
  have HR := Lib.hid hr
  clear hr
  by_cases h1 : okI x
  · rw [codeI_yes h1] at c1
    have C1 := Lib.hid c1
    clear c1
    generalize hn : x.moves.length = n at *
    by_cases h2 : s < 0
    · have d2 : decide (s < 0) = true := by simpa using h2
      clear h h1 hn
      go_enter Try.func12, Try.ntmps12
      go_wp2_with (first | (go_at_call 36; (with_reducible refine (C1.out _ (HR.out.keep (by (repeat' (first | (with_reducible exact Below.refl _ _) | (with_reducible assumption) | (with_reducible refine Below.alloc ?_ ?_ _) | (with_reducible refine Below.setCell ?_ ?_ _) | (with_reducible refine Below.drew ?_) | (with_reducible refine below_drewN ?_ _) | (with_reducible refine below_via ?_ (by with_reducible assumption) ?_) | omega | (simp; done) | (simp; omega)))))).mono ?_); rintro e w1 ⟨rfl, hb1⟩; obtain ⟨fc1, fg1, hc1, hf1, hz1⟩ := bget hb1; (try simp at hz1)) | fail)
      all_goals
        refine bodyPost_ret (by simp [results, Try.results12, go_sem, hc1]; try rfl) rfl ⟨rfl, ?_⟩
        (repeat' (first | (with_reducible exact Below.refl _ _) | (with_reducible assumption) | (with_reducible refine Below.alloc ?_ ?_ _) | (with_reducible refine Below.setCell ?_ ?_ _) | (with_reducible refine Below.drew ?_) | (with_reducible refine below_drewN ?_ _) | (with_reducible refine below_via ?_ (by with_reducible assumption) ?_) | omega | (simp; done) | (simp; omega)))
    · have d2 : decide (s < 0) = false := by simpa using h2
      have d3 : decide ((n : Int) ≤ s) = true := by
        rw [← hn]
        rw [decide_eq_true_iff]
        by_cases h3 : s < (x.moves.length : Int)
        · exact absurd ⟨h1, by omega, h3⟩ h
        · omega
      clear h h1 hn
      go_enter Try.func12, Try.ntmps12
      go_wp2_with (first | (go_at_call 36; (with_reducible refine (C1.out _ (HR.out.keep (by (repeat' (first | (with_reducible exact Below.refl _ _) | (with_reducible assumption) | (with_reducible refine Below.alloc ?_ ?_ _) | (with_reducible refine Below.setCell ?_ ?_ _) | (with_reducible refine Below.drew ?_) | (with_reducible refine below_drewN ?_ _) | (with_reducible refine below_via ?_ (by with_reducible assumption) ?_) | omega | (simp; done) | (simp; omega)))))).mono ?_); rintro e w1 ⟨rfl, hb1⟩; obtain ⟨fc1, fg1, hc1, hf1, hz1⟩ := bget hb1; (try simp at hz1)) | fail)
      all_goals
        refine bodyPost_ret (by simp [results, Try.results12, go_sem, hc1]; try rfl) rfl ⟨rfl, ?_⟩
        (repeat' (first | (with_reducible exact Below.refl _ _) | (with_reducible assumption) | (with_reducible refine Below.alloc ?_ ?_ _) | (with_reducible refine Below.setCell ?_ ?_ _) | (with_reducible refine Below.drew ?_) | (with_reducible refine below_drewN ?_ _) | (with_reducible refine below_via ?_ (by with_reducible assumption) ?_) | omega | (simp; done) | (simp; omega)))
  · rw [codeI_no h1] at c1
    have C1 := Lib.hid c1
    clear c1 h h1
    go_enter Try.func12, Try.ntmps12
    go_wp2_with (first | (go_at_call 36; (with_reducible refine (C1.out _ (HR.out.keep (by (repeat' (first | (with_reducible exact Below.refl _ _) | (with_reducible assumption) | (with_reducible refine Below.alloc ?_ ?_ _) | (with_reducible refine Below.setCell ?_ ?_ _) | (with_reducible refine Below.drew ?_) | (with_reducible refine below_drewN ?_ _) | (with_reducible refine below_via ?_ (by with_reducible assumption) ?_) | omega | (simp; done) | (simp; omega)))))).mono ?_); rintro e w1 ⟨rfl, hb1⟩; obtain ⟨fc1, fg1, hc1, hf1, hz1⟩ := bget hb1; (try simp at hz1)) | fail)
    all_goals
      refine bodyPost_ret (by simp [results, Try.results12, go_sem, hc1]; try rfl) rfl ⟨rfl, ?_⟩
      (repeat' (first | (with_reducible exact Below.refl _ _) | (with_reducible assumption) | (with_reducible refine Below.alloc ?_ ?_ _) | (with_reducible refine Below.setCell ?_ ?_ _) | (with_reducible refine Below.drew ?_) | (with_reducible refine below_drewN ?_ _) | (with_reducible refine below_via ?_ (by with_reducible assumption) ?_) | omega | (simp; done) | (simp; omega)))
set_option maxRecDepth 100000 in
set_option maxHeartbeats 8000000 in
theorem instShockYes (x : Inst) (q : Int) (k : Nat) (A : Option Addr) (c : Nat) (w : World) (hq : In64 q) (hr : Rd w A 1 (x.moves.map encI)) (hk : k < x.moves.length) (h : okI x) :
    Calls Try.prog 12 #[.agg #[.int .i64 (x).id, .int .i64 (x).mult, .int .i64 (x).price, .int .i64 (x).next, .slice A (x).moves.length c], .int .i64 q, .int .i64 k] w fun e w' => e = .returned (.agg #[.int .i64 (whi (x.moves[k] * x.mult * q)), .int .u64 (wlo (x.moves[k] * x.mult * q))]) ∧ Below w.heap.size w w' := by
  have hl8 := h.2.2.2.2.2.2.1
  have c1 := fun W h => instCheck x A c W (by omega) h
  have HR := Lib.hid hr
  rw [codeI_yes h] at c1
  have C1 := Lib.hid c1
  have hm := h.2.2
  obtain ⟨b, o, rfl, hb, hcm⟩ := hr k (encI x.moves[k]) (by simp [hk])
  have e0 := hcm 0 _ rfl
  have hmv := okI_move h hk
  generalize x.moves[k] = m at *
  have i1 : In64 m := by unfold In64; omega
  have i2 : In64 x.mult := by unfold In64; omega
  have e1 := mul_le_of (a := m) (b := x.mult) (A := 2147483647) (B := 65536) (by omega) (by omega) 140737488289792 (by omega)
  have i3 : In64 (m * x.mult) := by unfold In64; omega
  have d2 : decide ((k : Int) < 0) = false := by simp
  have hkn : (k : Int) < (x.moves.length : Int) := by omega
  have d3 : decide ((x.moves.length : Int) ≤ (k : Int)) = false := by simp; omega
  have hln : x.moves.length ≤ 8 := hm.2.2.2.2.1
  simp at e0
  have c2 := fun g W hg h0 h1 => fixProd2 m x.mult g W i1 i2 hg h0 h1
  rw [(okN_yes i3).1, (okN_yes i3).2] at c2
  have c3 := fun W => wideMul (m * x.mult) q W i3 hq
  generalize m * x.mult * q = g3 at *
  generalize m * x.mult = g2 at *
  generalize x.moves.length = n at *
  have C2 := Lib.hid c2
  have C3 := Lib.hid c3
  clear c1 c2 c3 h hm hr hcm e1 i1 i2 i3 hmv
  go_enter Try.func12, Try.ntmps12
  go_wp2_with (first | (go_at_call 36; (with_reducible refine (C1.out _ (HR.out.keep (by (repeat' (first | (with_reducible exact Below.refl _ _) | (with_reducible assumption) | (with_reducible refine Below.alloc ?_ ?_ _) | (with_reducible refine Below.setCell ?_ ?_ _) | (with_reducible refine Below.drew ?_) | (with_reducible refine below_drewN ?_ _) | (with_reducible refine below_via ?_ (by with_reducible assumption) ?_) | omega | (simp; done) | (simp; omega)))))).mono ?_); rintro e w1 ⟨rfl, hb1⟩; obtain ⟨fc1, fg1, hc1, hf1, hz1⟩ := bget hb1; (try simp at hz1)) | fail)
  go_region_held3 (fun w' => (w'.cell? ⟨w.heap.size, 1, none⟩ = some (.int .i64 x.mult) ∧ w'.cell? ⟨w.heap.size, 4, none⟩ = some (.slice (some ⟨b, o, none⟩) n c)) ∧ w'.cell? ⟨b, o + k, none⟩ = some (.int .i64 m)) (first | (simp [go_sem]; done) | (repeat' (first | (with_reducible assumption) | (with_reducible refine And.intro ?_ ?_) | (with_reducible refine cell_drew ?_) | (with_reducible refine cell_via (by with_reducible assumption) ?_ ?_) | (simp [*]; done) | (simp [go_sem]; done) | (with_reducible refine cell_alloc ?_ ?_) | (with_reducible refine cell_set_far ?_ ?_) | omega | (simp; omega)))) (first | (go_at_call 56; (with_reducible refine (C2.out _ _ ?_ ?_ ?_).mono ?_); (focus (first | (simp; done) | (simp; omega))); (focus (first | (simp [go_sem]; done) | (simp [go_sem, ↓IntWalk.iteOmega]; done))); (focus (first | (simp [go_sem]; done) | (simp [go_sem, ↓IntWalk.iteOmega]; done))); rintro e w2 ⟨rfl, hb2⟩; obtain ⟨fc2, fg2, hc2, hf2, hz2⟩ := bget hb2; (try simp at hz2)) | fail)
  all_goals
    go_wp2_with (first | (go_at_call 57; (with_reducible refine (C3.out _).mono ?_); rintro e w3 ⟨rfl, hb3⟩; obtain ⟨fc3, fg3, hc3, hf3, hz3⟩ := bget hb3; (try simp at hz3)) | fail)
    refine bodyPost_ret (by simp [results, Try.results12, go_sem, hc1, hc2, hc3, ↓IntWalk.iteOmega]; try rfl) rfl ⟨rfl, ?_⟩
    (repeat' (first | (with_reducible exact Below.refl _ _) | (with_reducible assumption) | (with_reducible refine Below.alloc ?_ ?_ _) | (with_reducible refine Below.setCell ?_ ?_ _) | (with_reducible refine Below.drew ?_) | (with_reducible refine below_drewN ?_ _) | (with_reducible refine below_via ?_ (by with_reducible assumption) ?_) | omega | (simp; done) | (simp; omega)))
end Go.Proofs.Ytpjehhkmdndcmaa
