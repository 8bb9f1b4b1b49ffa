/- Layer 13's laws: lives; InstGains' walk. -/
import Derived.Test.YtpjehhkmdndcmaaInstL1
namespace Go.Proofs.Ytpjehhkmdndcmaa
open Go.RowKit
theorem textB_60 : textB (-60) = ⟨#[45, 54, 48]⟩ := by decide +kernel
theorem rd_ints1 {w : World} {g : Nat} {x : Int} (hg : g < w.heap.size) (h0 : w.cell? ⟨g, 0, none⟩ = some (.int .i64 x)) : Rd w (some ⟨g, 0, none⟩) 1 ([x].map encI) := by
  intro i r hr
  match i, hr with
  | 0, hr =>
    simp at hr
    subst hr
    refine ⟨g, 0, rfl, hg, fun j v hv => ?_⟩
    match j, hv with
    | 0, hv => simp [encI] at hv; subst hv; simpa using h0
set_option maxRecDepth 100000 in
set_option maxHeartbeats 8000000 in
theorem law13lives (w : World) : Calls Try.prog 18 #[] w fun e w' => e = .returned (.bool true) ∧ Below w.heap.size w w' := by
  have c1 := fun g W hg h0 => instGain ⟨1, 10, 0, 0, [-2]⟩ 3 5 7 (some ⟨g, 0, none⟩) 1 W (by unfold In64; omega) (by simp) (rd_ints1 hg h0)
  have c2 := fun g W hg h0 => instShock ⟨1, 10, 0, 0, [-2]⟩ 3 0 (some ⟨g, 0, none⟩) 1 W (by unfold In64; omega) (by simp) (rd_ints1 hg h0)
  have c3 := fun W => wideText (-60) W (by unfold In128; omega)
  rw [show gainN ⟨1, 10, 0, 0, [-2]⟩ 3 5 7 = 60 from by decide +kernel, show gainE ⟨1, 10, 0, 0, [-2]⟩ 3 5 7 = 0 from by decide +kernel] at c1
  rw [show shockI ⟨1, 10, 0, 0, [-2]⟩ 3 0 = -60 from by decide +kernel] at c2
  rw [textB_60] at c3
  generalize whi (-60) = h60 at c2 c3
  generalize wlo (-60) = l60 at c2 c3
  simp only [List.length_singleton] at c1 c2
  have C1 := Lib.hid c1
  have C2 := Lib.hid c2
  have C3 := Lib.hid c3
  clear c1 c2 c3
  go_enter Try.func18, Try.ntmps18
  go_wp2_with (first | (go_at_call 16; (with_reducible refine (C1.out _ _ ?_ ?_).mono ?_); (focus (first | (simp; done) | (simp; omega))); (focus (first | (simp [go_sem]; done) | (simp [go_sem, ↓IntWalk.iteOmega]; done))); rintro e w1 ⟨rfl, hb1⟩; obtain ⟨fc1, fg1, hc1, hf1, hz1⟩ := bget hb1; (try simp at hz1)) | (go_at_call 12; (with_reducible refine (C2.out w.heap.size _ ?_ ?_).mono ?_); (focus (first | omega | (simp; done) | (simp; omega))); (focus (simp [go_sem, hc1, ↓IntWalk.iteOmega]; done)); rintro e w2 ⟨rfl, hb2⟩; obtain ⟨fc2, fg2, hc2, hf2, hz2⟩ := bget hb2; (try simp at hz2)) | (go_at_call 64; (with_reducible refine (C3.out _).mono ?_); rintro e w3 ⟨rfl, hb3⟩; obtain ⟨fc3, fg3, hc3, hf3, hz3⟩ := bget hb3; (try simp at hz3)) | fail)
  all_goals
    go_ret
    exact ⟨rfl, by (repeat' (first | (with_reducible exact Below.refl _ _) | (with_reducible assumption) | (with_reducible refine Below.alloc ?_ ?_ _) | (with_reducible refine Below.setCell ?_ ?_ _) | (with_reducible refine Below.drew ?_) | (with_reducible refine below_drewN ?_ _) | (with_reducible refine below_via ?_ (by with_reducible assumption) ?_) | omega | (simp; done) | (simp; omega)))⟩
end Go.Proofs.Ytpjehhkmdndcmaa
