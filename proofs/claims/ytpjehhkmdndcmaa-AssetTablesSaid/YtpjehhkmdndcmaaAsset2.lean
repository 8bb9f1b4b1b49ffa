/- Assets: asset.Worth, Count, Sell, and the reference's. -/
import Derived.Test.YtpjehhkmdndcmaaAsset1
import Derived.Test.YtpjehhkmdndcmaaLawF3
import Derived.Test.YtpjehhkmdndcmaaLawF5
namespace Go.Proofs.Ytpjehhkmdndcmaa
open Go.RowKit
theorem rd_ints2 {w : World} {g : Nat} {x y : Int} (hg : g < w.heap.size) (h0 : w.cell? ⟨g, 0, none⟩ = some (.int .i64 x)) (h1 : w.cell? ⟨g, 1, none⟩ = some (.int .i64 y)) : Rd w (some ⟨g, 0, none⟩) 1 ([x, y].map encI) := by
  intro i r hr
  match i, hr with
  | 0, hr =>
    simp at hr
    subst hr
    refine ⟨g, 0, rfl, hg, fun j v hv => ?_⟩
    match j, hv with
    | 0, hv => simp [encI] at hv; subst hv; simpa using h0
  | 1, hr =>
    simp at hr
    subst hr
    refine ⟨g, 0, rfl, hg, fun j v hv => ?_⟩
    match j, hv with
    | 0, hv => simp [encI] at hv; subst hv; simpa using h1
theorem pr2 {x y : Int} (hx : In64 x) : prN [x, y] = okN (x * y) ∧ prE [x, y] = okE (x * y) := by
  have e : prodF 1 [x, y] = if in64 (x * y) then some (x * y) else none := by
    have h1 : in64 (1 * x) = true := in64_iff.2 (by rw [Int.one_mul]; exact hx)
    unfold prodF
    rw [if_pos h1, Int.one_mul]
    rfl
  unfold prN prE okN okE
  rw [e]
  by_cases h : in64 (x * y) = true
  · rw [if_pos h, if_pos h, if_pos h]; exact ⟨rfl, rfl⟩
  · rw [if_neg h, if_neg h, if_neg h]; exact ⟨rfl, rfl⟩
theorem fixProd2 (x y : Int) (g : Nat) (w : World) (hx : In64 x) (hy : In64 y) (hg : g < w.heap.size) (h0 : w.cell? ⟨g, 0, none⟩ = some (.int .i64 x)) (h1 : w.cell? ⟨g, 1, none⟩ = some (.int .i64 y)) :
    Calls Try.prog 56 #[.slice (some ⟨g, 0, none⟩) 2 2] w fun e w' => e = .returned (.tuple #[.int .i64 (okN (x * y)), .int .i64 (okE (x * y))]) ∧ Below w.heap.size w w' := by
  have h := fixProduct [x, y] (some ⟨g, 0, none⟩) 2 w (by simp) (by intro n hn; simp at hn; rcases hn with rfl | rfl <;> assumption) (rd_ints2 hg h0 h1)
  rw [(pr2 hx).1, (pr2 hx).2] at h
  exact h
theorem okA_in {x : Asset} (h : okA x) : In64 x.price ∧ In64 (10000 - x.hair) := by
  unfold okA at h; unfold In64; omega
def worthN (x : Asset) (q : Int) : Int := if okA x then okN (q * x.price) else 0
def worthE (x : Asset) (q : Int) : Int := if okA x then okE (q * x.price) else 2
set_option maxRecDepth 100000 in
set_option maxHeartbeats 4000000 in
theorem assetWorth (x : Asset) (q : Int) (w : World) (hq : In64 q) : Calls Try.prog 25 #[.agg #[.int .i64 x.id, .int .i64 x.price, .int .i64 x.hair], .int .i64 q] w fun e w' => e = .returned (.tuple #[.int .i64 (worthN x q), .int .i64 (worthE x q)]) ∧ Below w.heap.size w w' := by
  have c1 := fun W => assetCheck x W
  by_cases h : okA x
  · rw [show worthN x q = okN (q * x.price) from if_pos h, show worthE x q = okE (q * x.price) from if_pos h]
    rw [codeA_yes h] at c1
    have hp := (okA_in h).1
    have C1 := Lib.hid c1
    clear c1 h
    go_enter Try.func25, Try.ntmps25
    go_wp2_with (first | (go_at_call 47; (with_reducible refine (C1.out _).mono ?_); rintro e w1 ⟨rfl, hb1⟩; obtain ⟨fc1, fg1, hc1, hf1, hz1⟩ := bget hb1; (try simp at hz1)) | (go_at_call 56; (with_reducible refine (fixProd2 q x.price _ _ hq hp ?_ ?_ ?_).mono ?_); (focus (first | (simp; done) | (simp; omega))); (focus (first | (simp [go_sem]; done) | (simp [go_sem, ↓IntWalk.iteOmega]; done))); (focus (first | (simp [go_sem]; done) | (simp [go_sem, ↓IntWalk.iteOmega]; done))); rintro e w2 ⟨rfl, hb2⟩; obtain ⟨fc2, fg2, hc2, hf2, hz2⟩ := bget hb2; (try simp at hz2)) | fail)
    all_goals
      go_ret2
      exact ⟨rfl, by (repeat' (first | (with_reducible exact Below.refl _ _) | (with_reducible assumption) | (with_reducible refine Below.alloc ?_ ?_ _) | (with_reducible refine Below.setCell ?_ ?_ _) | (with_reducible refine Below.drew ?_) | (with_reducible refine below_drewN ?_ _) | (with_reducible refine below_via ?_ (by with_reducible assumption) ?_) | omega | (simp; done) | (simp; omega)))⟩
  · rw [show worthN x q = 0 from if_neg h, show worthE x q = 2 from if_neg h]
    rw [codeA_no h] at c1
    have C1 := Lib.hid c1
    clear c1 h
    go_enter Try.func25, Try.ntmps25
    go_wp2_with (first | (go_at_call 47; (with_reducible refine (C1.out _).mono ?_); rintro e w1 ⟨rfl, hb1⟩; obtain ⟨fc1, fg1, hc1, hf1, hz1⟩ := bget hb1; (try simp at hz1)) | fail)
    go_ret2
    exact ⟨rfl, by (repeat' (first | (with_reducible exact Below.refl _ _) | (with_reducible assumption) | (with_reducible refine Below.alloc ?_ ?_ _) | (with_reducible refine Below.setCell ?_ ?_ _) | (with_reducible refine Below.drew ?_) | (with_reducible refine below_drewN ?_ _) | (with_reducible refine below_via ?_ (by with_reducible assumption) ?_) | omega | (simp; done) | (simp; omega)))⟩
def countN (x : Asset) (q : Int) : Int := if okA x ∧ 0 ≤ q ∧ in64 (q * x.price) = true then countA x q else 0
def countE (x : Asset) (q : Int) : Int := if okA x then (if q < 0 then 2 else okE (q * x.price)) else 2
set_option maxRecDepth 100000 in
set_option maxHeartbeats 4000000 in
theorem assetCount (x : Asset) (q : Int) (w : World) (hq : In64 q) : Calls Try.prog 26 #[.agg #[.int .i64 x.id, .int .i64 x.price, .int .i64 x.hair], .int .i64 q] w fun e w' => e = .returned (.tuple #[.int .i64 (countN x q), .int .i64 (countE x q)]) ∧ Below w.heap.size w w' := by
  have c1 := fun W => assetCheck x W
  have c2 := fun W => assetWorth x q W hq
  by_cases h : okA x
  · rw [codeA_yes h] at c1
    rw [show worthN x q = okN (q * x.price) from if_pos h, show worthE x q = okE (q * x.price) from if_pos h] at c2
    by_cases h0 : q < 0
    · rw [show countN x q = 0 from if_neg (fun k => absurd k.2.1 (by omega)), show countE x q = 2 from (if_pos h).trans (if_pos h0)]
      have d0 : decide (q < 0) = true := by simpa using h0
      generalize okN (q * x.price) = wn at c2
      generalize okE (q * x.price) = we at c2
      have C1 := Lib.hid c1
      have C2 := Lib.hid c2
      clear c1 c2 h
      go_enter Try.func26, Try.ntmps26
      go_wp2_with (first | (go_at_call 47; (with_reducible refine (C1.out _).mono ?_); rintro e w1 ⟨rfl, hb1⟩; obtain ⟨fc1, fg1, hc1, hf1, hz1⟩ := bget hb1; (try simp at hz1)) | (go_at_call 25; (with_reducible refine (C2.out _).mono ?_); rintro e w2 ⟨rfl, hb2⟩; obtain ⟨fc2, fg2, hc2, hf2, hz2⟩ := bget hb2; (try simp at hz2)) | fail)
      all_goals
        go_ret2
        exact ⟨rfl, by (repeat' (first | (with_reducible exact Below.refl _ _) | (with_reducible assumption) | (with_reducible refine Below.alloc ?_ ?_ _) | (with_reducible refine Below.setCell ?_ ?_ _) | (with_reducible refine Below.drew ?_) | (with_reducible refine below_drewN ?_ _) | (with_reducible refine below_via ?_ (by with_reducible assumption) ?_) | omega | (simp; done) | (simp; omega)))⟩
    · have d0 : decide (q < 0) = false := by simpa using h0
      by_cases h64 : In64 (q * x.price)
      · have hok := okA_in h
        have hcl := count_le h (show 0 ≤ q by omega)
        rw [show countN x q = countA x q from if_pos ⟨h, by omega, in64_iff.2 h64⟩, show countE x q = 0 from (if_pos h).trans ((if_neg h0).trans (okN_yes h64).2)]
        rw [(okN_yes h64).1, (okN_yes h64).2] at c2
        have c3 := fun W => fixScaleYes (q * x.price) (10000 - x.hair) 10000 W h64 hok.2 (by omega) (by omega) (by unfold countA at hcl; unfold In64 at h64 ⊢; omega)
        rw [show q * x.price * (10000 - x.hair) / 10000 = countA x q from rfl] at c3
        generalize q * x.price * (10000 - x.hair) % 10000 = r at c3
        have hh : 0 ≤ x.hair ∧ x.hair ≤ 10000 := ⟨h.2.2.2.2.1, h.2.2.2.2.2⟩
        clear hcl hok
        generalize countA x q = n at c3 ⊢
        generalize q * x.price = wn at c2 c3
        have C1 := Lib.hid c1
        have C2 := Lib.hid c2
        have C3 := Lib.hid c3
        clear c1 c2 c3 h h64
        go_enter Try.func26, Try.ntmps26
        go_wp2_with (first | (go_at_call 47; (with_reducible refine (C1.out _).mono ?_); rintro e w1 ⟨rfl, hb1⟩; obtain ⟨fc1, fg1, hc1, hf1, hz1⟩ := bget hb1; (try simp at hz1)) | (go_at_call 25; (with_reducible refine (C2.out _).mono ?_); rintro e w2 ⟨rfl, hb2⟩; obtain ⟨fc2, fg2, hc2, hf2, hz2⟩ := bget hb2; (try simp at hz2)) | (go_at_call 70; (with_reducible refine (C3.out _).mono ?_); rintro e w3 ⟨rfl, hb3⟩; obtain ⟨fc3, fg3, hc3, hf3, hz3⟩ := bget hb3; (try simp at hz3)) | fail)
        all_goals
          go_ret2
          exact ⟨rfl, by (repeat' (first | (with_reducible exact Below.refl _ _) | (with_reducible assumption) | (with_reducible refine Below.alloc ?_ ?_ _) | (with_reducible refine Below.setCell ?_ ?_ _) | (with_reducible refine Below.drew ?_) | (with_reducible refine below_drewN ?_ _) | (with_reducible refine below_via ?_ (by with_reducible assumption) ?_) | omega | (simp; done) | (simp; omega)))⟩
      · rw [show countN x q = 0 from if_neg (fun k => h64 (in64_iff.1 k.2.2)), show countE x q = 7 from (if_pos h).trans ((if_neg h0).trans (okN_no h64).2)]
        rw [(okN_no h64).1, (okN_no h64).2] at c2
        have C1 := Lib.hid c1
        have C2 := Lib.hid c2
        clear c1 c2 h h64
        go_enter Try.func26, Try.ntmps26
        go_wp2_with (first | (go_at_call 47; (with_reducible refine (C1.out _).mono ?_); rintro e w1 ⟨rfl, hb1⟩; obtain ⟨fc1, fg1, hc1, hf1, hz1⟩ := bget hb1; (try simp at hz1)) | (go_at_call 25; (with_reducible refine (C2.out _).mono ?_); rintro e w2 ⟨rfl, hb2⟩; obtain ⟨fc2, fg2, hc2, hf2, hz2⟩ := bget hb2; (try simp at hz2)) | fail)
        all_goals
          go_ret2
          exact ⟨rfl, by (repeat' (first | (with_reducible exact Below.refl _ _) | (with_reducible assumption) | (with_reducible refine Below.alloc ?_ ?_ _) | (with_reducible refine Below.setCell ?_ ?_ _) | (with_reducible refine Below.drew ?_) | (with_reducible refine below_drewN ?_ _) | (with_reducible refine below_via ?_ (by with_reducible assumption) ?_) | omega | (simp; done) | (simp; omega)))⟩
  · rw [codeA_no h] at c1
    rw [show worthN x q = 0 from if_neg h, show worthE x q = 2 from if_neg h] at c2
    rw [show countN x q = 0 from if_neg (fun k => h k.1), show countE x q = 2 from if_neg h]
    have C1 := Lib.hid c1
    have C2 := Lib.hid c2
    clear c1 c2 h
    go_enter Try.func26, Try.ntmps26
    go_wp2_with (first | (go_at_call 47; (with_reducible refine (C1.out _).mono ?_); rintro e w1 ⟨rfl, hb1⟩; obtain ⟨fc1, fg1, hc1, hf1, hz1⟩ := bget hb1; (try simp at hz1)) | (go_at_call 25; (with_reducible refine (C2.out _).mono ?_); rintro e w2 ⟨rfl, hb2⟩; obtain ⟨fc2, fg2, hc2, hf2, hz2⟩ := bget hb2; (try simp at hz2)) | fail)
    all_goals
      go_ret2
      exact ⟨rfl, by (repeat' (first | (with_reducible exact Below.refl _ _) | (with_reducible assumption) | (with_reducible refine Below.alloc ?_ ?_ _) | (with_reducible refine Below.setCell ?_ ?_ _) | (with_reducible refine Below.drew ?_) | (with_reducible refine below_drewN ?_ _) | (with_reducible refine below_via ?_ (by with_reducible assumption) ?_) | omega | (simp; done) | (simp; omega)))⟩
def sellN (x : Asset) (a : Int) : Int := if okA x ∧ 0 < a ∧ 0 < x.price then upOf a x.price else 0
def sellE (x : Asset) (a : Int) : Int := if okA x then (if 0 < a then (if 0 < x.price then 0 else 8) else 0) else 2
theorem upOf_in {a p : Int} (ha : In64 a) (h0 : 0 < a) (hp : 0 < p) : In64 (upOf a p) := by
  unfold In64 at ha
  unfold upOf In64
  have h1 : 0 ≤ a / p := Int.ediv_nonneg (by omega) (by omega)
  have h2 := Int.ediv_le_self p (show 0 ≤ a by omega)
  by_cases e : p = 1
  · subst e; rw [Int.emod_one]; simp; omega
  · have h3 : a / p < a := Int.ediv_lt_of_lt_mul hp (by
      have : a * 1 < a * p := Int.mul_lt_mul_of_pos_left (by omega) h0
      omega)
    split <;> omega
set_option maxRecDepth 100000 in
set_option maxHeartbeats 4000000 in
theorem assetSell (x : Asset) (a : Int) (w : World) (ha : In64 a) : Calls Try.prog 27 #[.agg #[.int .i64 x.id, .int .i64 x.price, .int .i64 x.hair], .int .i64 a] w fun e w' => e = .returned (.tuple #[.int .i64 (sellN x a), .int .i64 (sellE x a)]) ∧ Below w.heap.size w w' := by
  have c1 := fun W => assetCheck x W
  by_cases h : okA x
  · rw [codeA_yes h] at c1
    have C1 := Lib.hid c1
    clear c1
    have i1 : In64 1 := by unfold In64; omega
    by_cases h0 : 0 < a
    · have d0 : decide (a ≤ 0) = false := by simpa using h0
      by_cases hp : 0 < x.price
      · have hok := okA_in h
        unfold In64 at hok
        have hk := okN_yes (upOf_in ha h0 hp)
        rw [show sellN x a = upOf a x.price from if_pos ⟨h, h0, hp⟩, show sellE x a = 0 from (if_pos h).trans ((if_pos h0).trans (if_pos hp))]
        have c2 := fun W => fixUp a 1 x.price W ha i1 hp hok.1.2
        rw [Int.mul_one, hk.1, hk.2] at c2
        generalize upOf a x.price = u at c2 ⊢
        have C2 := Lib.hid c2
        clear c2 hk h
        go_enter Try.func27, Try.ntmps27
        go_wp2_with (first | (go_at_call 47; (with_reducible refine (C1.out _).mono ?_); rintro e w1 ⟨rfl, hb1⟩; obtain ⟨fc1, fg1, hc1, hf1, hz1⟩ := bget hb1; (try simp at hz1)) | (go_at_call 71; (with_reducible refine (C2.out _).mono ?_); rintro e w2 ⟨rfl, hb2⟩; obtain ⟨fc2, fg2, hc2, hf2, hz2⟩ := bget hb2; (try simp at hz2)) | fail)
        all_goals
          go_ret2
          exact ⟨rfl, by (repeat' (first | (with_reducible exact Below.refl _ _) | (with_reducible assumption) | (with_reducible refine Below.alloc ?_ ?_ _) | (with_reducible refine Below.setCell ?_ ?_ _) | (with_reducible refine Below.drew ?_) | (with_reducible refine below_drewN ?_ _) | (with_reducible refine below_via ?_ (by with_reducible assumption) ?_) | omega | (simp; done) | (simp; omega)))⟩
      · have hp0 : x.price = 0 := by have := h.2.2.1; omega
        rw [show sellN x a = 0 from if_neg (fun k => hp k.2.2), show sellE x a = 8 from (if_pos h).trans ((if_pos h0).trans (if_neg hp))]
        have c2 : ∀ W, Calls Try.prog 71 #[.int .i64 a, .int .i64 1, .int .i64 x.price] W fun e w' => e = .returned (.tuple #[.int .i64 0, .int .i64 8]) ∧ Below W.heap.size W w' := by
          intro W
          rw [hp0]
          exact fixUpZero a 1 W ha i1
        have C2 := Lib.hid c2
        clear c2 h hp hp0
        go_enter Try.func27, Try.ntmps27
        go_wp2_with (first | (go_at_call 47; (with_reducible refine (C1.out _).mono ?_); rintro e w1 ⟨rfl, hb1⟩; obtain ⟨fc1, fg1, hc1, hf1, hz1⟩ := bget hb1; (try simp at hz1)) | (go_at_call 71; (with_reducible refine (C2.out _).mono ?_); rintro e w2 ⟨rfl, hb2⟩; obtain ⟨fc2, fg2, hc2, hf2, hz2⟩ := bget hb2; (try simp at hz2)) | fail)
        all_goals
          go_ret2
          exact ⟨rfl, by (repeat' (first | (with_reducible exact Below.refl _ _) | (with_reducible assumption) | (with_reducible refine Below.alloc ?_ ?_ _) | (with_reducible refine Below.setCell ?_ ?_ _) | (with_reducible refine Below.drew ?_) | (with_reducible refine below_drewN ?_ _) | (with_reducible refine below_via ?_ (by with_reducible assumption) ?_) | omega | (simp; done) | (simp; omega)))⟩
    · have d0 : decide (a ≤ 0) = true := by simp; omega
      rw [show sellN x a = 0 from if_neg (fun k => h0 k.2.1), show sellE x a = 0 from (if_pos h).trans (if_neg h0)]
      clear h
      go_enter Try.func27, Try.ntmps27
      go_wp2_with (first | (go_at_call 47; (with_reducible refine (C1.out _).mono ?_); rintro e w1 ⟨rfl, hb1⟩; obtain ⟨fc1, fg1, hc1, hf1, hz1⟩ := bget hb1; (try simp at hz1)) | fail)
      all_goals
        go_ret2
        exact ⟨rfl, by (repeat' (first | (with_reducible exact Below.refl _ _) | (with_reducible assumption) | (with_reducible refine Below.alloc ?_ ?_ _) | (with_reducible refine Below.setCell ?_ ?_ _) | (with_reducible refine Below.drew ?_) | (with_reducible refine below_drewN ?_ _) | (with_reducible refine below_via ?_ (by with_reducible assumption) ?_) | omega | (simp; done) | (simp; omega)))⟩
  · rw [codeA_no h] at c1
    rw [show sellN x a = 0 from if_neg (fun k => h k.1), show sellE x a = 2 from if_neg h]
    have C1 := Lib.hid c1
    clear c1 h
    go_enter Try.func27, Try.ntmps27
    go_wp2_with (first | (go_at_call 47; (with_reducible refine (C1.out _).mono ?_); rintro e w1 ⟨rfl, hb1⟩; obtain ⟨fc1, fg1, hc1, hf1, hz1⟩ := bget hb1; (try simp at hz1)) | fail)
    all_goals
      go_ret2
      exact ⟨rfl, by (repeat' (first | (with_reducible exact Below.refl _ _) | (with_reducible assumption) | (with_reducible refine Below.alloc ?_ ?_ _) | (with_reducible refine Below.setCell ?_ ?_ _) | (with_reducible refine Below.drew ?_) | (with_reducible refine below_drewN ?_ _) | (with_reducible refine below_via ?_ (by with_reducible assumption) ?_) | omega | (simp; done) | (simp; omega)))⟩
end Go.Proofs.Ytpjehhkmdndcmaa
