/- The law FixScales: its walk. -/
import Derived.Test.YtpjehhkmdndcmaaLawF1
import Derived.Test.YtpjehhkmdndcmaaWideA2
import Derived.Test.YtpjehhkmdndcmaaBig9
import Derived.Test.YtpjehhkmdndcmaaBig10
namespace Go.Proofs.Ytpjehhkmdndcmaa
open Go.RowKit
/-- The least number whose product is not below. -/
def upOf (p d : Int) : Int := if 0 < p % d then p / d + 1 else p / d
theorem narrowOk (u : Int) (w : World) (h : In128 u) : Calls Try.prog 98 #[(.agg #[.int .i64 (whi (u)), .int .u64 (wlo (u))]), .int .i64 0] w fun e w' => e = .returned (.tuple #[.int .i64 (okN u), .int .i64 (okE u)]) ∧ Below w.heap.size w w' := by
  by_cases h64 : In64 u
  · have hk := okN_yes h64
    rw [hk.1, hk.2]
    exact narrowYes u w h64
  · have hk := okN_no h64
    rw [hk.1, hk.2]
    exact narrowNo u w h h64
set_option maxRecDepth 100000 in
set_option maxHeartbeats 4000000 in
theorem fixUp0 (a n d : Int) (w : World) (ha : In64 a) (hn : In64 n) (hd : 0 < d) (hd1 : d ≤ 9223372036854775807) (hr : a * n % d = 0) :
    Calls Try.prog 71 #[.int .i64 a, .int .i64 n, .int .i64 d] w fun e w' => e = .returned (.tuple #[.int .i64 (okN (a * n / d)), .int .i64 (okE (a * n / d))]) ∧ Below w.heap.size w w' := by
  have hm := mul64_128 ha hn
  have hq := div_in' hm hd
  have c2 := fun W => wideDiv (a * n) d W hm hd hd1
  rw [hr] at c2
  have C2 := Lib.hid c2
  clear c2 hr
  go_enter Try.func71, Try.ntmps71
  go_wp2_with (first | (go_at_call 57; (with_reducible refine (wideMul a n _ ha hn).mono ?_); rintro e w1 ⟨rfl, hb1⟩; obtain ⟨fc1, fg1, hc1, hf1, hz1⟩ := bget hb1; (try simp at hz1)) | (go_at_call 97; (with_reducible refine (C2.out _).mono ?_); rintro e w2 ⟨rfl, hb2⟩; obtain ⟨fc2, fg2, hc2, hf2, hz2⟩ := bget hb2; (try simp at hz2)) | (go_at_call 98; (with_reducible refine (narrowOk _ _ hq).mono ?_); rintro e w3 ⟨rfl, hb3⟩; obtain ⟨fc3, fg3, hc3, hf3, hz3⟩ := bget hb3; (try simp at hz3)) | fail)
  go_ret2
  exact ⟨rfl, by (repeat' (first | (with_reducible exact Below.refl _ _) | (with_reducible assumption) | (with_reducible refine Below.alloc ?_ ?_ _) | (with_reducible refine Below.setCell ?_ ?_ _) | (with_reducible refine Below.drew ?_) | (with_reducible refine below_drewN ?_ _) | (with_reducible refine below_via ?_ (by with_reducible assumption) ?_) | omega | (simp; done) | (simp; omega)))⟩
set_option maxRecDepth 100000 in
set_option maxHeartbeats 8000000 in
theorem fixUp1 (a n d : Int) (w : World) (ha : In64 a) (hn : In64 n) (hd : 0 < d) (hd1 : d ≤ 9223372036854775807) (hr : 0 < a * n % d) (hu : In128 (a * n / d + 1)) :
    Calls Try.prog 71 #[.int .i64 a, .int .i64 n, .int .i64 d] w fun e w' => e = .returned (.tuple #[.int .i64 (okN (a * n / d + 1)), .int .i64 (okE (a * n / d + 1))]) ∧ Below w.heap.size w w' := by
  have hm := mul64_128 ha hn
  have hq := div_in' hm hd
  have i1 : In128 1 := by unfold In128; omega
  have c2 := fun W => wideDiv (a * n) d W hm hd hd1
  obtain ⟨q, hqe⟩ : ∃ q, q = a * n / d := ⟨_, rfl⟩
  obtain ⟨r, hre⟩ : ∃ r, r = a * n % d := ⟨_, rfl⟩
  rw [← hqe] at hq hu c2 ⊢
  rw [← hre] at hr c2
  have g : decide (0 < r) = true := by simpa using hr
  have C2 := Lib.hid c2
  clear c2 hqe hre
  go_enter Try.func71, Try.ntmps71
  go_wp2_with (first | (go_at_call 57; (with_reducible refine (wideMul a n _ ha hn).mono ?_); rintro e w1 ⟨rfl, hb1⟩; obtain ⟨fc1, fg1, hc1, hf1, hz1⟩ := bget hb1; (try simp at hz1)) | (go_at_call 97; (with_reducible refine (C2.out _).mono ?_); rintro e w2 ⟨rfl, hb2⟩; obtain ⟨fc2, fg2, hc2, hf2, hz2⟩ := bget hb2; (try simp at hz2)) | fail)
  go_region_with (first | (go_at_call 89; (with_reducible refine (wideOf 1 _ (by unfold In64; omega)).mono ?_); rintro e w3 ⟨rfl, hb3⟩; obtain ⟨fc3, fg3, hc3, hf3, hz3⟩ := bget hb3; (try simp at hz3)) | (go_at_call 99; (with_reducible refine (wideAdd2 q 1 (q + 1) _ _ hq i1 rfl hu ?_ ?_ ?_ ?_ ?_).mono ?_); (focus (first | (simp; done) | (simp; omega))); (focus (first | (simp [go_sem]; done) | (simp [go_sem, ↓IntWalk.iteOmega]; done))); (focus (first | (simp [go_sem]; done) | (simp [go_sem, ↓IntWalk.iteOmega]; done))); (focus (first | (simp [go_sem]; done) | (simp [go_sem, ↓IntWalk.iteOmega]; done))); (focus (first | (simp [go_sem]; done) | (simp [go_sem, ↓IntWalk.iteOmega]; done))); rintro e w4 ⟨rfl, hb4⟩; obtain ⟨fc4, fg4, hc4, hf4, hz4⟩ := bget hb4; (try simp at hz4)) | fail)
  all_goals
    go_wp2_with (first | (go_at_call 98; (with_reducible refine (narrowOk _ _ hu).mono ?_); rintro e w5 ⟨rfl, hb5⟩; obtain ⟨fc5, fg5, hc5, hf5, hz5⟩ := bget hb5; (try simp at hz5)) | fail)
    go_ret2
    exact ⟨rfl, by (repeat' (first | (with_reducible exact Below.refl _ _) | (with_reducible assumption) | (with_reducible refine Below.alloc ?_ ?_ _) | (with_reducible refine Below.setCell ?_ ?_ _) | (with_reducible refine Below.drew ?_) | (with_reducible refine below_drewN ?_ _) | (with_reducible refine below_via ?_ (by with_reducible assumption) ?_) | omega | (simp; done) | (simp; omega)))⟩
theorem fixUp (a n d : Int) (w : World) (ha : In64 a) (hn : In64 n) (hd : 0 < d) (hd1 : d ≤ 9223372036854775807) :
    Calls Try.prog 71 #[.int .i64 a, .int .i64 n, .int .i64 d] w fun e w' => e = .returned (.tuple #[.int .i64 (okN (upOf (a * n) d)), .int .i64 (okE (upOf (a * n) d))]) ∧ Below w.heap.size w w' := by
  have hr1 := Int.emod_nonneg (a * n) (show d ≠ 0 by omega)
  unfold upOf
  by_cases h : 0 < a * n % d
  · rw [if_pos h]
    refine fixUp1 a n d w ha hn hd hd1 h ?_
    have h1 : (a * n).natAbs ≤ 9223372036854775808 * 9223372036854775808 := abs_mul_le (by unfold In64 at ha; omega) (by unfold In64 at hn; omega)
    have h2 := div_in' (mul64_128 ha hn) hd
    unfold In128 at h2
    have h3 : a * n / d ≤ 85070591730234615865843651857942052864 := by
      by_cases h0 : 0 ≤ a * n
      · have := Int.ediv_le_self d h0
        omega
      · have : a * n / d < 0 := Int.ediv_lt_of_lt_mul hd (by omega)
        omega
    unfold In128
    omega
  · rw [if_neg h]
    exact fixUp0 a n d w ha hn hd hd1 (by omega)
set_option maxRecDepth 100000 in
set_option maxHeartbeats 4000000 in
theorem fixUpNeg (a n d : Int) (w : World) (ha : In64 a) (hn : In64 n) (hd : d < 0) :
    Calls Try.prog 71 #[.int .i64 a, .int .i64 n, .int .i64 d] w fun e w' => e = .returned (.tuple #[.int .i64 0, .int .i64 2]) ∧ Below w.heap.size w w' := by
  go_enter Try.func71, Try.ntmps71
  go_wp2_with (first | (go_at_call 57; (with_reducible refine (wideMul a n _ ha hn).mono ?_); rintro e w1 ⟨rfl, hb1⟩; obtain ⟨fc1, fg1, hc1, hf1, hz1⟩ := bget hb1; (try simp at hz1)) | (go_at_call 97; (with_reducible refine (wideDivNeg (a * n) d _ hd).mono ?_); rintro e w2 ⟨rfl, hb2⟩; obtain ⟨fc2, fg2, hc2, hf2, hz2⟩ := bget hb2; (try simp at hz2)) | (go_at_call 98; (with_reducible refine (narrowErr 0 0 2 _ rfl).mono ?_); rintro e w3 ⟨rfl, hb3⟩; obtain ⟨fc3, fg3, hc3, hf3, hz3⟩ := bget hb3; (try simp at hz3)) | fail)
  go_ret2
  exact ⟨rfl, by (repeat' (first | (with_reducible exact Below.refl _ _) | (with_reducible assumption) | (with_reducible refine Below.alloc ?_ ?_ _) | (with_reducible refine Below.setCell ?_ ?_ _) | (with_reducible refine Below.drew ?_) | (with_reducible refine below_drewN ?_ _) | (with_reducible refine below_via ?_ (by with_reducible assumption) ?_) | omega | (simp; done) | (simp; omega)))⟩
set_option maxRecDepth 100000 in
set_option maxHeartbeats 4000000 in
theorem fixUpZero (a n : Int) (w : World) (ha : In64 a) (hn : In64 n) :
    Calls Try.prog 71 #[.int .i64 a, .int .i64 n, .int .i64 0] w fun e w' => e = .returned (.tuple #[.int .i64 0, .int .i64 8]) ∧ Below w.heap.size w w' := by
  go_enter Try.func71, Try.ntmps71
  go_wp2_with (first | (go_at_call 57; (with_reducible refine (wideMul a n _ ha hn).mono ?_); rintro e w1 ⟨rfl, hb1⟩; obtain ⟨fc1, fg1, hc1, hf1, hz1⟩ := bget hb1; (try simp at hz1)) | (go_at_call 97; (with_reducible refine (wideDivZero (a * n) _).mono ?_); rintro e w2 ⟨rfl, hb2⟩; obtain ⟨fc2, fg2, hc2, hf2, hz2⟩ := bget hb2; (try simp at hz2)) | (go_at_call 98; (with_reducible refine (narrowErr 0 0 8 _ rfl).mono ?_); rintro e w3 ⟨rfl, hb3⟩; obtain ⟨fc3, fg3, hc3, hf3, hz3⟩ := bget hb3; (try simp at hz3)) | fail)
  go_ret2
  exact ⟨rfl, by (repeat' (first | (with_reducible exact Below.refl _ _) | (with_reducible assumption) | (with_reducible refine Below.alloc ?_ ?_ _) | (with_reducible refine Below.setCell ?_ ?_ _) | (with_reducible refine Below.drew ?_) | (with_reducible refine below_drewN ?_ _) | (with_reducible refine below_via ?_ (by with_reducible assumption) ?_) | omega | (simp; done) | (simp; omega)))⟩
set_option maxRecDepth 100000 in
set_option maxHeartbeats 8000000 in
theorem refUp (p d : Int) (s : Bool) (l : List Int) (A : Option Addr) (c L : Nat) (w : World) (hd : 0 < d) (hd1 : d ≤ 9223372036854775807) (hL : L ≤ 400000) (hl : l.length ≤ L) (hB : IsBig w p s A l c) :
    Calls Try.prog 73 #[.agg #[.bool s, .slice A l.length c], .int .u64 d] w (BigPost w (upOf p d) (L + 200)) := by
  have hr1 := Int.emod_nonneg p (show d ≠ 0 by omega)
  have HB := Lib.hid hB
  clear hB
  have c1 := fun W (h : IsBig W p s A l c) => bigDiv p d s l A c L W hd hd1 hL hl h
  by_cases h : 0 < p % d
  · have HU := Lib.hid (show upOf p d = p / d + 1 from by unfold upOf; rw [if_pos h])
    obtain ⟨r, hre⟩ : ∃ r, r = p % d := ⟨_, rfl⟩
    rw [← hre] at h c1
    have g : decide (0 < r) = true := by simpa using h
    have C1 := Lib.hid c1
    clear c1 hre
    go_enter Try.func73, Try.ntmps73
    go_wp2_with (first | (go_at_call 72; (with_reducible refine (C1.out _ (HB.out.keep (by (repeat' (first | (with_reducible exact Below.refl _ _) | (with_reducible assumption) | (with_reducible refine Below.alloc ?_ ?_ _) | (with_reducible refine Below.setCell ?_ ?_ _) | (with_reducible refine Below.drew ?_) | (with_reducible refine below_drewN ?_ _) | (with_reducible refine below_via ?_ (by with_reducible assumption) ?_) | omega | (simp; done) | (simp; omega)))))).mono ?_); rintro e w1 ⟨s1, A1, l1, c1, rfl, hB1, hl1, hb1⟩; have HB1 := Lib.hid hB1; clear hB1; obtain ⟨fc1, fg1, hc1, hf1, hz1⟩ := bget hb1; (try simp at hz1)) | fail)
    go_region_with (first | (go_at_call 58; (with_reducible refine (bigNat 1 _ (by omega) (by omega)).mono ?_); rintro e w5 ⟨A5, l5, c5, rfl, hB5, hl5, hb5⟩; have HB5 := Lib.hid hB5; clear hB5; obtain ⟨fc5, fg5, hc5, hf5, hz5⟩ := bget hb5; (try simp at hz5)) | (go_at_call 21; (with_reducible refine (bigAdd (p / d) 1 s1 false l1 l5 A1 A5 c1 c5 (L + 65) _ (by omega) hl1 (by omega) (HB1.out.keep (by (repeat' (first | (with_reducible exact Below.refl _ _) | (with_reducible assumption) | (with_reducible refine Below.alloc ?_ ?_ _) | (with_reducible refine Below.setCell ?_ ?_ _) | (with_reducible refine Below.drew ?_) | (with_reducible refine below_drewN ?_ _) | (with_reducible refine below_via ?_ (by with_reducible assumption) ?_) | omega | (simp; done) | (simp; omega))))) (HB5.out.keep (by (repeat' (first | (with_reducible exact Below.refl _ _) | (with_reducible assumption) | (with_reducible refine Below.alloc ?_ ?_ _) | (with_reducible refine Below.setCell ?_ ?_ _) | (with_reducible refine Below.drew ?_) | (with_reducible refine below_drewN ?_ _) | (with_reducible refine below_via ?_ (by with_reducible assumption) ?_) | omega | (simp; done) | (simp; omega)))))).mono ?_); rintro e w6 ⟨s6, A6, l6, c6, rfl, hB6, hl6, hb6⟩; have HB6 := Lib.hid hB6; clear hB6; obtain ⟨fc6, fg6, hc6, hf6, hz6⟩ := bget hb6; (try simp at hz6)) | fail)
    all_goals
      go_wp2_with fail
      have k0 : w6.cell? ⟨w.heap.size + 1, 0, none⟩ = some (.bool false) := by simp [go_sem, hc6, hc5, hc1, ↓IntWalk.iteOmega]
      have k1 : w6.cell? ⟨w.heap.size + 1, 1, none⟩ = some (.slice none 0 0) := by simp [go_sem, hc6, hc5, hc1, ↓IntWalk.iteOmega]
      refine bodyPost_ret (v := .agg #[.bool s6, .slice A6 l6.length c6]) (by simp [results, Try.results73, go_sem, k0, k1]; try rfl) rfl ⟨_, A6, l6, c6, rfl, ?_, by omega, ?_⟩
      · rw [HU.out]
        exact (HB6.out.far k0 (by simp) _).far ((World.cell?_setCell_other _ _ _ _ (by simp)).trans k1) (by simp) _
      · (repeat' (first | (with_reducible exact Below.refl _ _) | (with_reducible assumption) | (with_reducible refine Below.alloc ?_ ?_ _) | (with_reducible refine Below.setCell ?_ ?_ _) | (with_reducible refine Below.drew ?_) | (with_reducible refine below_drewN ?_ _) | (with_reducible refine below_via ?_ (by with_reducible assumption) ?_) | omega | (simp; done) | (simp; omega)))
  · have hr0 : p % d = 0 := by omega
    have HU := Lib.hid (show upOf p d = p / d from by unfold upOf; rw [if_neg h])
    rw [hr0] at c1
    have C1 := Lib.hid c1
    clear c1 h hr0 hr1
    go_enter Try.func73, Try.ntmps73
    go_wp2_with (first | (go_at_call 72; (with_reducible refine (C1.out _ (HB.out.keep (by (repeat' (first | (with_reducible exact Below.refl _ _) | (with_reducible assumption) | (with_reducible refine Below.alloc ?_ ?_ _) | (with_reducible refine Below.setCell ?_ ?_ _) | (with_reducible refine Below.drew ?_) | (with_reducible refine below_drewN ?_ _) | (with_reducible refine below_via ?_ (by with_reducible assumption) ?_) | omega | (simp; done) | (simp; omega)))))).mono ?_); rintro e w1 ⟨s1, A1, l1, c1, rfl, hB1, hl1, hb1⟩; have HB1 := Lib.hid hB1; clear hB1; obtain ⟨fc1, fg1, hc1, hf1, hz1⟩ := bget hb1; (try simp at hz1)) | fail)
    have k0 : (w1.alloc (.cells #[.bool s1, .slice A1 l1.length c1] 33)).cell? ⟨w.heap.size + 1, 0, none⟩ = some (.bool false) := by simp [go_sem, hc1, ↓IntWalk.iteOmega]
    have k1 : (w1.alloc (.cells #[.bool s1, .slice A1 l1.length c1] 33)).cell? ⟨w.heap.size + 1, 1, none⟩ = some (.slice none 0 0) := by simp [go_sem, hc1, ↓IntWalk.iteOmega]
    refine bodyPost_ret (v := .agg #[.bool s1, .slice A1 l1.length c1]) (by simp [results, Try.results73, go_sem, k0, k1]; try rfl) rfl ⟨_, A1, l1, c1, rfl, ?_, by omega, ?_⟩
    · rw [HU.out]
      exact ((HB1.out.keep ((Below.refl _ _).alloc (Nat.le_refl _) _)).far k0 (by simp) _).far ((World.cell?_setCell_other _ _ _ _ (by simp)).trans k1) (by simp) _
    · (repeat' (first | (with_reducible exact Below.refl _ _) | (with_reducible assumption) | (with_reducible refine Below.alloc ?_ ?_ _) | (with_reducible refine Below.setCell ?_ ?_ _) | (with_reducible refine Below.drew ?_) | (with_reducible refine below_drewN ?_ _) | (with_reducible refine below_via ?_ (by with_reducible assumption) ?_) | omega | (simp; done) | (simp; omega)))
end Go.Proofs.Ytpjehhkmdndcmaa
