/- Fills: contract of block.Rest. -/
import Derived.Test.YtenehpcliajdnaaBlk2
import Derived.Test.YtenehpcliajdnaaFixP
namespace Go.Proofs.Ytenehpcliajdnaa
open Go.RowKit
def rsC (m : Int) (l : List Fill) : Int := if avC l = 0 then (if m < 1 then 2 else if 65536 < m then 2 else 0) else avC l
def rsR (l : List Fill) : Int := if avQ l < 0 then - avR l else avR l
def rsN (m : Int) (l : List Fill) : Int := if rsC m l = 0 then rsR l * m else 0
theorem rs_bound {l : List Fill} (h : avC l = 0) : 0 ≤ avR l ∧ avR l < 1099511627776 := by
  obtain ⟨_, _, _, _, h0, h1⟩ := av_zero h
  obtain ⟨_, _, _, d4, d5, _⟩ := av_div h
  rw [(av_yes h).2.2.1]
  omega
theorem rs_mul {r m : Int} (h0 : -1099511627776 ≤ r) (h1 : r ≤ 1099511627776) (m0 : 1 ≤ m) (m1 : m ≤ 65536) : In64 (r * m) := by
  have h2 : r * m ≤ 1099511627776 * m := Int.mul_le_mul_of_nonneg_right h1 (by omega)
  have h3 : -1099511627776 * m ≤ r * m := Int.mul_le_mul_of_nonneg_right h0 (by omega)
  unfold In64; omega
theorem pr_two {r m : Int} (h0 : -1099511627776 ≤ r) (h1 : r ≤ 1099511627776) (m0 : 1 ≤ m) (m1 : m ≤ 65536) : prN [r, m] = r * m ∧ prE [r, m] = 0 := by
  have a1 : in64 r = true := in64_iff.2 (by unfold In64; omega)
  have a2 : in64 (r * m) = true := in64_iff.2 (rs_mul h0 h1 m0 m1)
  have : prodF 1 [r, m] = some (r * m) := by
    unfold prodF; rw [Int.one_mul, a1, if_pos rfl]
    unfold prodF; rw [a2, if_pos rfl]
    unfold prodF; rfl
  unfold prN prE
  rw [this]
  exact ⟨rfl, rfl⟩
theorem rd_twoI {w : World} {g : Nat} {u v : Int} (hg : g < w.heap.size) (h0 : w.cell? ⟨g, 0, none⟩ = some (.int .i64 u)) (h1 : w.cell? ⟨g, 1, none⟩ = some (.int .i64 v)) : Rd w (some ⟨g, 0, none⟩) 1 ([u, v].map encI) := by
  intro i r hr
  refine ⟨g, 0, rfl, hg, fun j x hx => ?_⟩
  match i, hr with
  | 0, hr =>
    simp [encI] at hr
    subst hr
    match j, hx with
    | 0, hx => simp at hx; subst hx; exact h0
    | j + 1, hx => simp at hx
  | 1, hr =>
    simp [encI] at hr
    subst hr
    match j, hx with
    | 0, hx => simp at hx; subst hx; exact h1
    | j + 1, hx => simp at hx
  | i + 2, hr => simp at hr
set_option maxRecDepth 100000 in
set_option maxHeartbeats 8000000 in
theorem blkRest (m : Int) (l : List Fill) (A : Option Addr) (c : Nat) (w : World) (hl : l.length ≤ 1000000) (hr : Rd w A 2 (l.map encFill)) :
    Calls Try.prog 20 #[.int .i64 m, .slice A l.length c] w fun e w' => e = .returned (.tuple #[.int .i64 (rsN m l), .int .i64 (rsC m l)]) ∧ Below w.heap.size w w' := by
  have HR := Lib.hid hr
  have c1 := fun W h => blkAverage l A c W hl h
  clear hr
  by_cases h0 : avC l = 0
  rotate_left
  · have hc : rsC m l = avC l := by unfold rsC; rw [if_neg h0]
    have hn : rsN m l = 0 := by unfold rsN; rw [hc, if_neg h0]
    have dc : (avC l == 0) = false := by simpa using h0
    rw [hc, hn]
    have C1 := Lib.hid c1
    clear c1 h0 hc hn
    generalize avC l = code at *
    go_enter Try.func20, Try.ntmps20
    go_wp2_with (first | (go_at_call 12; (with_reducible refine (C1.out _ (HR.out.keep (by (repeat' (first | (with_reducible exact Below.refl _ _) | (with_reducible assumption) | (with_reducible refine Below.alloc ?_ ?_ _) | (with_reducible refine Below.setCell ?_ ?_ _) | (with_reducible refine Below.drew ?_) | (with_reducible refine below_drewN ?_ _) | (with_reducible refine below_via ?_ (by with_reducible assumption) ?_) | omega | (simp; done) | (simp; omega)))))).mono ?_); rintro e w1 ⟨rfl, hb1⟩; obtain ⟨fc1, fg1, hc1, hf1, hz1⟩ := bget hb1; (try simp at hz1)) | (go_at_call 53; (with_reducible refine (C2.out _ _ _ (rd_twoI (u := 0) (v := m) ?_ ?_ ?_)).mono ?_); (focus (first | omega | (simp; done) | (simp; omega))); (focus (simp [go_sem]; done)); (focus (simp [go_sem]; done)); rintro e w2 ⟨rfl, hb2⟩; obtain ⟨fc2, fg2, hc2, hf2, hz2⟩ := bget hb2; (try simp at hz2)) | fail)
    go_ret2
    exact ⟨rfl, by (repeat' (first | (with_reducible exact Below.refl _ _) | (with_reducible assumption) | (with_reducible refine Below.alloc ?_ ?_ _) | (with_reducible refine Below.setCell ?_ ?_ _) | (with_reducible refine Below.drew ?_) | (with_reducible refine below_drewN ?_ _) | (with_reducible refine below_via ?_ (by with_reducible assumption) ?_) | omega | (simp; done) | (simp; omega)))⟩
  have hcz : rsC m l = (if m < 1 then 2 else if 65536 < m then 2 else 0) := by unfold rsC; rw [if_pos h0]
  have hb := rs_bound h0
  rw [h0] at c1
  by_cases h1 : m < 1
  · have hc : rsC m l = 2 := by rw [hcz, if_pos h1]
    have hn : rsN m l = 0 := by unfold rsN; rw [hc]; rfl
    have dc : decide (m < 1) = true := by simpa using h1
    rw [hc, hn]
    have C1 := Lib.hid c1
    clear c1 h0 hc hn hcz
    go_enter Try.func20, Try.ntmps20
    go_wp2_with (first | (go_at_call 12; (with_reducible refine (C1.out _ (HR.out.keep (by (repeat' (first | (with_reducible exact Below.refl _ _) | (with_reducible assumption) | (with_reducible refine Below.alloc ?_ ?_ _) | (with_reducible refine Below.setCell ?_ ?_ _) | (with_reducible refine Below.drew ?_) | (with_reducible refine below_drewN ?_ _) | (with_reducible refine below_via ?_ (by with_reducible assumption) ?_) | omega | (simp; done) | (simp; omega)))))).mono ?_); rintro e w1 ⟨rfl, hb1⟩; obtain ⟨fc1, fg1, hc1, hf1, hz1⟩ := bget hb1; (try simp at hz1)) | (go_at_call 53; (with_reducible refine (C2.out _ _ _ (rd_twoI (u := 0) (v := m) ?_ ?_ ?_)).mono ?_); (focus (first | omega | (simp; done) | (simp; omega))); (focus (simp [go_sem]; done)); (focus (simp [go_sem]; done)); rintro e w2 ⟨rfl, hb2⟩; obtain ⟨fc2, fg2, hc2, hf2, hz2⟩ := bget hb2; (try simp at hz2)) | fail)
    go_ret2
    exact ⟨rfl, by (repeat' (first | (with_reducible exact Below.refl _ _) | (with_reducible assumption) | (with_reducible refine Below.alloc ?_ ?_ _) | (with_reducible refine Below.setCell ?_ ?_ _) | (with_reducible refine Below.drew ?_) | (with_reducible refine below_drewN ?_ _) | (with_reducible refine below_via ?_ (by with_reducible assumption) ?_) | omega | (simp; done) | (simp; omega)))⟩
  rw [if_neg h1] at hcz
  have d1 : decide (m < 1) = false := by simpa using h1
  by_cases h2 : 65536 < m
  · have hc : rsC m l = 2 := by rw [hcz, if_pos h2]
    have hn : rsN m l = 0 := by unfold rsN; rw [hc]; rfl
    have dc : decide (65536 < m) = true := by simpa using h2
    rw [hc, hn]
    have C1 := Lib.hid c1
    clear c1 h0 hc hn hcz
    go_enter Try.func20, Try.ntmps20
    go_wp2_with (first | (go_at_call 12; (with_reducible refine (C1.out _ (HR.out.keep (by (repeat' (first | (with_reducible exact Below.refl _ _) | (with_reducible assumption) | (with_reducible refine Below.alloc ?_ ?_ _) | (with_reducible refine Below.setCell ?_ ?_ _) | (with_reducible refine Below.drew ?_) | (with_reducible refine below_drewN ?_ _) | (with_reducible refine below_via ?_ (by with_reducible assumption) ?_) | omega | (simp; done) | (simp; omega)))))).mono ?_); rintro e w1 ⟨rfl, hb1⟩; obtain ⟨fc1, fg1, hc1, hf1, hz1⟩ := bget hb1; (try simp at hz1)) | (go_at_call 53; (with_reducible refine (C2.out _ _ _ (rd_twoI (u := 0) (v := m) ?_ ?_ ?_)).mono ?_); (focus (first | omega | (simp; done) | (simp; omega))); (focus (simp [go_sem]; done)); (focus (simp [go_sem]; done)); rintro e w2 ⟨rfl, hb2⟩; obtain ⟨fc2, fg2, hc2, hf2, hz2⟩ := bget hb2; (try simp at hz2)) | fail)
    go_ret2
    exact ⟨rfl, by (repeat' (first | (with_reducible exact Below.refl _ _) | (with_reducible assumption) | (with_reducible refine Below.alloc ?_ ?_ _) | (with_reducible refine Below.setCell ?_ ?_ _) | (with_reducible refine Below.drew ?_) | (with_reducible refine below_drewN ?_ _) | (with_reducible refine below_via ?_ (by with_reducible assumption) ?_) | omega | (simp; done) | (simp; omega)))⟩
  rw [if_neg h2] at hcz
  have d2 : decide (65536 < m) = false := by simpa using h2
  have hn : rsN m l = rsR l * m := by unfold rsN; rw [hcz, if_pos rfl]
  rw [hcz, hn]
  clear hcz hn h0
  unfold rsR
  by_cases hq : avQ l < 0
  · have dq : decide (avQ l < 0) = true := by simpa using hq
    rw [if_pos hq]
    generalize avQ l = q at *
    generalize avA l = a at *
    generalize avR l = r at *
    have hp := pr_two (r := - r) (m := m) (by omega) (by omega) (by omega) (by omega)
    have c2 := fun W A c h => show Calls Try.prog 53 #[.slice A 2 c] W _ from fixProduct [- r, m] A c W (by simp) (by intro n hn; simp at hn; rcases hn with rfl | rfl <;> (unfold In64; omega)) h
    rw [hp.1, hp.2] at c2
    have C1 := Lib.hid c1
    have C2 := Lib.hid c2
    clear c1 c2 hp
    go_enter Try.func20, Try.ntmps20
    go_wp2_with (first | (go_at_call 12; (with_reducible refine (C1.out _ (HR.out.keep (by (repeat' (first | (with_reducible exact Below.refl _ _) | (with_reducible assumption) | (with_reducible refine Below.alloc ?_ ?_ _) | (with_reducible refine Below.setCell ?_ ?_ _) | (with_reducible refine Below.drew ?_) | (with_reducible refine below_drewN ?_ _) | (with_reducible refine below_via ?_ (by with_reducible assumption) ?_) | omega | (simp; done) | (simp; omega)))))).mono ?_); rintro e w1 ⟨rfl, hb1⟩; obtain ⟨fc1, fg1, hc1, hf1, hz1⟩ := bget hb1; (try simp at hz1)) | (go_at_call 53; (with_reducible refine (C2.out _ _ _ (rd_twoI (u := - r) (v := m) ?_ ?_ ?_)).mono ?_); (focus (first | omega | (simp; done) | (simp; omega))); (focus (simp [go_sem]; done)); (focus (simp [go_sem]; done)); rintro e w2 ⟨rfl, hb2⟩; obtain ⟨fc2, fg2, hc2, hf2, hz2⟩ := bget hb2; (try simp at hz2)) | fail)
    go_ret2
    exact ⟨rfl, by (repeat' (first | (with_reducible exact Below.refl _ _) | (with_reducible assumption) | (with_reducible refine Below.alloc ?_ ?_ _) | (with_reducible refine Below.setCell ?_ ?_ _) | (with_reducible refine Below.drew ?_) | (with_reducible refine below_drewN ?_ _) | (with_reducible refine below_via ?_ (by with_reducible assumption) ?_) | omega | (simp; done) | (simp; omega)))⟩
  · have dq : decide (avQ l < 0) = false := by simpa using hq
    rw [if_neg hq]
    generalize avQ l = q at *
    generalize avA l = a at *
    generalize avR l = r at *
    have hp := pr_two (r := r) (m := m) (by omega) (by omega) (by omega) (by omega)
    have c2 := fun W A c h => show Calls Try.prog 53 #[.slice A 2 c] W _ from fixProduct [r, m] A c W (by simp) (by intro n hn; simp at hn; rcases hn with rfl | rfl <;> (unfold In64; omega)) h
    rw [hp.1, hp.2] at c2
    have C1 := Lib.hid c1
    have C2 := Lib.hid c2
    clear c1 c2 hp
    go_enter Try.func20, Try.ntmps20
    go_wp2_with (first | (go_at_call 12; (with_reducible refine (C1.out _ (HR.out.keep (by (repeat' (first | (with_reducible exact Below.refl _ _) | (with_reducible assumption) | (with_reducible refine Below.alloc ?_ ?_ _) | (with_reducible refine Below.setCell ?_ ?_ _) | (with_reducible refine Below.drew ?_) | (with_reducible refine below_drewN ?_ _) | (with_reducible refine below_via ?_ (by with_reducible assumption) ?_) | omega | (simp; done) | (simp; omega)))))).mono ?_); rintro e w1 ⟨rfl, hb1⟩; obtain ⟨fc1, fg1, hc1, hf1, hz1⟩ := bget hb1; (try simp at hz1)) | (go_at_call 53; (with_reducible refine (C2.out _ _ _ (rd_twoI (u := r) (v := m) ?_ ?_ ?_)).mono ?_); (focus (first | omega | (simp; done) | (simp; omega))); (focus (simp [go_sem]; done)); (focus (simp [go_sem]; done)); rintro e w2 ⟨rfl, hb2⟩; obtain ⟨fc2, fg2, hc2, hf2, hz2⟩ := bget hb2; (try simp at hz2)) | fail)
    go_ret2
    exact ⟨rfl, by (repeat' (first | (with_reducible exact Below.refl _ _) | (with_reducible assumption) | (with_reducible refine Below.alloc ?_ ?_ _) | (with_reducible refine Below.setCell ?_ ?_ _) | (with_reducible refine Below.drew ?_) | (with_reducible refine below_drewN ?_ _) | (with_reducible refine below_via ?_ (by with_reducible assumption) ?_) | omega | (simp; done) | (simp; omega)))⟩
end Go.Proofs.Ytenehpcliajdnaa
