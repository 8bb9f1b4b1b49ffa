/- Layer 18's laws: Few, lives. -/
import Derived.Test.YtemhhojenocddaaLot8
import Derived.Test.YtemhhojenocddaaLot6
import Derived.Test.YtemhhojenocddaaRef18e
namespace Go.Proofs.Ytemhhojenocddaa
open Go.RowKit
set_option maxRecDepth 100000 in
set_option maxHeartbeats 8000000 in
theorem law18Few (l : List Lot) (A : Option Addr) (c : Nat) (w : World) (hr : Rs w 3 (l.map encLot) A c) :
    Calls Try.prog 37 #[.slice A l.length c] w fun e w' => e = .returned (.slice A (l.take 20).length c) ∧ Below w.heap.size w w' := by
  have hlc : l.length ≤ c := by have := hr.cap; rw [List.length_map] at this; exact this
  have hcm := hr.room
  unfold maxLen at hcm
  by_cases h : 20 < l.length
  · have HN := Lib.hid (show (l.take 20).length = 20 from by rw [List.length_take]; omega)
    have d1 : decide (20 < (l.length : Int)) = true := by simp; omega
    obtain ⟨b, o, rfl, hq⟩ := hr.rd 0 (encLot (l[0]'(by omega))) (by rw [List.getElem?_map, List.getElem?_eq_getElem (by omega)]; rfl)
    rw [HN.out]
    clear hq hr
    go_enter Try.func37, Try.ntmps37
    go_wp2_with fail
    all_goals
      go_ret
      exact ⟨rfl, by (repeat' (first | (with_reducible exact Below.refl _ _) | (with_reducible assumption) | (with_reducible refine Below.alloc ?_ ?_ _) | (with_reducible refine Below.setCell ?_ ?_ _) | (with_reducible refine Below.drew ?_) | (with_reducible refine below_drewN ?_ _) | (with_reducible refine below_via ?_ (by with_reducible assumption) ?_) | omega | (simp; done) | (simp; omega)))⟩
  · rw [List.take_of_length_le (by omega)]
    have d1 : decide (20 < (l.length : Int)) = false := by simp; omega
    clear hr
    go_enter Try.func37, Try.ntmps37
    go_wp2_with fail
    go_ret
    exact ⟨rfl, by (repeat' (first | (with_reducible exact Below.refl _ _) | (with_reducible assumption) | (with_reducible refine Below.alloc ?_ ?_ _) | (with_reducible refine Below.setCell ?_ ?_ _) | (with_reducible refine Below.drew ?_) | (with_reducible refine below_drewN ?_ _) | (with_reducible refine below_via ?_ (by with_reducible assumption) ?_) | omega | (simp; done) | (simp; omega)))⟩
theorem rd_twoL {w : World} {b : Nat} {x y : Lot} (hb : b < w.heap.size) (h0 : w.cell? ⟨b, 0, none⟩ = some (.int .i64 x.asset)) (h1 : w.cell? ⟨b, 1, none⟩ = some (.int .i64 x.tag)) (h2 : w.cell? ⟨b, 2, none⟩ = some (.int .i64 x.qty)) (h3 : w.cell? ⟨b, 3, none⟩ = some (.int .i64 y.asset)) (h4 : w.cell? ⟨b, 4, none⟩ = some (.int .i64 y.tag)) (h5 : w.cell? ⟨b, 5, none⟩ = some (.int .i64 y.qty)) : Rd w (some ⟨b, 0, none⟩) 3 ([x, y].map encLot) := by
  intro i r hr
  match i, hr with
  | 0, hr =>
    simp [encLot] at hr; subst hr
    refine ⟨b, 0, rfl, hb, fun j z hz => ?_⟩
    match j with
    | 0 => simp at hz; subst hz; simpa using h0
    | 1 => simp at hz; subst hz; simpa using h1
    | 2 => simp at hz; subst hz; simpa using h2
    | j + 3 => simp at hz
  | 1, hr =>
    simp [encLot] at hr; subst hr
    refine ⟨b, 0, rfl, hb, fun j z hz => ?_⟩
    match j with
    | 0 => simp at hz; subst hz; simpa using h3
    | 1 => simp at hz; subst hz; simpa using h4
    | 2 => simp at hz; subst hz; simpa using h5
    | j + 3 => simp at hz
theorem live_draw (A : Option Addr) (c : Nat) (w : World) (hr : Rd w A 3 ([(⟨1, 0, 5⟩ : Lot), ⟨1, 3, 4⟩].map encLot)) :
    Calls Try.prog 52 #[.slice A 2 c, .int .i64 1, .int .i64 7] w fun e w' => ∃ A1 c1 A2 c2, e = .returned (.tuple #[.slice A1 2 c1, .slice A2 1 c2, .int .i64 0]) ∧ Rs w' 3 ([(⟨1, 0, 5⟩ : Lot), ⟨1, 3, 2⟩].map encLot) A1 c1 ∧ Rs w' 3 ([(⟨1, 3, 2⟩ : Lot)].map encLot) A2 c2 ∧ Below w.heap.size w w' := by
  refine (lotDraw [⟨1, 0, 5⟩, ⟨1, 3, 4⟩] 1 7 A c w (by simp) (fun y hy => by
    simp at hy
    rcases hy with rfl | rfl <;> (unfold In64; simp)) (by unfold In64; omega) hr).mono fun e w' ⟨u, v, h1, h2, h3, h4⟩ => ?_
  rw [show drawT [⟨1, 0, 5⟩, ⟨1, 3, 4⟩] 1 7 = [⟨1, 0, 5⟩, ⟨1, 3, 2⟩] from by decide] at h2
  rw [show drawR [⟨1, 0, 5⟩, ⟨1, 3, 4⟩] 1 7 = [⟨1, 3, 2⟩] from by decide] at h3
  rw [show drawC [⟨1, 0, 5⟩, ⟨1, 3, 4⟩] 1 7 = 0 from by decide] at h1
  obtain ⟨A1, c1, rfl, hrs1, _⟩ := h2.rs
  obtain ⟨A2, c2, rfl, hrs2, _⟩ := h3.rs
  exact ⟨A1, c1, A2, c2, h1, hrs1, hrs2, h4⟩
theorem same2 (A B : Option Addr) (c d : Nat) (w : World) (ha : Rd w A 3 ([(⟨1, 0, 5⟩ : Lot), ⟨1, 3, 2⟩].map encLot)) (hb : Rd w B 3 ([(⟨1, 0, 5⟩ : Lot), ⟨1, 3, 2⟩].map encLot)) :
    Calls Try.prog 50 #[.slice A 2 c, .slice B 2 d] w fun e w' => e = .returned (.bool true) ∧ Below w.heap.size w w' := ref18Same [⟨1, 0, 5⟩, ⟨1, 3, 2⟩] A B c d w (by simp) ha hb
theorem same1 (A B : Option Addr) (c d : Nat) (w : World) (ha : Rd w A 3 ([(⟨1, 3, 2⟩ : Lot)].map encLot)) (hb : Rd w B 3 ([(⟨1, 3, 2⟩ : Lot)].map encLot)) :
    Calls Try.prog 50 #[.slice A 1 c, .slice B 1 d] w fun e w' => e = .returned (.bool true) ∧ Below w.heap.size w w' := ref18Same [⟨1, 3, 2⟩] A B c d w (by simp) ha hb
set_option maxRecDepth 100000 in
set_option maxHeartbeats 8000000 in
theorem law18lives (w : World) : Calls Try.prog 51 #[] w fun e w' => e = .returned (.bool true) ∧ Below w.heap.size w w' := by
  go_enter Try.func51, Try.ntmps51
  go_wp2_with (first | (go_at_call 52; (with_reducible refine (live_draw _ _ _ (rd_twoL (by simp) ?_ ?_ ?_ ?_ ?_ ?_)).mono ?_); (focus (simp [go_sem]; done)); (focus (simp [go_sem]; done)); (focus (simp [go_sem]; done)); (focus (simp [go_sem]; done)); (focus (simp [go_sem]; done)); (focus (simp [go_sem]; done)); rintro e w1 ⟨A1, c1, A2, c2, rfl, hr1, hr2, hb1⟩; have HR1 := Lib.hid hr1.rd; have HR2 := Lib.hid hr2.rd; clear hr1 hr2; obtain ⟨fc1, fg1, hc1, hf1, hz1⟩ := bget hb1; (try simp at hz1)) | (go_at_call 50; (with_reducible refine (same2 _ _ _ _ _ (HR1.out.keep (by (repeat' (first | (with_reducible exact Below.refl _ _) | (with_reducible assumption) | (with_reducible refine Below.alloc ?_ ?_ _) | (with_reducible refine Below.setCell ?_ ?_ _) | (with_reducible refine Below.drew ?_) | (with_reducible refine below_drewN ?_ _) | (with_reducible refine below_via ?_ (by with_reducible assumption) ?_) | omega | (simp; done) | (simp; omega))))) (rd_twoL (by simp) ?_ ?_ ?_ ?_ ?_ ?_)).mono ?_); (focus (simp [go_sem]; done)); (focus (simp [go_sem]; done)); (focus (simp [go_sem]; done)); (focus (simp [go_sem]; done)); (focus (simp [go_sem]; done)); (focus (simp [go_sem]; done)); rintro e w2 ⟨rfl, hb2⟩; obtain ⟨fc2, fg2, hc2, hf2, hz2⟩ := bget hb2; (try simp at hz2)) | (go_at_call 50; (with_reducible refine (same1 _ _ _ _ _ (HR2.out.keep (by (repeat' (first | (with_reducible exact Below.refl _ _) | (with_reducible assumption) | (with_reducible refine Below.alloc ?_ ?_ _) | (with_reducible refine Below.setCell ?_ ?_ _) | (with_reducible refine Below.drew ?_) | (with_reducible refine below_drewN ?_ _) | (with_reducible refine below_via ?_ (by with_reducible assumption) ?_) | omega | (simp; done) | (simp; omega))))) (rd_oneN (by simp))).mono ?_); rintro e w3 ⟨rfl, hb3⟩; obtain ⟨fc3, fg3, hc3, hf3, hz3⟩ := bget hb3; (try simp at hz3)) | fail)
  go_ret
  exact ⟨rfl, by (repeat' (first | (with_reducible exact Below.refl _ _) | (with_reducible assumption) | (with_reducible refine Below.alloc ?_ ?_ _) | (with_reducible refine Below.setCell ?_ ?_ _) | (with_reducible refine Below.drew ?_) | (with_reducible refine below_drewN ?_ _) | (with_reducible refine below_via ?_ (by with_reducible assumption) ?_) | omega | (simp; done) | (simp; omega)))⟩
end Go.Proofs.Ytemhhojenocddaa
