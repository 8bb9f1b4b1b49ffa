/- Layer 22's laws: few, lives (as in BlkL1). -/
import Derived.Test.YtenehpcliajdnaaBlk2
namespace Go.Proofs.Ytenehpcliajdnaa
open Go.RowKit
set_option maxRecDepth 100000 in
set_option maxHeartbeats 8000000 in
theorem law22few (l : List Fill) (A : Option Addr) (c : Nat) (w : World) (hr : Rs w 2 (l.map encFill) A c) :
    Calls Try.prog 11 #[.slice A l.length c] w fun e w' => e = .returned (.slice A (l.take 20).length c) ∧ Below w.heap.size w w' := by
  have hlc : l.length ≤ c := by have := hr.cap; rw [List.length_map] at this; exact this
  have hcm := hr.room
  unfold maxLen at hcm
  by_cases h : 20 < l.length
  · have HN := Lib.hid (show (l.take 20).length = 20 from by rw [List.length_take]; omega)
    have d1 : decide (20 < (l.length : Int)) = true := by simp; omega
    obtain ⟨b, o, rfl, hq⟩ := hr.rd 0 (encFill (l[0]'(by omega))) (by rw [List.getElem?_map, List.getElem?_eq_getElem (by omega)]; rfl)
    rw [HN.out]
    clear hq hr
    go_enter Try.func11, Try.ntmps11
    go_wp2_with fail
    all_goals
      go_ret
      exact ⟨rfl, by (repeat' (first | (with_reducible exact Below.refl _ _) | (with_reducible assumption) | (with_reducible refine Below.alloc ?_ ?_ _) | (with_reducible refine Below.setCell ?_ ?_ _) | (with_reducible refine Below.drew ?_) | (with_reducible refine below_drewN ?_ _) | (with_reducible refine below_via ?_ (by with_reducible assumption) ?_) | omega | (simp; done) | (simp; omega)))⟩
  · rw [List.take_of_length_le (by omega)]
    have d1 : decide (20 < (l.length : Int)) = false := by simp; omega
    clear hr
    go_enter Try.func11, Try.ntmps11
    go_wp2_with fail
    go_ret
    exact ⟨rfl, by (repeat' (first | (with_reducible exact Below.refl _ _) | (with_reducible assumption) | (with_reducible refine Below.alloc ?_ ?_ _) | (with_reducible refine Below.setCell ?_ ?_ _) | (with_reducible refine Below.drew ?_) | (with_reducible refine below_drewN ?_ _) | (with_reducible refine below_via ?_ (by with_reducible assumption) ?_) | omega | (simp; done) | (simp; omega)))⟩
theorem rd_twoF {w : World} {b : Nat} {x y : Fill} (hb : b < w.heap.size) (h0 : w.cell? ⟨b, 0, none⟩ = some (.int .i64 x.qty)) (h1 : w.cell? ⟨b, 1, none⟩ = some (.int .i64 x.price)) (h2 : w.cell? ⟨b, 2, none⟩ = some (.int .i64 y.qty)) (h3 : w.cell? ⟨b, 3, none⟩ = some (.int .i64 y.price)) : Rd w (some ⟨b, 0, none⟩) 2 ([x, y].map encFill) := by
  intro i r hr
  refine ⟨b, 0, rfl, hb, fun j v hv => ?_⟩
  match i, hr with
  | 0, hr =>
    simp [encFill] at hr
    subst hr
    match j, hv with
    | 0, hv => simp at hv; subst hv; exact h0
    | 1, hv => simp at hv; subst hv; exact h1
    | j + 2, hv => simp at hv
  | 1, hr =>
    simp [encFill] at hr
    subst hr
    match j, hv with
    | 0, hv => simp at hv; subst hv; exact h2
    | 1, hv => simp at hv; subst hv; exact h3
    | j + 2, hv => simp at hv
  | i + 2, hr => simp at hr
theorem live_avg (A : Option Addr) (c : Nat) (w : World) (hr : Rd w A 2 ([⟨3, 10⟩, ⟨4, 11⟩].map encFill)) :
    Calls Try.prog 12 #[.slice A 2 c] w fun e w' => e = .returned (.tuple #[.int .i64 7, .int .i64 10, .int .i64 4, .int .i64 0]) ∧ Below w.heap.size w w' := by
  have h := blkAverage [⟨3, 10⟩, ⟨4, 11⟩] A c w (by simp) hr
  have h1 : avQ [⟨3, 10⟩, ⟨4, 11⟩] = 7 := by decide
  have h2 : avA [⟨3, 10⟩, ⟨4, 11⟩] = 10 := by decide
  have h3 : avR [⟨3, 10⟩, ⟨4, 11⟩] = 4 := by decide
  have h4 : avC [⟨3, 10⟩, ⟨4, 11⟩] = 0 := by decide
  rw [h1, h2, h3, h4] at h
  exact h
set_option maxRecDepth 100000 in
set_option maxHeartbeats 8000000 in
theorem law22lives (w : World) : Calls Try.prog 13 #[] w fun e w' => e = .returned (.bool true) ∧ Below w.heap.size w w' := by
  go_enter Try.func13, Try.ntmps13
  go_wp2_with (first | (go_at_call 12; (with_reducible refine (live_avg _ _ _ (rd_twoF (by simp) ?_ ?_ ?_ ?_)).mono ?_); (focus (simp [go_sem]; done)); (focus (simp [go_sem]; done)); (focus (simp [go_sem]; done)); (focus (simp [go_sem]; done)); rintro e w1 ⟨rfl, hb1⟩; obtain ⟨fc1, fg1, hc1, hf1, hz1⟩ := bget hb1; (try simp at hz1)) | fail)
  go_ret
  exact ⟨rfl, by (repeat' (first | (with_reducible exact Below.refl _ _) | (with_reducible assumption) | (with_reducible refine Below.alloc ?_ ?_ _) | (with_reducible refine Below.setCell ?_ ?_ _) | (with_reducible refine Below.drew ?_) | (with_reducible refine below_drewN ?_ _) | (with_reducible refine below_via ?_ (by with_reducible assumption) ?_) | omega | (simp; done) | (simp; omega)))⟩
end Go.Proofs.Ytenehpcliajdnaa
