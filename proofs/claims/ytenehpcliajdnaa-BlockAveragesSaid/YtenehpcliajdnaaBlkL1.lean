/- Layer 22's laws: few, lives, BlockAverages' walk. -/
import Derived.Test.YtenehpcliajdnaaRef22b
namespace Go.Proofs.Ytenehpcliajdnaa
open Go.RowKit
set_option maxRecDepth 100000 in
set_option maxHeartbeats 8000000 in
theorem law22few (l : List Fill) (A : Option Addr) (c : Nat) (w : World) (hr : Rs w 2 (l.map encFill) A c) :
    Calls Try.prog 11 #[.slice A l.length c] w fun e w' => e = .returned (.slice A (l.take 20).length c) ∧ Below w.heap.size w w' := by
  have hlc : l.length ≤ c := by have := hr.cap; rw [List.length_map] at this; exact this
  have hcm := hr.room
  unfold maxLen at hcm
  by_cases h : 20 < l.length
  · have HN := Lib.hid (show (l.take 20).length = 20 from by rw [List.length_take]; omega)
    have d1 : decide (20 < (l.length : Int)) = true := by simp; omega
    obtain ⟨b, o, rfl, hq⟩ := hr.rd 0 (encFill (l[0]'(by omega))) (by rw [List.getElem?_map, List.getElem?_eq_getElem (by omega)]; rfl)
    rw [HN.out]
    clear hq hr
    go_enter Try.func11, Try.ntmps11
    go_wp2_with fail
    all_goals
      go_ret
      exact ⟨rfl, by (repeat' (first | (with_reducible exact Below.refl _ _) | (with_reducible assumption) | (with_reducible refine Below.alloc ?_ ?_ _) | (with_reducible refine Below.setCell ?_ ?_ _) | (with_reducible refine Below.drew ?_) | (with_reducible refine below_drewN ?_ _) | (with_reducible refine below_via ?_ (by with_reducible assumption) ?_) | omega | (simp; done) | (simp; omega)))⟩
  · rw [List.take_of_length_le (by omega)]
    have d1 : decide (20 < (l.length : Int)) = false := by simp; omega
    clear hr
    go_enter Try.func11, Try.ntmps11
    go_wp2_with fail
    go_ret
    exact ⟨rfl, by (repeat' (first | (with_reducible exact Below.refl _ _) | (with_reducible assumption) | (with_reducible refine Below.alloc ?_ ?_ _) | (with_reducible refine Below.setCell ?_ ?_ _) | (with_reducible refine Below.drew ?_) | (with_reducible refine below_drewN ?_ _) | (with_reducible refine below_via ?_ (by with_reducible assumption) ?_) | omega | (simp; done) | (simp; omega)))⟩
theorem rd_twoF {w : World} {b : Nat} {x y : Fill} (hb : b < w.heap.size) (h0 : w.cell? ⟨b, 0, none⟩ = some (.int .i64 x.qty)) (h1 : w.cell? ⟨b, 1, none⟩ = some (.int .i64 x.price)) (h2 : w.cell? ⟨b, 2, none⟩ = some (.int .i64 y.qty)) (h3 : w.cell? ⟨b, 3, none⟩ = some (.int .i64 y.price)) : Rd w (some ⟨b, 0, none⟩) 2 ([x, y].map encFill) := by
  intro i r hr
  refine ⟨b, 0, rfl, hb, fun j v hv => ?_⟩
  match i, hr with
  | 0, hr =>
    simp [encFill] at hr
    subst hr
    match j, hv with
    | 0, hv => simp at hv; subst hv; exact h0
    | 1, hv => simp at hv; subst hv; exact h1
    | j + 2, hv => simp at hv
  | 1, hr =>
    simp [encFill] at hr
    subst hr
    match j, hv with
    | 0, hv => simp at hv; subst hv; exact h2
    | 1, hv => simp at hv; subst hv; exact h3
    | j + 2, hv => simp at hv
  | i + 2, hr => simp at hr
theorem live_avg (A : Option Addr) (c : Nat) (w : World) (hr : Rd w A 2 ([⟨3, 10⟩, ⟨4, 11⟩].map encFill)) :
    Calls Try.prog 12 #[.slice A 2 c] w fun e w' => e = .returned (.tuple #[.int .i64 7, .int .i64 10, .int .i64 4, .int .i64 0]) ∧ Below w.heap.size w w' := by
  have h := blkAverage [⟨3, 10⟩, ⟨4, 11⟩] A c w (by simp) hr
  have h1 : avQ [⟨3, 10⟩, ⟨4, 11⟩] = 7 := by decide
  have h2 : avA [⟨3, 10⟩, ⟨4, 11⟩] = 10 := by decide
  have h3 : avR [⟨3, 10⟩, ⟨4, 11⟩] = 4 := by decide
  have h4 : avC [⟨3, 10⟩, ⟨4, 11⟩] = 0 := by decide
  rw [h1, h2, h3, h4] at h
  exact h
set_option maxRecDepth 100000 in
set_option maxHeartbeats 8000000 in
theorem law22lives (w : World) : Calls Try.prog 13 #[] w fun e w' => e = .returned (.bool true) ∧ Below w.heap.size w w' := by
  go_enter Try.func13, Try.ntmps13
  go_wp2_with (first | (go_at_call 12; (with_reducible refine (live_avg _ _ _ (rd_twoF (by simp) ?_ ?_ ?_ ?_)).mono ?_); (focus (simp [go_sem]; done)); (focus (simp [go_sem]; done)); (focus (simp [go_sem]; done)); (focus (simp [go_sem]; done)); rintro e w1 ⟨rfl, hb1⟩; obtain ⟨fc1, fg1, hc1, hf1, hz1⟩ := bget hb1; (try simp at hz1)) | fail)
  go_ret
  exact ⟨rfl, by (repeat' (first | (with_reducible exact Below.refl _ _) | (with_reducible assumption) | (with_reducible refine Below.alloc ?_ ?_ _) | (with_reducible refine Below.setCell ?_ ?_ _) | (with_reducible refine Below.drew ?_) | (with_reducible refine below_drewN ?_ _) | (with_reducible refine below_via ?_ (by with_reducible assumption) ?_) | omega | (simp; done) | (simp; omega)))⟩
set_option maxRecDepth 100000 in
set_option maxHeartbeats 16000000 in
theorem blockAveragesAt (l0 l : List Fill) (m q a r code n nc : Int) (A : Option Addr) (c : Nat) (w : World) (hr0 : Rs w 2 (l0.map encFill) A c) (hr : Rs w 2 (l.map encFill) A c)
    (cf : ∀ W, Rs W 2 (l0.map encFill) A c → Calls Try.prog 11 #[.slice A l0.length c] W fun e w' => e = .returned (.slice A l.length c) ∧ Below W.heap.size W w')
    (c1 : ∀ W, Rd W A 2 (l.map encFill) → Calls Try.prog 12 #[.slice A l.length c] W fun e w' => e = .returned (.tuple #[.int .i64 q, .int .i64 a, .int .i64 r, .int .i64 code]) ∧ Below W.heap.size W w')
    (c2 : ∀ W, Rd W A 2 (l.map encFill) → Calls Try.prog 19 #[.slice A l.length c] W fun e w' => e = .returned (.tuple #[.int .i64 q, .int .i64 a, .int .i64 r, .int .i64 code]) ∧ Below W.heap.size W w')
    (c3 : ∀ W, Rd W A 2 (l.map encFill) → Calls Try.prog 20 #[.int .i64 m, .slice A l.length c] W fun e w' => e = .returned (.tuple #[.int .i64 n, .int .i64 nc]) ∧ Below W.heap.size W w')
    (c4 : ∀ W, Rd W A 2 (l.map encFill) → Calls Try.prog 21 #[.int .i64 m, .slice A l.length c] W fun e w' => e = .returned (.tuple #[.int .i64 n, .int .i64 nc]) ∧ Below W.heap.size W w') :
    Calls Try.prog 4 #[.slice A l0.length c, .int .i64 m] w fun e w' => e = .returned (.bool true) ∧ Below w.heap.size w w' := by
  have HR0 := Lib.hid hr0
  have HR := Lib.hid hr
  have CF := Lib.hid cf
  have C1 := Lib.hid c1
  have C2 := Lib.hid c2
  have C3 := Lib.hid c3
  have C4 := Lib.hid c4
  clear hr0 hr cf c1 c2 c3 c4
  go_enter Try.func4, Try.ntmps4
  go_wp2_with (first | (go_at_call 11; (with_reducible refine (CF.out _ (HR0.out.keep (by (repeat' (first | (with_reducible exact Below.refl _ _) | (with_reducible assumption) | (with_reducible refine Below.alloc ?_ ?_ _) | (with_reducible refine Below.setCell ?_ ?_ _) | (with_reducible refine Below.drew ?_) | (with_reducible refine below_drewN ?_ _) | (with_reducible refine below_via ?_ (by with_reducible assumption) ?_) | omega | (simp; done) | (simp; omega)))))).mono ?_); rintro e w1 ⟨rfl, hb1⟩; obtain ⟨fc1, fg1, hc1, hf1, hz1⟩ := bget hb1; (try simp at hz1)) | (go_at_call 12; (with_reducible refine (C1.out _ (HR.out.rd.keep (by (repeat' (first | (with_reducible exact Below.refl _ _) | (with_reducible assumption) | (with_reducible refine Below.alloc ?_ ?_ _) | (with_reducible refine Below.setCell ?_ ?_ _) | (with_reducible refine Below.drew ?_) | (with_reducible refine below_drewN ?_ _) | (with_reducible refine below_via ?_ (by with_reducible assumption) ?_) | omega | (simp; done) | (simp; omega)))))).mono ?_); rintro e w2 ⟨rfl, hb2⟩; obtain ⟨fc2, fg2, hc2, hf2, hz2⟩ := bget hb2; (try simp at hz2)) | (go_at_call 19; (with_reducible refine (C2.out _ (HR.out.rd.keep (by (repeat' (first | (with_reducible exact Below.refl _ _) | (with_reducible assumption) | (with_reducible refine Below.alloc ?_ ?_ _) | (with_reducible refine Below.setCell ?_ ?_ _) | (with_reducible refine Below.drew ?_) | (with_reducible refine below_drewN ?_ _) | (with_reducible refine below_via ?_ (by with_reducible assumption) ?_) | omega | (simp; done) | (simp; omega)))))).mono ?_); rintro e w3 ⟨rfl, hb3⟩; obtain ⟨fc3, fg3, hc3, hf3, hz3⟩ := bget hb3; (try simp at hz3)) | (go_at_call 20; (with_reducible refine (C3.out _ (HR.out.rd.keep (by (repeat' (first | (with_reducible exact Below.refl _ _) | (with_reducible assumption) | (with_reducible refine Below.alloc ?_ ?_ _) | (with_reducible refine Below.setCell ?_ ?_ _) | (with_reducible refine Below.drew ?_) | (with_reducible refine below_drewN ?_ _) | (with_reducible refine below_via ?_ (by with_reducible assumption) ?_) | omega | (simp; done) | (simp; omega)))))).mono ?_); rintro e w4 ⟨rfl, hb4⟩; obtain ⟨fc4, fg4, hc4, hf4, hz4⟩ := bget hb4; (try simp at hz4)) | (go_at_call 21; (with_reducible refine (C4.out _ (HR.out.rd.keep (by (repeat' (first | (with_reducible exact Below.refl _ _) | (with_reducible assumption) | (with_reducible refine Below.alloc ?_ ?_ _) | (with_reducible refine Below.setCell ?_ ?_ _) | (with_reducible refine Below.drew ?_) | (with_reducible refine below_drewN ?_ _) | (with_reducible refine below_via ?_ (by with_reducible assumption) ?_) | omega | (simp; done) | (simp; omega)))))).mono ?_); rintro e w5 ⟨rfl, hb5⟩; obtain ⟨fc5, fg5, hc5, hf5, hz5⟩ := bget hb5; (try simp at hz5)) | (go_at_call 13; (with_reducible refine (law22lives _).mono ?_); rintro e w6 ⟨rfl, hb6⟩; obtain ⟨fc6, fg6, hc6, hf6, hz6⟩ := bget hb6; (try simp at hz6)) | fail)
  go_ret
  exact ⟨rfl, by (repeat' (first | (with_reducible exact Below.refl _ _) | (with_reducible assumption) | (with_reducible refine Below.alloc ?_ ?_ _) | (with_reducible refine Below.setCell ?_ ?_ _) | (with_reducible refine Below.drew ?_) | (with_reducible refine below_drewN ?_ _) | (with_reducible refine below_via ?_ (by with_reducible assumption) ?_) | omega | (simp; done) | (simp; omega)))⟩
theorem takeFill {w : World} {l : List Fill} {A : Option Addr} {c : Nat} (h : Rs w 2 (l.map encFill) A c) (n : Nat) : Rs w 2 ((l.take n).map encFill) A c := by
  have := h.take n; rw [← List.map_take] at this; exact this
theorem blockAverages (l0 : List Fill) (m : Int) (A : Option Addr) (c : Nat) (w : World) (hr : Rs w 2 (l0.map encFill) A c) :
    Calls Try.prog 4 #[.slice A l0.length c, .int .i64 m] w fun e w' => e = .returned (.bool true) ∧ Below w.heap.size w w' := by
  have hl : (l0.take 20).length ≤ 1000000 := by rw [List.length_take]; omega
  exact blockAveragesAt l0 (l0.take 20) m _ _ _ _ _ _ A c w hr (takeFill hr 20)
    (fun W h => law22few l0 A c W h) (fun W h => blkAverage _ A c W hl h) (fun W h => ref22Average _ A c W hl h) (fun W h => blkRest m _ A c W hl h) (fun W h => ref22Rest m _ A c W hl h)
end Go.Proofs.Ytenehpcliajdnaa
