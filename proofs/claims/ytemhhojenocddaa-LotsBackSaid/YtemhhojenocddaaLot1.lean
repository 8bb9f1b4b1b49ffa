/- Lots: contracts of lots.right, order, Is, Get, checked; the search. -/
import Derived.Test.YtemhhojenocddaaLotT
import Derived.Test.YtemhhojenocddaaList
import Derived.Test.YtemhhojenocddaaRowL
import Derived.Test.YtemhhojenocddaaRows
import Derived.Deep.RegionLaw
import Derived.Outline
namespace Go.Proofs.Ytemhhojenocddaa
open Go.RowKit
theorem elLot : Elem Try.prog 56 58 3 24 := elem_of Try.underlying56 (z := .agg #[.int .i64 0, .int .i64 0, .int .i64 0]) (by kernel_rfl) rfl (by omega)
set_option maxRecDepth 100000 in
set_option maxHeartbeats 2000000 in
theorem lotRight (x : Lot) (w : World) : Calls Try.prog 71 #[.agg #[.int .i64 x.asset, .int .i64 x.tag, .int .i64 x.qty]] w fun e w' => e = .returned (.bool (rightL x)) ∧ Below w.heap.size w w' := by
  by_cases t0 : 1 ≤ x.asset
  rotate_left
  · have d0 := decide_eq_false t0
    have HN := Lib.hid (rightL_no (x := x) (by omega))
    go_enter Try.func71, Try.ntmps71
    go_wp2_with fail
    go_ret
    exact ⟨by rw [HN.out]; first | done | rfl, by (repeat' (first | (with_reducible exact Below.refl _ _) | (with_reducible assumption) | (with_reducible refine Below.alloc ?_ ?_ _) | (with_reducible refine Below.setCell ?_ ?_ _) | (with_reducible refine Below.drew ?_) | (with_reducible refine below_drewN ?_ _) | (with_reducible refine below_via ?_ (by with_reducible assumption) ?_) | omega | (simp; done) | (simp; omega)))⟩
  have d0 := decide_eq_true t0
  by_cases t1 : x.asset ≤ 4
  rotate_left
  · have d1 := decide_eq_false t1
    have HN := Lib.hid (rightL_no (x := x) (by omega))
    go_enter Try.func71, Try.ntmps71
    go_wp2_with fail
    go_ret
    exact ⟨by rw [HN.out]; first | done | rfl, by (repeat' (first | (with_reducible exact Below.refl _ _) | (with_reducible assumption) | (with_reducible refine Below.alloc ?_ ?_ _) | (with_reducible refine Below.setCell ?_ ?_ _) | (with_reducible refine Below.drew ?_) | (with_reducible refine below_drewN ?_ _) | (with_reducible refine below_via ?_ (by with_reducible assumption) ?_) | omega | (simp; done) | (simp; omega)))⟩
  have d1 := decide_eq_true t1
  by_cases t2 : 0 ≤ x.tag
  rotate_left
  · have d2 := decide_eq_false t2
    have HN := Lib.hid (rightL_no (x := x) (by omega))
    go_enter Try.func71, Try.ntmps71
    go_wp2_with fail
    go_ret
    exact ⟨by rw [HN.out]; first | done | rfl, by (repeat' (first | (with_reducible exact Below.refl _ _) | (with_reducible assumption) | (with_reducible refine Below.alloc ?_ ?_ _) | (with_reducible refine Below.setCell ?_ ?_ _) | (with_reducible refine Below.drew ?_) | (with_reducible refine below_drewN ?_ _) | (with_reducible refine below_via ?_ (by with_reducible assumption) ?_) | omega | (simp; done) | (simp; omega)))⟩
  have d2 := decide_eq_true t2
  by_cases t3 : x.tag ≤ 255
  rotate_left
  · have d3 := decide_eq_false t3
    have HN := Lib.hid (rightL_no (x := x) (by omega))
    go_enter Try.func71, Try.ntmps71
    go_wp2_with fail
    go_ret
    exact ⟨by rw [HN.out]; first | done | rfl, by (repeat' (first | (with_reducible exact Below.refl _ _) | (with_reducible assumption) | (with_reducible refine Below.alloc ?_ ?_ _) | (with_reducible refine Below.setCell ?_ ?_ _) | (with_reducible refine Below.drew ?_) | (with_reducible refine below_drewN ?_ _) | (with_reducible refine below_via ?_ (by with_reducible assumption) ?_) | omega | (simp; done) | (simp; omega)))⟩
  have d3 := decide_eq_true t3
  by_cases t4 : 0 < x.qty
  rotate_left
  · have d4 := decide_eq_false t4
    have HN := Lib.hid (rightL_no (x := x) (by omega))
    go_enter Try.func71, Try.ntmps71
    go_wp2_with fail
    go_ret
    exact ⟨by rw [HN.out]; first | done | rfl, by (repeat' (first | (with_reducible exact Below.refl _ _) | (with_reducible assumption) | (with_reducible refine Below.alloc ?_ ?_ _) | (with_reducible refine Below.setCell ?_ ?_ _) | (with_reducible refine Below.drew ?_) | (with_reducible refine below_drewN ?_ _) | (with_reducible refine below_via ?_ (by with_reducible assumption) ?_) | omega | (simp; done) | (simp; omega)))⟩
  have d4 := decide_eq_true t4
  have HN := Lib.hid (rightL_iff (x := x).2 ⟨by omega, by omega, by omega, by omega, by omega⟩)
  go_enter Try.func71, Try.ntmps71
  go_wp2_with fail
  go_ret
  exact ⟨by rw [HN.out]; first | done | rfl, by (repeat' (first | (with_reducible exact Below.refl _ _) | (with_reducible assumption) | (with_reducible refine Below.alloc ?_ ?_ _) | (with_reducible refine Below.setCell ?_ ?_ _) | (with_reducible refine Below.drew ?_) | (with_reducible refine below_drewN ?_ _) | (with_reducible refine below_via ?_ (by with_reducible assumption) ?_) | omega | (simp; done) | (simp; omega)))⟩
set_option maxHeartbeats 400000 in
theorem cmpInt (a b : Int) (w : World) :
    Calls Try.prog 104 #[.int .i64 a, .int .i64 b] w fun e w' => e = .returned (.int .i64 (ord a b)) ∧ w = w' := by
  go_enter Try.func104, Try.ntmps104
  go_wp2
  all_goals (go_ret; exact ⟨ret_int (by unfold ord; repeat' split <;> omega), rfl⟩)
set_option maxRecDepth 100000 in
set_option maxHeartbeats 4000000 in
theorem lotOrder (a b : Lot) (w : World) : Calls Try.prog 72 #[.agg #[.int .i64 a.asset, .int .i64 a.tag, .int .i64 a.qty], .agg #[.int .i64 b.asset, .int .i64 b.tag, .int .i64 b.qty]] w fun e w' => e = .returned (.int .i64 (ordL a b)) ∧ Below w.heap.size w w' := by
  unfold ordL
  generalize ho1 : ord a.asset b.asset = o1
  generalize ho2 : ord a.tag b.tag = o2
  have C1 := Lib.hid (fun W => show Calls Try.prog 104 #[.int .i64 a.asset, .int .i64 b.asset] W fun e w' => e = .returned (.int .i64 o1) ∧ W = w' from by rw [← ho1]; exact cmpInt _ _ _)
  have C2 := Lib.hid (fun W => show Calls Try.prog 104 #[.int .i64 a.tag, .int .i64 b.tag] W fun e w' => e = .returned (.int .i64 o2) ∧ W = w' from by rw [← ho2]; exact cmpInt _ _ _)
  clear ho1 ho2
  go_enter Try.func72, Try.ntmps72
  go_wp2_with fail
  go_region_held3 (fun w' => (w'.cell? ⟨w.heap.size, 0, none⟩ = some (.int .i64 a.asset) ∧ w'.cell? ⟨w.heap.size, 1, none⟩ = some (.int .i64 a.tag)) ∧ w'.cell? ⟨w.heap.size + 1, 0, none⟩ = some (.int .i64 b.asset) ∧ w'.cell? ⟨w.heap.size + 1, 1, none⟩ = some (.int .i64 b.tag)) (first | (simp [go_sem]; done) | (repeat' (first | (with_reducible assumption) | (with_reducible refine And.intro ?_ ?_) | (with_reducible refine cell_drew ?_) | (with_reducible refine cell_via (by with_reducible assumption) ?_ ?_) | (simp [*]; done) | (simp [go_sem]; done) | (with_reducible refine cell_alloc ?_ ?_) | (with_reducible refine cell_set_far ?_ ?_) | omega | (simp; omega)))) (first | (go_at_call 104; (with_reducible refine (C1.out _).mono ?_); rintro e w1 ⟨rfl, rfl⟩) | (go_at_call 104; (with_reducible refine (C2.out _).mono ?_); rintro e w2 ⟨rfl, rfl⟩) | (go_at_call 103; (with_reducible refine (cmpOr2 o1 o2 _ _ 0 _ ?_ ?_).mono ?_); (focus (simp [go_sem]; done)); (focus (simp [go_sem]; done)); rintro e w3 ⟨rfl, rfl⟩) | fail)
  all_goals
    go_wp2_with fail
    go_ret
    exact ⟨rfl, by (repeat' (first | (with_reducible exact Below.refl _ _) | (with_reducible assumption) | (with_reducible refine Below.alloc ?_ ?_ _) | (with_reducible refine Below.setCell ?_ ?_ _) | (with_reducible refine Below.drew ?_) | (with_reducible refine below_drewN ?_ _) | (with_reducible refine below_via ?_ (by with_reducible assumption) ?_) | omega | (simp; done) | (simp; omega)))⟩
set_option maxRecDepth 100000 in
set_option maxHeartbeats 4000000 in
theorem lotSearch (l : List Lot) (t : Lot) (A : Option Addr) (c : Nat) (w : World) (hl : l.length ≤ 1048576) (hr : Rd w A 3 (l.map encLot)) (hs : ∀ i j (_ : i < j) (hj : j < l.length), (fun x : Lot => decide (ordL x t < 0)) l[j] = true → (fun x : Lot => decide (ordL x t < 0)) l[i] = true) :
    Calls Try.prog 78 #[.slice A l.length c, .agg #[.int .i64 t.asset, .int .i64 t.tag, .int .i64 t.qty], .func (Fn.func 72) #[] #[]] w fun e w' => e = .returned (.tuple #[.int .i64 ((l.takeWhile (fun x : Lot => decide (ordL x t < 0))).length : Nat), .bool (atB (fun x : Lot => (ordL x t == 0)) l (l.takeWhile (fun x : Lot => decide (ordL x t < 0))).length)]) ∧ Below w.heap.size w w' := by
  have HR := Lib.hid hr
  have HSO := Lib.hid hs
  clear hr hs
  go_enter Try.func78, Try.ntmps78
  go_wp2_with fail
  go_loopw [9, 10] (fun i j wr => ∃ (a b : Nat), a ≤ b ∧ b ≤ l.length ∧ i = .int .i64 a ∧ j = .int .i64 b ∧ (∀ q (_ : q < l.length), q < a → (fun x : Lot => decide (ordL x t < 0)) l[q] = true) ∧ (∀ q (_ : q < l.length), b ≤ q → (fun x : Lot => decide (ordL x t < 0)) l[q] = false) ∧ Below w.heap.size w wr ∧ w.heap.size < wr.heap.size ∧ (wr.cell? ⟨w.heap.size, 0, none⟩ = some (.int .i64 t.asset) ∧ wr.cell? ⟨w.heap.size, 1, none⟩ = some (.int .i64 t.tag) ∧ wr.cell? ⟨w.heap.size, 2, none⟩ = some (.int .i64 t.qty))) (fun i j _ => (intOf j).toNat - (intOf i).toNat)
  case atStart => exact ⟨0, l.length, Nat.zero_le _, Nat.le_refl _, rfl, rfl, fun q _ h => absurd h (by omega), fun q h1 h2 => absurd h1 (by omega), by (repeat' (first | (with_reducible exact Below.refl _ _) | (with_reducible assumption) | (with_reducible refine Below.alloc ?_ ?_ _) | (with_reducible refine Below.setCell ?_ ?_ _) | (with_reducible refine Below.drew ?_) | (with_reducible refine below_drewN ?_ _) | (with_reducible refine below_via ?_ (by with_reducible assumption) ?_) | omega | (simp; done) | (simp; omega))), by simp, by simp [go_sem]⟩
  case round =>
    obtain ⟨p, q, hpq, hql, rfl, rfl, hlo, hhi, hbl, hsz, g0, g1, g2⟩ := hrel
    have Hlo := Lib.hid hlo
    have Hhi := Lib.hid hhi
    have Hbl := Lib.hid hbl
    have hz := hbl.size
    clear hlo hhi hbl
    by_cases hlt : p < q
    · have d1 : decide ((p : Int) < (q : Int)) = true := by simpa using hlt
      obtain ⟨h, hh⟩ : ∃ h, h = (p + q) / 2 := ⟨_, rfl⟩
      have hhp : p ≤ h ∧ h < q := by omega
      have hhl : h < l.length := by omega
      have hhi : ((p : Int) + (q : Int)) / 2 < (l.length : Int) := by omega
      have w9 : IntKind.i64.wrap ((p : Int) + (q : Int)) = (p : Int) + (q : Int) := by rw [IntKind.wrap_i64]; omega
      have w8 : IntKind.u64.wrap ((p : Int) + (q : Int)) = (p : Int) + (q : Int) := by rw [IntKind.wrap_u64]; omega
      obtain ⟨b, o, rfl, hb, hc⟩ := HR.out h (encLot l[h]) (by simp [hhl])
      have e0 := (Hbl.out.cell (p := ⟨b, o + h * 3 + 0, none⟩) hb).trans (hc 0 _ rfl)
      have e1 := (Hbl.out.cell (p := ⟨b, o + h * 3 + 1, none⟩) hb).trans (hc 1 _ rfl)
      have e2 := (Hbl.out.cell (p := ⟨b, o + h * 3 + 2, none⟩) hb).trans (hc 2 _ rfl)
      simp only [Nat.add_zero] at e0
      clear hc
      subst hh
      cases hm : decide (ordL l[(p + q) / 2] t < 0)
      · have Hm := Lib.hid hm
        have hbw : b < wr.heap.size := by omega
        go_wp2_with fail
        have nk : (0 : Int) ≤ ((p : Int) + (q : Int)) / 2 := by omega
        have tk : (((p : Int) + (q : Int)) / 2).toNat = (p + q) / 2 := by omega
        go_region_held3 (fun w' => (w'.cell? ⟨b, o + (p + q) / 2 * 3, none⟩ = some (.int .i64 l[(p + q) / 2].asset) ∧ w'.cell? ⟨b, o + (p + q) / 2 * 3 + 1, none⟩ = some (.int .i64 l[(p + q) / 2].tag) ∧ w'.cell? ⟨b, o + (p + q) / 2 * 3 + 2, none⟩ = some (.int .i64 l[(p + q) / 2].qty)) ∧ w'.cell? ⟨w.heap.size, 0, none⟩ = some (.int .i64 t.asset) ∧ w'.cell? ⟨w.heap.size, 1, none⟩ = some (.int .i64 t.tag) ∧ w'.cell? ⟨w.heap.size, 2, none⟩ = some (.int .i64 t.qty)) (first | (simp [go_sem]; done) | (repeat' (first | (with_reducible assumption) | (with_reducible refine And.intro ?_ ?_) | (with_reducible refine cell_drew ?_) | (with_reducible refine cell_via (by with_reducible assumption) ?_ ?_) | (simp [*]; done) | (simp [go_sem]; done) | (with_reducible refine cell_alloc ?_ ?_) | (with_reducible refine cell_set_far ?_ ?_) | omega | (simp; omega)))) (first | (go_at_call 72; (with_reducible refine (lotOrder l[(p + q) / 2] t _).mono ?_); rintro e w3 ⟨rfl, hb3⟩; obtain ⟨fc3, fg3, hc3, hf3, hz3⟩ := bget hb3; (try simp at hz3); have Hb3 := Lib.hid hb3; clear hb3) | fail)
        clear nk tk
        go_wp2_with fail
        go_roundw
        case rel =>
          refine ⟨p, (p + q) / 2, by omega, by omega, rfl, by go_num, Hlo.out, ?_, by have hbl := Hbl.out; have hb3 := Hb3.out; (repeat' (first | (with_reducible exact Below.refl _ _) | (with_reducible assumption) | (with_reducible refine Below.alloc ?_ ?_ _) | (with_reducible refine Below.setCell ?_ ?_ _) | (with_reducible refine Below.drew ?_) | (with_reducible refine below_drewN ?_ _) | (with_reducible refine below_via ?_ (by with_reducible assumption) ?_) | omega | (simp; done) | (simp; omega))), by omega, by rw [hc3]; simp [go_sem, g0, hsz], by rw [hc3]; simp [go_sem, g1, hsz], by rw [hc3]; simp [go_sem, g2, hsz]⟩
          intro q' hq' h1
          cases h2 : decide (ordL l[q'] t < 0)
          · rfl
          · exfalso
            by_cases h3 : (p + q) / 2 < q'
            · have h4 := HSO.out ((p + q) / 2) q' h3 hq' h2
              have h5 : decide (ordL l[(p + q) / 2] t < 0) = true := h4
              rw [Hm.out] at h5; cases h5
            · have h6 : q' = (p + q) / 2 := by omega
              subst h6
              rw [Hm.out] at h2; cases h2
        case measure => simp [intOf]; omega
      · have Hm := Lib.hid hm
        have w5 : IntKind.i64.wrap (((p : Int) + (q : Int)) / 2 + 1) = ((p : Int) + (q : Int)) / 2 + 1 := by rw [IntKind.wrap_i64]; omega
        have hbw : b < wr.heap.size := by omega
        go_wp2_with fail
        have nk : (0 : Int) ≤ ((p : Int) + (q : Int)) / 2 := by omega
        have tk : (((p : Int) + (q : Int)) / 2).toNat = (p + q) / 2 := by omega
        go_region_held3 (fun w' => (w'.cell? ⟨b, o + (p + q) / 2 * 3, none⟩ = some (.int .i64 l[(p + q) / 2].asset) ∧ w'.cell? ⟨b, o + (p + q) / 2 * 3 + 1, none⟩ = some (.int .i64 l[(p + q) / 2].tag) ∧ w'.cell? ⟨b, o + (p + q) / 2 * 3 + 2, none⟩ = some (.int .i64 l[(p + q) / 2].qty)) ∧ w'.cell? ⟨w.heap.size, 0, none⟩ = some (.int .i64 t.asset) ∧ w'.cell? ⟨w.heap.size, 1, none⟩ = some (.int .i64 t.tag) ∧ w'.cell? ⟨w.heap.size, 2, none⟩ = some (.int .i64 t.qty)) (first | (simp [go_sem]; done) | (repeat' (first | (with_reducible assumption) | (with_reducible refine And.intro ?_ ?_) | (with_reducible refine cell_drew ?_) | (with_reducible refine cell_via (by with_reducible assumption) ?_ ?_) | (simp [*]; done) | (simp [go_sem]; done) | (with_reducible refine cell_alloc ?_ ?_) | (with_reducible refine cell_set_far ?_ ?_) | omega | (simp; omega)))) (first | (go_at_call 72; (with_reducible refine (lotOrder l[(p + q) / 2] t _).mono ?_); rintro e w3 ⟨rfl, hb3⟩; obtain ⟨fc3, fg3, hc3, hf3, hz3⟩ := bget hb3; (try simp at hz3); have Hb3 := Lib.hid hb3; clear hb3) | fail)
        clear nk tk
        go_wp2_with fail
        go_roundw
        case rel =>
          refine ⟨(p + q) / 2 + 1, q, by omega, by omega, by go_num, rfl, ?_, Hhi.out, by have hbl := Hbl.out; have hb3 := Hb3.out; (repeat' (first | (with_reducible exact Below.refl _ _) | (with_reducible assumption) | (with_reducible refine Below.alloc ?_ ?_ _) | (with_reducible refine Below.setCell ?_ ?_ _) | (with_reducible refine Below.drew ?_) | (with_reducible refine below_drewN ?_ _) | (with_reducible refine below_via ?_ (by with_reducible assumption) ?_) | omega | (simp; done) | (simp; omega))), by omega, by rw [hc3]; simp [go_sem, g0, hsz], by rw [hc3]; simp [go_sem, g1, hsz], by rw [hc3]; simp [go_sem, g2, hsz]⟩
          intro q' hq' h1
          by_cases h3 : q' < (p + q) / 2
          · exact HSO.out q' ((p + q) / 2) h3 hhl Hm.out
          · have h6 : q' = (p + q) / 2 := by omega
            subst h6
            exact Hm.out
        case measure => simp [intOf]; omega
    · obtain rfl : p = q := by omega
      have d1 : decide ((p : Int) < (p : Int)) = false := by simp
      have hw := while_cut (p := fun x : Lot => decide (ordL x t < 0)) (fun j hj h => Hlo.out j hj h) hql (fun h => Hhi.out p h (Nat.le_refl _))
      have hlen : (l.takeWhile (fun x : Lot => decide (ordL x t < 0))).length = p := by rw [hw.1, List.length_take]; omega
      have HL := Lib.hid hlen
      clear hw hlen
      by_cases hpl : p < l.length
      · have d2 : decide ((p : Int) < (l.length : Int)) = true := by simpa using hpl
        have hpi : (p : Int) < (l.length : Int) := by omega
        obtain ⟨b, o, rfl, hb, hc⟩ := HR.out p (encLot l[p]) (by simp [hpl])
        have e0 := (Hbl.out.cell (p := ⟨b, o + p * 3 + 0, none⟩) hb).trans (hc 0 _ rfl)
        have e1 := (Hbl.out.cell (p := ⟨b, o + p * 3 + 1, none⟩) hb).trans (hc 1 _ rfl)
        have e2 := (Hbl.out.cell (p := ⟨b, o + p * 3 + 2, none⟩) hb).trans (hc 2 _ rfl)
        simp only [Nat.add_zero] at e0
        clear hc
        obtain ⟨h, hh⟩ : ∃ h, h = p := ⟨_, rfl⟩
        have HG := Lib.hid (atB_some (p := fun x : Lot => (ordL x t == 0)) hpl)
        have hbw : b < wr.heap.size := by omega
        go_wp2_with fail
        go_region_held3 (fun w' => (w'.cell? ⟨b, o + p * 3, none⟩ = some (.int .i64 l[p].asset) ∧ w'.cell? ⟨b, o + p * 3 + 1, none⟩ = some (.int .i64 l[p].tag) ∧ w'.cell? ⟨b, o + p * 3 + 2, none⟩ = some (.int .i64 l[p].qty)) ∧ w'.cell? ⟨w.heap.size, 0, none⟩ = some (.int .i64 t.asset) ∧ w'.cell? ⟨w.heap.size, 1, none⟩ = some (.int .i64 t.tag) ∧ w'.cell? ⟨w.heap.size, 2, none⟩ = some (.int .i64 t.qty)) (first | (simp [go_sem]; done) | (repeat' (first | (with_reducible assumption) | (with_reducible refine And.intro ?_ ?_) | (with_reducible refine cell_drew ?_) | (with_reducible refine cell_via (by with_reducible assumption) ?_ ?_) | (simp [*]; done) | (simp [go_sem]; done) | (with_reducible refine cell_alloc ?_ ?_) | (with_reducible refine cell_set_far ?_ ?_) | omega | (simp; omega)))) (first | (go_at_call 72; (with_reducible refine (lotOrder l[p] t _).mono ?_); rintro e w3 ⟨rfl, hb3⟩; obtain ⟨fc3, fg3, hc3, hf3, hz3⟩ := bget hb3; (try simp at hz3); have Hb3 := Lib.hid hb3; clear hb3) | fail)
        go_wp2_with fail
        go_ret2
        exact ⟨by rw [HL.out, HG.out]; rfl, by have hbl := Hbl.out; have hb3 := Hb3.out; (repeat' (first | (with_reducible exact Below.refl _ _) | (with_reducible assumption) | (with_reducible refine Below.alloc ?_ ?_ _) | (with_reducible refine Below.setCell ?_ ?_ _) | (with_reducible refine Below.drew ?_) | (with_reducible refine below_drewN ?_ _) | (with_reducible refine below_via ?_ (by with_reducible assumption) ?_) | omega | (simp; done) | (simp; omega)))⟩
      · have d2 : decide ((p : Int) < (l.length : Int)) = false := by simpa using hpl
        have HG := Lib.hid (atB_none (p := fun x : Lot => (ordL x t == 0)) (Nat.le_of_not_lt hpl))
        go_wp2_with fail
        go_quiet (fail)
        go_wp2_with fail
        go_ret2
        exact ⟨by rw [HL.out, HG.out]; rfl, by have hbl := Hbl.out; (repeat' (first | (with_reducible exact Below.refl _ _) | (with_reducible assumption) | (with_reducible refine Below.alloc ?_ ?_ _) | (with_reducible refine Below.setCell ?_ ?_ _) | (with_reducible refine Below.drew ?_) | (with_reducible refine below_drewN ?_ _) | (with_reducible refine below_via ?_ (by with_reducible assumption) ?_) | omega | (simp; done) | (simp; omega)))⟩
end Go.Proofs.Ytemhhojenocddaa
