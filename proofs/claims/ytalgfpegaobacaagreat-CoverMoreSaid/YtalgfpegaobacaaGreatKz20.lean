/- Joined: Lot3, LotF, Ref18d, LotP, Grown, Lot7, Lot8, Lot4, Lot6, Ref18c. -/
import Derived.Test.YtalgfpegaobacaaGreatKz11
import Derived.Test.YtalgfpegaobacaaGreatKz8
import Derived.Test.YtalgfpegaobacaaGreatKz12
import Derived.Test.YtalgfpegaobacaaGreatKz18
import Derived.Test.YtalgfpegaobacaaGreatKz17
import Derived.Test.YtalgfpegaobacaaGreatKz2
import Derived.Outline
import Derived.Deep.CutRange
import Derived.Deep.DeepCutAuto
/- Lots: contracts of slices.Clone, Insert, Delete of lots. -/
namespace Go.Proofs.YtalgfpegaobacaaGreat
open Go.RowKit
set_option maxRecDepth 100000 in
set_option maxHeartbeats 1000000 in
theorem lotClone (l : List Lot) (A : Option Addr) (c : Nat) (w : World) (hl : l.length ≤ 1099511627776) (hr : Rs w 3 (l.map encLot) A c) :
    Calls Tryz.prog 53 #[.slice A l.length c] w fun e w' => ∃ v, e = .returned v ∧ Own w' w.heap.size 33 3 v (l.map encLot) ∧ Below w.heap.size w w' := by
  have Hr := Lib.hid hr
  have hnil := fun W : World => Lib.run_eql_slice_nil (P := Tryz.prog) W 65 33 A l.length c 0 0 Tryz.underlying65
  rcases A with _ | ad
  · have hl0 : l = [] := List.map_eq_nil_iff.1 hr.nilrows
    have hc0 : c = 0 := hr.nil rfl
    subst hl0 hc0
    simp only [List.length_nil] at hnil ⊢
    clear hr
    go_enter Tryz.func53, Tryz.ntmps53
    go_wp2_with fail
    go_ret
    exact ⟨_, rfl, Own.nil _ _ _ _, by (repeat' (first | (with_reducible exact Below.refl _ _) | (with_reducible assumption) | (with_reducible refine Below.alloc ?_ ?_ _) | (with_reducible refine Below.setCell ?_ ?_ _) | (with_reducible refine Below.drew ?_) | (with_reducible refine below_drewN ?_ _) | (with_reducible refine below_via ?_ (by with_reducible assumption) ?_) | omega | (simp; done) | (simp; omega)))⟩
  · clear hr
    go_enter Tryz.func53, Tryz.ntmps53
    go_wp2_with (at_builtin; refine wpList_app rfl _ _ _ rfl elLot w.heap.size _ [] rfl (Own.made w (Nat.le_refl _)) (some ad) l.length c rfl (l.map encLot) (by simp) (fun h => by cases h) (Hr.out.keep ((Below.refl _ _).alloc (Nat.le_refl _) _)).rd (rowsLot l) (by unfold maxLen; simp; omega) (by simp; omega) (by simp) ?_; intro v' w3 hown3 hb3)
    go_ret
    exact ⟨v', rfl, by simpa using hown3, ((Below.refl _ _).alloc (Nat.le_refl _) _).trans hb3⟩
end Go.Proofs.YtalgfpegaobacaaGreat

/- Layer 18's laws: Few. -/
namespace Go.Proofs.YtalgfpegaobacaaGreat
open Go.RowKit
set_option maxRecDepth 100000 in
set_option maxHeartbeats 8000000 in
theorem law18Few (l : List Lot) (A : Option Addr) (c : Nat) (w : World) (hr : Rs w 3 (l.map encLot) A c) :
    Calls Tryz.prog 42 #[.slice A l.length c] w fun e w' => e = .returned (.slice A (l.take 20).length c) ∧ Below w.heap.size w w' := by
  have hlc : l.length ≤ c := by have := hr.cap; rw [List.length_map] at this; exact this
  have hcm := hr.room
  unfold maxLen at hcm
  by_cases h : 20 < l.length
  · have HN := Lib.hid (show (l.take 20).length = 20 from by rw [List.length_take]; omega)
    have d1 : decide (20 < (l.length : Int)) = true := by simp; omega
    obtain ⟨b, o, rfl, hq⟩ := hr.rd 0 (encLot (l[0]'(by omega))) (by rw [List.getElem?_map, List.getElem?_eq_getElem (by omega)]; rfl)
    rw [HN.out]
    clear hq hr
    go_enter Tryz.func42, Tryz.ntmps42
    go_wp2_with fail
    all_goals
      go_ret
      exact ⟨rfl, by (repeat' (first | (with_reducible exact Below.refl _ _) | (with_reducible assumption) | (with_reducible refine Below.alloc ?_ ?_ _) | (with_reducible refine Below.setCell ?_ ?_ _) | (with_reducible refine Below.drew ?_) | (with_reducible refine below_drewN ?_ _) | (with_reducible refine below_via ?_ (by with_reducible assumption) ?_) | omega | (simp; done) | (simp; omega)))⟩
  · rw [List.take_of_length_le (by omega)]
    have d1 : decide (20 < (l.length : Int)) = false := by simp; omega
    clear hr
    go_enter Tryz.func42, Tryz.ntmps42
    go_wp2_with fail
    go_ret
    exact ⟨rfl, by (repeat' (first | (with_reducible exact Below.refl _ _) | (with_reducible assumption) | (with_reducible refine Below.alloc ?_ ?_ _) | (with_reducible refine Below.setCell ?_ ?_ _) | (with_reducible refine Below.drew ?_) | (with_reducible refine below_drewN ?_ _) | (with_reducible refine below_via ?_ (by with_reducible assumption) ?_) | omega | (simp; done) | (simp; omega)))⟩
end Go.Proofs.YtalgfpegaobacaaGreat

/- Lots: contract of the reference's set. -/
namespace Go.Proofs.YtalgfpegaobacaaGreat
open Go.RowKit
/-- Lots in which x's has so much. -/
def setG (x : Lot) : Bool → List Lot → List Lot
  | done, [] => if done then [] else [x]
  | done, y :: t => (if (!done && !ltL y x) = true then [x] else []) ++ ((if (y.asset == x.asset && y.tag == x.tag) = true then [] else [y]) ++ setG x (done || !ltL y x) t)
set_option maxRecDepth 100000 in
set_option maxHeartbeats 32000000 in
theorem ref18set (l : List Lot) (x : Lot) (A : Option Addr) (c : Nat) (w : World) (hl : l.length ≤ 400000) (hr : Rd w A 3 (l.map encLot)) :
    Calls Tryz.prog 61 #[.slice A l.length c, .agg #[.int .i64 x.asset, .int .i64 x.tag, .int .i64 x.qty]] w fun e w' => ∃ v, e = .returned v ∧ Own w' w.heap.size 33 3 v ((setG x (x.qty == 0) l).map encLot) ∧ Below w.heap.size w w' := by
  have HR := Lib.hid hr
  clear hr
  obtain ⟨d0, hd0⟩ : ∃ d0, d0 = (x.qty == 0) := ⟨_, rfl⟩
  rw [← hd0]
  have hq0 : (x.qty == 0) = d0 := hd0.symm
  clear hd0
  go_enter Tryz.func61, Tryz.ntmps61
  go_wp2_with fail
  go_loopw [5, 6, 7] (fun v dn i wr => ∃ (k : Nat) (d : Bool) (O : List Lot), k ≤ l.length ∧ i = .int .i64 k ∧ dn = .bool d ∧ Own wr (w.heap.size + 1) 33 3 v (O.map encLot) ∧ setG x d0 l = O ++ setG x d (l.drop k) ∧ Below w.heap.size w wr ∧ w.heap.size < wr.heap.size ∧ (wr.cell? ⟨w.heap.size, 0, none⟩ = some (.int .i64 x.asset) ∧ wr.cell? ⟨w.heap.size, 1, none⟩ = some (.int .i64 x.tag) ∧ wr.cell? ⟨w.heap.size, 2, none⟩ = some (.int .i64 x.qty)) ∧ O.length ≤ 2 * k) (fun _ _ i _ => l.length - (intOf i).toNat)
  case atStart => exact ⟨0, d0, [], Nat.zero_le _, rfl, rfl, Own.nil _ _ _ _, rfl, by (repeat' (first | (with_reducible exact Below.refl _ _) | (with_reducible assumption) | (with_reducible refine Below.alloc ?_ ?_ _) | (with_reducible refine Below.setCell ?_ ?_ _) | (with_reducible refine Below.drew ?_) | (with_reducible refine below_drewN ?_ _) | (with_reducible refine below_via ?_ (by with_reducible assumption) ?_) | omega | (simp; done) | (simp; omega))), by simp, by simp [go_sem], by simp⟩
  case round =>
    obtain ⟨k, d, O, hk, rfl, rfl, hown, hg, hbl, hsz, ⟨m0, m1, m2⟩, hOl⟩ := hrel
    have Hown := Lib.hid hown
    have Hbl := Lib.hid hbl
    have hz := hbl.size
    clear hown hbl hq0
    by_cases hlt : k < l.length
    · have kl : (k : Int) < (l.length : Int) := by omega
      have dl : decide ((k : Int) < (l.length : Int)) = true := by simpa using hlt
      have hg2 : setG x d0 l = O ++ ((if (!d && !ltL l[k] x) = true then [x] else []) ++ ((if (l[k].asset == x.asset && l[k].tag == x.tag) = true then [] else [l[k]]) ++ setG x (d || !ltL l[k] x) (l.drop (k + 1)))) := by rw [hg, drop_cons' hlt]; rfl
      have cl := fun W => ref18less l[k] x W
      clear hg
      obtain ⟨b, o, rfl, hb, hc⟩ := HR.out k (encLot l[k]) (by simp [hlt])
      have e0 := (Hbl.out.cell (p := ⟨b, o + k * 3 + 0, none⟩) hb).trans (hc 0 _ rfl)
      have e1 := (Hbl.out.cell (p := ⟨b, o + k * 3 + 1, none⟩) hb).trans (hc 1 _ rfl)
      have e2 := (Hbl.out.cell (p := ⟨b, o + k * 3 + 2, none⟩) hb).trans (hc 2 _ rfl)
      simp only [Nat.add_zero] at e0
      clear hc
      have hbw : b < wr.heap.size := by omega
      generalize hlq : ltL l[k] x = lq at cl hg2
      have CL := Lib.hid cl
      clear cl hlq
      cases d
      · cases lq
        · have HG0 := Lib.hid hg2
          clear hg2
          cases ea : (l[k].asset == x.asset)
          · have HG := Lib.hid (show setG x d0 l = (O ++ [x] ++ [l[k]]) ++ setG x true (l.drop (k + 1)) from by rw [HG0.out, ea]; simp)
            have na : (l[k].asset != x.asset) = true := by simp only [bne, ea]; rfl
            go_wp2_with fail
            go_region_held3 (fun w' => (w'.cell? ⟨b, o + k * 3, none⟩ = some (.int .i64 l[k].asset) ∧ w'.cell? ⟨b, o + k * 3 + 1, none⟩ = some (.int .i64 l[k].tag) ∧ w'.cell? ⟨b, o + k * 3 + 2, none⟩ = some (.int .i64 l[k].qty)) ∧ w'.cell? ⟨w.heap.size, 0, none⟩ = some (.int .i64 x.asset) ∧ w'.cell? ⟨w.heap.size, 1, none⟩ = some (.int .i64 x.tag) ∧ w'.cell? ⟨w.heap.size, 2, none⟩ = some (.int .i64 x.qty)) (first | (simp [go_sem]; done) | (repeat' (first | (with_reducible assumption) | (with_reducible refine And.intro ?_ ?_) | (with_reducible refine cell_drew ?_) | (with_reducible refine cell_via (by with_reducible assumption) ?_ ?_) | (simp [*]; done) | (simp [go_sem]; done) | (with_reducible refine cell_alloc ?_ ?_) | (with_reducible refine cell_set_far ?_ ?_) | omega | (simp; omega)))) (first | (go_at_call 89; (with_reducible refine (CL.out _).mono ?_); rintro e w1 ⟨rfl, hb1⟩; obtain ⟨fc1, fg1, hc1, hf1, hz1⟩ := bget hb1; (try simp at hz1)) | fail)
            go_wp2_with (first | (at_builtin; refine wpList_app rfl _ _ _ rfl elLot (w.heap.size + 1) _ _ rfl ((Hown.out.keep (by (repeat' (first | (with_reducible exact Below.refl _ _) | (with_reducible assumption) | (with_reducible refine Below.alloc ?_ ?_ _) | (with_reducible refine Below.setCell ?_ ?_ _) | (with_reducible refine Below.drew ?_) | (with_reducible refine below_drewN ?_ _) | (with_reducible refine below_via ?_ (by with_reducible assumption) ?_) | omega | (simp; done) | (simp; omega))))).alloc _) (some ⟨_, 0, none⟩) 1 1 rfl [encLot x] rfl (fun h => by cases h) (rd_oneN (by simp)) (rowsLot [x]) (by unfold maxLen; first | (simp; done) | omega | (simp; omega)) (by first | (simp; done) | omega | (simp; omega)) (by first | omega | (simp; done) | (simp; omega)) ?_; intro v3 w3 hown3 hb3; obtain ⟨fc3, fg3, hc3, hf3, hz3⟩ := bget hb3; (try simp at hz3)) | fail)
            go_quiet (fail)
            go_wp2_with (first | (at_builtin; refine wpList_app rfl _ _ _ rfl elLot (w.heap.size + 1) _ _ rfl ((hown3.drew).alloc _) (some ⟨_, 0, none⟩) 1 1 rfl [encLot l[k]] rfl (fun h => by cases h) (rd_oneN (by simp)) (rowsLot [l[k]]) (by unfold maxLen; first | (simp; done) | omega | (simp; omega)) (by first | (simp; done) | omega | (simp; omega)) (by first | omega | (simp; done) | (simp; omega)) ?_; intro v4 w4 hown4 hb4; obtain ⟨fc4, fg4, hc4, hf4, hz4⟩ := bget hb4; (try simp at hz4)) | fail)
            go_roundw
            case rel => exact ⟨k + 1, true, O ++ [x] ++ [l[k]], by omega, by go_num, rfl, (by rw [List.map_append, List.map_append]; exact hown4), by rw [HG.out], by have hbl := Hbl.out; (repeat' (first | (with_reducible exact Below.refl _ _) | (with_reducible assumption) | (with_reducible refine Below.alloc ?_ ?_ _) | (with_reducible refine Below.setCell ?_ ?_ _) | (with_reducible refine Below.drew ?_) | (with_reducible refine below_drewN ?_ _) | (with_reducible refine below_via ?_ (by with_reducible assumption) ?_) | omega | (simp; done) | (simp; omega))), (by first | omega | (simp; done) | (simp; omega)), ⟨by simp [hc4, hc3, hc1, go_sem, m0, hsz, ↓IntWalk.iteOmega], by simp [hc4, hc3, hc1, go_sem, m1, hsz, ↓IntWalk.iteOmega], by simp [hc4, hc3, hc1, go_sem, m2, hsz, ↓IntWalk.iteOmega]⟩, by first | omega | (simp; omega)⟩
            case measure => simp [intOf]; omega
          · cases et : (l[k].tag == x.tag)
            · have HG := Lib.hid (show setG x d0 l = (O ++ [x] ++ [l[k]]) ++ setG x true (l.drop (k + 1)) from by rw [HG0.out, ea, et]; simp)
              have na : (l[k].asset != x.asset) = false := by simp only [bne, ea]; rfl
              have nt : (l[k].tag != x.tag) = true := by simp only [bne, et]; rfl
              go_wp2_with fail
              go_region_held3 (fun w' => (w'.cell? ⟨b, o + k * 3, none⟩ = some (.int .i64 l[k].asset) ∧ w'.cell? ⟨b, o + k * 3 + 1, none⟩ = some (.int .i64 l[k].tag) ∧ w'.cell? ⟨b, o + k * 3 + 2, none⟩ = some (.int .i64 l[k].qty)) ∧ w'.cell? ⟨w.heap.size, 0, none⟩ = some (.int .i64 x.asset) ∧ w'.cell? ⟨w.heap.size, 1, none⟩ = some (.int .i64 x.tag) ∧ w'.cell? ⟨w.heap.size, 2, none⟩ = some (.int .i64 x.qty)) (first | (simp [go_sem]; done) | (repeat' (first | (with_reducible assumption) | (with_reducible refine And.intro ?_ ?_) | (with_reducible refine cell_drew ?_) | (with_reducible refine cell_via (by with_reducible assumption) ?_ ?_) | (simp [*]; done) | (simp [go_sem]; done) | (with_reducible refine cell_alloc ?_ ?_) | (with_reducible refine cell_set_far ?_ ?_) | omega | (simp; omega)))) (first | (go_at_call 89; (with_reducible refine (CL.out _).mono ?_); rintro e w1 ⟨rfl, hb1⟩; obtain ⟨fc1, fg1, hc1, hf1, hz1⟩ := bget hb1; (try simp at hz1)) | fail)
              go_wp2_with (first | (at_builtin; refine wpList_app rfl _ _ _ rfl elLot (w.heap.size + 1) _ _ rfl ((Hown.out.keep (by (repeat' (first | (with_reducible exact Below.refl _ _) | (with_reducible assumption) | (with_reducible refine Below.alloc ?_ ?_ _) | (with_reducible refine Below.setCell ?_ ?_ _) | (with_reducible refine Below.drew ?_) | (with_reducible refine below_drewN ?_ _) | (with_reducible refine below_via ?_ (by with_reducible assumption) ?_) | omega | (simp; done) | (simp; omega))))).alloc _) (some ⟨_, 0, none⟩) 1 1 rfl [encLot x] rfl (fun h => by cases h) (rd_oneN (by simp)) (rowsLot [x]) (by unfold maxLen; first | (simp; done) | omega | (simp; omega)) (by first | (simp; done) | omega | (simp; omega)) (by first | omega | (simp; done) | (simp; omega)) ?_; intro v3 w3 hown3 hb3; obtain ⟨fc3, fg3, hc3, hf3, hz3⟩ := bget hb3; (try simp at hz3)) | fail)
              go_quiet (fail)
              go_wp2_with (first | (at_builtin; refine wpList_app rfl _ _ _ rfl elLot (w.heap.size + 1) _ _ rfl ((hown3.drew).alloc _) (some ⟨_, 0, none⟩) 1 1 rfl [encLot l[k]] rfl (fun h => by cases h) (rd_oneN (by simp)) (rowsLot [l[k]]) (by unfold maxLen; first | (simp; done) | omega | (simp; omega)) (by first | (simp; done) | omega | (simp; omega)) (by first | omega | (simp; done) | (simp; omega)) ?_; intro v4 w4 hown4 hb4; obtain ⟨fc4, fg4, hc4, hf4, hz4⟩ := bget hb4; (try simp at hz4)) | fail)
              go_roundw
              case rel => exact ⟨k + 1, true, O ++ [x] ++ [l[k]], by omega, by go_num, rfl, (by rw [List.map_append, List.map_append]; exact hown4), by rw [HG.out], by have hbl := Hbl.out; (repeat' (first | (with_reducible exact Below.refl _ _) | (with_reducible assumption) | (with_reducible refine Below.alloc ?_ ?_ _) | (with_reducible refine Below.setCell ?_ ?_ _) | (with_reducible refine Below.drew ?_) | (with_reducible refine below_drewN ?_ _) | (with_reducible refine below_via ?_ (by with_reducible assumption) ?_) | omega | (simp; done) | (simp; omega))), (by first | omega | (simp; done) | (simp; omega)), ⟨by simp [hc4, hc3, hc1, go_sem, m0, hsz, ↓IntWalk.iteOmega], by simp [hc4, hc3, hc1, go_sem, m1, hsz, ↓IntWalk.iteOmega], by simp [hc4, hc3, hc1, go_sem, m2, hsz, ↓IntWalk.iteOmega]⟩, by first | omega | (simp; omega)⟩
              case measure => simp [intOf]; omega
            · have HG := Lib.hid (show setG x d0 l = (O ++ [x]) ++ setG x true (l.drop (k + 1)) from by rw [HG0.out, ea, et]; simp)
              have na : (l[k].asset != x.asset) = false := by simp only [bne, ea]; rfl
              have nt : (l[k].tag != x.tag) = false := by simp only [bne, et]; rfl
              go_wp2_with fail
              go_region_held3 (fun w' => (w'.cell? ⟨b, o + k * 3, none⟩ = some (.int .i64 l[k].asset) ∧ w'.cell? ⟨b, o + k * 3 + 1, none⟩ = some (.int .i64 l[k].tag) ∧ w'.cell? ⟨b, o + k * 3 + 2, none⟩ = some (.int .i64 l[k].qty)) ∧ w'.cell? ⟨w.heap.size, 0, none⟩ = some (.int .i64 x.asset) ∧ w'.cell? ⟨w.heap.size, 1, none⟩ = some (.int .i64 x.tag) ∧ w'.cell? ⟨w.heap.size, 2, none⟩ = some (.int .i64 x.qty)) (first | (simp [go_sem]; done) | (repeat' (first | (with_reducible assumption) | (with_reducible refine And.intro ?_ ?_) | (with_reducible refine cell_drew ?_) | (with_reducible refine cell_via (by with_reducible assumption) ?_ ?_) | (simp [*]; done) | (simp [go_sem]; done) | (with_reducible refine cell_alloc ?_ ?_) | (with_reducible refine cell_set_far ?_ ?_) | omega | (simp; omega)))) (first | (go_at_call 89; (with_reducible refine (CL.out _).mono ?_); rintro e w1 ⟨rfl, hb1⟩; obtain ⟨fc1, fg1, hc1, hf1, hz1⟩ := bget hb1; (try simp at hz1)) | fail)
              go_wp2_with (first | (at_builtin; refine wpList_app rfl _ _ _ rfl elLot (w.heap.size + 1) _ _ rfl ((Hown.out.keep (by (repeat' (first | (with_reducible exact Below.refl _ _) | (with_reducible assumption) | (with_reducible refine Below.alloc ?_ ?_ _) | (with_reducible refine Below.setCell ?_ ?_ _) | (with_reducible refine Below.drew ?_) | (with_reducible refine below_drewN ?_ _) | (with_reducible refine below_via ?_ (by with_reducible assumption) ?_) | omega | (simp; done) | (simp; omega))))).alloc _) (some ⟨_, 0, none⟩) 1 1 rfl [encLot x] rfl (fun h => by cases h) (rd_oneN (by simp)) (rowsLot [x]) (by unfold maxLen; first | (simp; done) | omega | (simp; omega)) (by first | (simp; done) | omega | (simp; omega)) (by first | omega | (simp; done) | (simp; omega)) ?_; intro v3 w3 hown3 hb3; obtain ⟨fc3, fg3, hc3, hf3, hz3⟩ := bget hb3; (try simp at hz3)) | fail)
              go_quiet (fail)
              go_wp2_with fail
              go_roundw
              case rel => exact ⟨k + 1, true, O ++ [x], by omega, by go_num, rfl, (by rw [List.map_append]; exact hown3), by rw [HG.out], by have hbl := Hbl.out; (repeat' (first | (with_reducible exact Below.refl _ _) | (with_reducible assumption) | (with_reducible refine Below.alloc ?_ ?_ _) | (with_reducible refine Below.setCell ?_ ?_ _) | (with_reducible refine Below.drew ?_) | (with_reducible refine below_drewN ?_ _) | (with_reducible refine below_via ?_ (by with_reducible assumption) ?_) | omega | (simp; done) | (simp; omega))), (by first | omega | (simp; done) | (simp; omega)), ⟨by simp [hc3, hc1, go_sem, m0, hsz, ↓IntWalk.iteOmega], by simp [hc3, hc1, go_sem, m1, hsz, ↓IntWalk.iteOmega], by simp [hc3, hc1, go_sem, m2, hsz, ↓IntWalk.iteOmega]⟩, by first | omega | (simp; omega)⟩
              case measure => simp [intOf]; omega
        · have HG0 := Lib.hid hg2
          clear hg2
          cases ea : (l[k].asset == x.asset)
          · have HG := Lib.hid (show setG x d0 l = (O ++ [l[k]]) ++ setG x false (l.drop (k + 1)) from by rw [HG0.out, ea]; simp)
            have na : (l[k].asset != x.asset) = true := by simp only [bne, ea]; rfl
            go_wp2_with fail
            go_region_held3 (fun w' => (w'.cell? ⟨b, o + k * 3, none⟩ = some (.int .i64 l[k].asset) ∧ w'.cell? ⟨b, o + k * 3 + 1, none⟩ = some (.int .i64 l[k].tag) ∧ w'.cell? ⟨b, o + k * 3 + 2, none⟩ = some (.int .i64 l[k].qty)) ∧ w'.cell? ⟨w.heap.size, 0, none⟩ = some (.int .i64 x.asset) ∧ w'.cell? ⟨w.heap.size, 1, none⟩ = some (.int .i64 x.tag) ∧ w'.cell? ⟨w.heap.size, 2, none⟩ = some (.int .i64 x.qty)) (first | (simp [go_sem]; done) | (repeat' (first | (with_reducible assumption) | (with_reducible refine And.intro ?_ ?_) | (with_reducible refine cell_drew ?_) | (with_reducible refine cell_via (by with_reducible assumption) ?_ ?_) | (simp [*]; done) | (simp [go_sem]; done) | (with_reducible refine cell_alloc ?_ ?_) | (with_reducible refine cell_set_far ?_ ?_) | omega | (simp; omega)))) (first | (go_at_call 89; (with_reducible refine (CL.out _).mono ?_); rintro e w1 ⟨rfl, hb1⟩; obtain ⟨fc1, fg1, hc1, hf1, hz1⟩ := bget hb1; (try simp at hz1)) | fail)
            go_wp2_with fail
            go_quiet (fail)
            go_wp2_with (first | (at_builtin; refine wpList_app rfl _ _ _ rfl elLot (w.heap.size + 1) _ _ rfl (((Hown.out.keep (by (repeat' (first | (with_reducible exact Below.refl _ _) | (with_reducible assumption) | (with_reducible refine Below.alloc ?_ ?_ _) | (with_reducible refine Below.setCell ?_ ?_ _) | (with_reducible refine Below.drew ?_) | (with_reducible refine below_drewN ?_ _) | (with_reducible refine below_via ?_ (by with_reducible assumption) ?_) | omega | (simp; done) | (simp; omega))))).drew).alloc _) (some ⟨_, 0, none⟩) 1 1 rfl [encLot l[k]] rfl (fun h => by cases h) (rd_oneN (by simp)) (rowsLot [l[k]]) (by unfold maxLen; first | (simp; done) | omega | (simp; omega)) (by first | (simp; done) | omega | (simp; omega)) (by first | omega | (simp; done) | (simp; omega)) ?_; intro v4 w4 hown4 hb4; obtain ⟨fc4, fg4, hc4, hf4, hz4⟩ := bget hb4; (try simp at hz4)) | fail)
            go_roundw
            case rel => exact ⟨k + 1, false, O ++ [l[k]], by omega, by go_num, rfl, (by rw [List.map_append]; exact hown4), by rw [HG.out], by have hbl := Hbl.out; (repeat' (first | (with_reducible exact Below.refl _ _) | (with_reducible assumption) | (with_reducible refine Below.alloc ?_ ?_ _) | (with_reducible refine Below.setCell ?_ ?_ _) | (with_reducible refine Below.drew ?_) | (with_reducible refine below_drewN ?_ _) | (with_reducible refine below_via ?_ (by with_reducible assumption) ?_) | omega | (simp; done) | (simp; omega))), (by first | omega | (simp; done) | (simp; omega)), ⟨by simp [hc4, hc1, go_sem, m0, hsz, ↓IntWalk.iteOmega], by simp [hc4, hc1, go_sem, m1, hsz, ↓IntWalk.iteOmega], by simp [hc4, hc1, go_sem, m2, hsz, ↓IntWalk.iteOmega]⟩, by first | omega | (simp; omega)⟩
            case measure => simp [intOf]; omega
          · cases et : (l[k].tag == x.tag)
            · have HG := Lib.hid (show setG x d0 l = (O ++ [l[k]]) ++ setG x false (l.drop (k + 1)) from by rw [HG0.out, ea, et]; simp)
              have na : (l[k].asset != x.asset) = false := by simp only [bne, ea]; rfl
              have nt : (l[k].tag != x.tag) = true := by simp only [bne, et]; rfl
              go_wp2_with fail
              go_region_held3 (fun w' => (w'.cell? ⟨b, o + k * 3, none⟩ = some (.int .i64 l[k].asset) ∧ w'.cell? ⟨b, o + k * 3 + 1, none⟩ = some (.int .i64 l[k].tag) ∧ w'.cell? ⟨b, o + k * 3 + 2, none⟩ = some (.int .i64 l[k].qty)) ∧ w'.cell? ⟨w.heap.size, 0, none⟩ = some (.int .i64 x.asset) ∧ w'.cell? ⟨w.heap.size, 1, none⟩ = some (.int .i64 x.tag) ∧ w'.cell? ⟨w.heap.size, 2, none⟩ = some (.int .i64 x.qty)) (first | (simp [go_sem]; done) | (repeat' (first | (with_reducible assumption) | (with_reducible refine And.intro ?_ ?_) | (with_reducible refine cell_drew ?_) | (with_reducible refine cell_via (by with_reducible assumption) ?_ ?_) | (simp [*]; done) | (simp [go_sem]; done) | (with_reducible refine cell_alloc ?_ ?_) | (with_reducible refine cell_set_far ?_ ?_) | omega | (simp; omega)))) (first | (go_at_call 89; (with_reducible refine (CL.out _).mono ?_); rintro e w1 ⟨rfl, hb1⟩; obtain ⟨fc1, fg1, hc1, hf1, hz1⟩ := bget hb1; (try simp at hz1)) | fail)
              go_wp2_with fail
              go_quiet (fail)
              go_wp2_with (first | (at_builtin; refine wpList_app rfl _ _ _ rfl elLot (w.heap.size + 1) _ _ rfl (((Hown.out.keep (by (repeat' (first | (with_reducible exact Below.refl _ _) | (with_reducible assumption) | (with_reducible refine Below.alloc ?_ ?_ _) | (with_reducible refine Below.setCell ?_ ?_ _) | (with_reducible refine Below.drew ?_) | (with_reducible refine below_drewN ?_ _) | (with_reducible refine below_via ?_ (by with_reducible assumption) ?_) | omega | (simp; done) | (simp; omega))))).drew).alloc _) (some ⟨_, 0, none⟩) 1 1 rfl [encLot l[k]] rfl (fun h => by cases h) (rd_oneN (by simp)) (rowsLot [l[k]]) (by unfold maxLen; first | (simp; done) | omega | (simp; omega)) (by first | (simp; done) | omega | (simp; omega)) (by first | omega | (simp; done) | (simp; omega)) ?_; intro v4 w4 hown4 hb4; obtain ⟨fc4, fg4, hc4, hf4, hz4⟩ := bget hb4; (try simp at hz4)) | fail)
              go_roundw
              case rel => exact ⟨k + 1, false, O ++ [l[k]], by omega, by go_num, rfl, (by rw [List.map_append]; exact hown4), by rw [HG.out], by have hbl := Hbl.out; (repeat' (first | (with_reducible exact Below.refl _ _) | (with_reducible assumption) | (with_reducible refine Below.alloc ?_ ?_ _) | (with_reducible refine Below.setCell ?_ ?_ _) | (with_reducible refine Below.drew ?_) | (with_reducible refine below_drewN ?_ _) | (with_reducible refine below_via ?_ (by with_reducible assumption) ?_) | omega | (simp; done) | (simp; omega))), (by first | omega | (simp; done) | (simp; omega)), ⟨by simp [hc4, hc1, go_sem, m0, hsz, ↓IntWalk.iteOmega], by simp [hc4, hc1, go_sem, m1, hsz, ↓IntWalk.iteOmega], by simp [hc4, hc1, go_sem, m2, hsz, ↓IntWalk.iteOmega]⟩, by first | omega | (simp; omega)⟩
              case measure => simp [intOf]; omega
            · have HG := Lib.hid (show setG x d0 l = O ++ setG x false (l.drop (k + 1)) from by rw [HG0.out, ea, et]; simp)
              have na : (l[k].asset != x.asset) = false := by simp only [bne, ea]; rfl
              have nt : (l[k].tag != x.tag) = false := by simp only [bne, et]; rfl
              go_wp2_with fail
              go_region_held3 (fun w' => (w'.cell? ⟨b, o + k * 3, none⟩ = some (.int .i64 l[k].asset) ∧ w'.cell? ⟨b, o + k * 3 + 1, none⟩ = some (.int .i64 l[k].tag) ∧ w'.cell? ⟨b, o + k * 3 + 2, none⟩ = some (.int .i64 l[k].qty)) ∧ w'.cell? ⟨w.heap.size, 0, none⟩ = some (.int .i64 x.asset) ∧ w'.cell? ⟨w.heap.size, 1, none⟩ = some (.int .i64 x.tag) ∧ w'.cell? ⟨w.heap.size, 2, none⟩ = some (.int .i64 x.qty)) (first | (simp [go_sem]; done) | (repeat' (first | (with_reducible assumption) | (with_reducible refine And.intro ?_ ?_) | (with_reducible refine cell_drew ?_) | (with_reducible refine cell_via (by with_reducible assumption) ?_ ?_) | (simp [*]; done) | (simp [go_sem]; done) | (with_reducible refine cell_alloc ?_ ?_) | (with_reducible refine cell_set_far ?_ ?_) | omega | (simp; omega)))) (first | (go_at_call 89; (with_reducible refine (CL.out _).mono ?_); rintro e w1 ⟨rfl, hb1⟩; obtain ⟨fc1, fg1, hc1, hf1, hz1⟩ := bget hb1; (try simp at hz1)) | fail)
              go_wp2_with fail
              go_quiet (fail)
              go_wp2_with fail
              go_roundw
              case rel => exact ⟨k + 1, false, O, by omega, by go_num, rfl, (by exact (Hown.out.keep (by (repeat' (first | (with_reducible exact Below.refl _ _) | (with_reducible assumption) | (with_reducible refine Below.alloc ?_ ?_ _) | (with_reducible refine Below.setCell ?_ ?_ _) | (with_reducible refine Below.drew ?_) | (with_reducible refine below_drewN ?_ _) | (with_reducible refine below_via ?_ (by with_reducible assumption) ?_) | omega | (simp; done) | (simp; omega)))))), by rw [HG.out], by have hbl := Hbl.out; (repeat' (first | (with_reducible exact Below.refl _ _) | (with_reducible assumption) | (with_reducible refine Below.alloc ?_ ?_ _) | (with_reducible refine Below.setCell ?_ ?_ _) | (with_reducible refine Below.drew ?_) | (with_reducible refine below_drewN ?_ _) | (with_reducible refine below_via ?_ (by with_reducible assumption) ?_) | omega | (simp; done) | (simp; omega))), (by first | omega | (simp; done) | (simp; omega)), ⟨by simp [hc1, go_sem, m0, hsz], by simp [hc1, go_sem, m1, hsz], by simp [hc1, go_sem, m2, hsz]⟩, by first | omega | (simp; omega)⟩
              case measure => simp [intOf]; omega
      · have HG0 := Lib.hid hg2
        clear hg2
        cases ea : (l[k].asset == x.asset)
        · have HG := Lib.hid (show setG x d0 l = (O ++ [l[k]]) ++ setG x true (l.drop (k + 1)) from by rw [HG0.out, ea]; simp)
          have na : (l[k].asset != x.asset) = true := by simp only [bne, ea]; rfl
          go_wp2_with fail
          go_quiet (fail)
          go_wp2_with fail
          go_quiet (fail)
          go_wp2_with (first | (at_builtin; refine wpList_app rfl _ _ _ rfl elLot (w.heap.size + 1) _ _ rfl ((Hown.out.drew.drew).alloc _) (some ⟨_, 0, none⟩) 1 1 rfl [encLot l[k]] rfl (fun h => by cases h) (rd_oneN (by simp)) (rowsLot [l[k]]) (by unfold maxLen; first | (simp; done) | omega | (simp; omega)) (by first | (simp; done) | omega | (simp; omega)) (by first | omega | (simp; done) | (simp; omega)) ?_; intro v4 w4 hown4 hb4; obtain ⟨fc4, fg4, hc4, hf4, hz4⟩ := bget hb4; (try simp at hz4)) | fail)
          go_roundw
          case rel => exact ⟨k + 1, true, O ++ [l[k]], by omega, by go_num, rfl, (by rw [List.map_append]; exact hown4), by rw [HG.out], by have hbl := Hbl.out; (repeat' (first | (with_reducible exact Below.refl _ _) | (with_reducible assumption) | (with_reducible refine Below.alloc ?_ ?_ _) | (with_reducible refine Below.setCell ?_ ?_ _) | (with_reducible refine Below.drew ?_) | (with_reducible refine below_drewN ?_ _) | (with_reducible refine below_via ?_ (by with_reducible assumption) ?_) | omega | (simp; done) | (simp; omega))), (by first | omega | (simp; done) | (simp; omega)), ⟨by simp [hc4, go_sem, m0, ↓IntWalk.iteOmega], by simp [hc4, go_sem, m1, ↓IntWalk.iteOmega], by simp [hc4, go_sem, m2, ↓IntWalk.iteOmega]⟩, by first | omega | (simp; omega)⟩
          case measure => simp [intOf]; omega
        · cases et : (l[k].tag == x.tag)
          · have HG := Lib.hid (show setG x d0 l = (O ++ [l[k]]) ++ setG x true (l.drop (k + 1)) from by rw [HG0.out, ea, et]; simp)
            have na : (l[k].asset != x.asset) = false := by simp only [bne, ea]; rfl
            have nt : (l[k].tag != x.tag) = true := by simp only [bne, et]; rfl
            go_wp2_with fail
            go_quiet (fail)
            go_wp2_with fail
            go_quiet (fail)
            go_wp2_with (first | (at_builtin; refine wpList_app rfl _ _ _ rfl elLot (w.heap.size + 1) _ _ rfl ((Hown.out.drew.drew).alloc _) (some ⟨_, 0, none⟩) 1 1 rfl [encLot l[k]] rfl (fun h => by cases h) (rd_oneN (by simp)) (rowsLot [l[k]]) (by unfold maxLen; first | (simp; done) | omega | (simp; omega)) (by first | (simp; done) | omega | (simp; omega)) (by first | omega | (simp; done) | (simp; omega)) ?_; intro v4 w4 hown4 hb4; obtain ⟨fc4, fg4, hc4, hf4, hz4⟩ := bget hb4; (try simp at hz4)) | fail)
            go_roundw
            case rel => exact ⟨k + 1, true, O ++ [l[k]], by omega, by go_num, rfl, (by rw [List.map_append]; exact hown4), by rw [HG.out], by have hbl := Hbl.out; (repeat' (first | (with_reducible exact Below.refl _ _) | (with_reducible assumption) | (with_reducible refine Below.alloc ?_ ?_ _) | (with_reducible refine Below.setCell ?_ ?_ _) | (with_reducible refine Below.drew ?_) | (with_reducible refine below_drewN ?_ _) | (with_reducible refine below_via ?_ (by with_reducible assumption) ?_) | omega | (simp; done) | (simp; omega))), (by first | omega | (simp; done) | (simp; omega)), ⟨by simp [hc4, go_sem, m0, ↓IntWalk.iteOmega], by simp [hc4, go_sem, m1, ↓IntWalk.iteOmega], by simp [hc4, go_sem, m2, ↓IntWalk.iteOmega]⟩, by first | omega | (simp; omega)⟩
            case measure => simp [intOf]; omega
          · have HG := Lib.hid (show setG x d0 l = O ++ setG x true (l.drop (k + 1)) from by rw [HG0.out, ea, et]; simp)
            have na : (l[k].asset != x.asset) = false := by simp only [bne, ea]; rfl
            have nt : (l[k].tag != x.tag) = false := by simp only [bne, et]; rfl
            go_wp2_with fail
            go_quiet (fail)
            go_wp2_with fail
            go_quiet (fail)
            go_wp2_with fail
            go_roundw
            case rel => exact ⟨k + 1, true, O, by omega, by go_num, rfl, (by exact Hown.out.drew), by rw [HG.out], by have hbl := Hbl.out; (repeat' (first | (with_reducible exact Below.refl _ _) | (with_reducible assumption) | (with_reducible refine Below.alloc ?_ ?_ _) | (with_reducible refine Below.setCell ?_ ?_ _) | (with_reducible refine Below.drew ?_) | (with_reducible refine below_drewN ?_ _) | (with_reducible refine below_via ?_ (by with_reducible assumption) ?_) | omega | (simp; done) | (simp; omega))), (by first | omega | (simp; done) | (simp; omega)), ⟨by simp [go_sem, m0], by simp [go_sem, m1], by simp [go_sem, m2]⟩, by first | omega | (simp; omega)⟩
            case measure => simp [intOf]; omega
    · have dl : decide ((k : Int) < (l.length : Int)) = false := by simpa using hlt
      have hgE : setG x d0 l = O ++ setG x d [] := by rw [hg, List.drop_eq_nil_of_le (by omega)]
      clear hg
      cases d
      · have HG := Lib.hid (show setG x d0 l = O ++ [x] from by rw [hgE]; rfl)
        clear hgE
        go_wp2_with (first | (at_builtin; refine wpList_app rfl _ _ _ rfl elLot (w.heap.size + 1) _ _ rfl (Hown.out.alloc _) (some ⟨_, 0, none⟩) 1 1 rfl [encLot x] rfl (fun h => by cases h) (rd_oneN (by simp)) (rowsLot [x]) (by unfold maxLen; first | (simp; done) | omega | (simp; omega)) (by first | (simp; done) | omega | (simp; omega)) (by first | omega | (simp; done) | (simp; omega)) ?_; intro v3 w3 hown3 hb3; obtain ⟨fc3, fg3, hc3, hf3, hz3⟩ := bget hb3; (try simp at hz3)) | fail)
        go_ret
        exact ⟨_, rfl, by rw [HG.out, List.map_append]; exact hown3.mono (by omega), by have hbl := Hbl.out; (repeat' (first | (with_reducible exact Below.refl _ _) | (with_reducible assumption) | (with_reducible refine Below.alloc ?_ ?_ _) | (with_reducible refine Below.setCell ?_ ?_ _) | (with_reducible refine Below.drew ?_) | (with_reducible refine below_drewN ?_ _) | (with_reducible refine below_via ?_ (by with_reducible assumption) ?_) | omega | (simp; done) | (simp; omega)))⟩
      · have HG := Lib.hid (show setG x d0 l = O from by rw [hgE]; simp [setG])
        clear hgE
        go_wp2_with fail
        go_ret
        exact ⟨_, rfl, by rw [HG.out]; exact Hown.out.mono (by omega), by have hbl := Hbl.out; (repeat' (first | (with_reducible exact Below.refl _ _) | (with_reducible assumption) | (with_reducible refine Below.alloc ?_ ?_ _) | (with_reducible refine Below.setCell ?_ ?_ _) | (with_reducible refine Below.drew ?_) | (with_reducible refine below_drewN ?_ _) | (with_reducible refine below_via ?_ (by with_reducible assumption) ?_) | omega | (simp; done) | (simp; omega)))⟩
end Go.Proofs.YtalgfpegaobacaaGreat

/- Lots, plain: what is got, what set makes of lots that may be. -/
namespace Go.Proofs.YtalgfpegaobacaaGreat
open Go.RowKit
theorem pl_cons_lt {y x : Lot} {t : List Lot} (h : ltL y x = true) : plL (y :: t) x = plL t x + 1 ∧ thL (y :: t) x = thL t x := by
  have h1 : plL (y :: t) x = plL t x + 1 := by unfold plL; rw [List.takeWhile_cons_of_pos (p := fun y => decide (ordL y x < 0)) h]; rfl
  refine ⟨h1, ?_⟩
  unfold thL; rw [h1]; unfold atB; simp
theorem pl_cons_ge {y x : Lot} {t : List Lot} (h : ltL y x = false) : plL (y :: t) x = 0 ∧ thL (y :: t) x = eqL y x := by
  have h1 : plL (y :: t) x = 0 := by unfold plL; rw [List.takeWhile_cons_of_neg (by unfold ltL at h; rw [h]; simp)]; rfl
  refine ⟨h1, ?_⟩
  unfold thL; rw [h1]; rfl
theorem keys_eq {y x : Lot} : (y.asset == x.asset && y.tag == x.tag) = eqL y x := by
  cases h : eqL y x
  · have : ¬ (y.asset = x.asset ∧ y.tag = x.tag) := fun k => by rw [eqL_iff.2 k] at h; cases h
    cases h1 : (y.asset == x.asset)
    · rfl
    · cases h2 : (y.tag == x.tag)
      · rfl
      · exact absurd ⟨by simpa using h1, by simpa using h2⟩ this
  · have := eqL_iff.1 h
    rw [this.1, this.2]; simp
theorem lt_ne {y x : Lot} (h : ltL y x = true) : eqL y x = false := by
  rw [ltL_iff] at h
  exact eqL_no (by omega)
theorem gt_ne {y x : Lot} (h : ltL x y = true) : eqL y x = false := by
  rw [ltL_iff] at h
  exact eqL_no (by omega)
theorem ge_lt {y x z : Lot} (h : ltL y x = false) (k : ltL y z = true) : ltL x z = true := by
  have h1 : ¬ (y.asset < x.asset ∨ (y.asset = x.asset ∧ y.tag < x.tag)) := fun k => by rw [ltL_iff.2 k] at h; cases h
  rw [ltL_iff] at k ⊢
  omega
/-- No other lot of a row that rises is the one, nor is any where it is not. -/
theorem get_row : ∀ {l : List Lot} (_ : SortL l) (x : Lot), getL l x.asset x.tag = if thL l x then (l.getD (plL l x) ⟨0, 0, 0⟩).qty else 0
  | [], _, x => rfl
  | y :: t, hs, x => by
    unfold SortL at hs
    rw [List.pairwise_cons] at hs
    cases h : ltL y x
    · obtain ⟨h1, h2⟩ := pl_cons_ge (t := t) h
      rw [h1, h2]
      cases he : eqL y x
      · have hno : ∀ z ∈ t, eqL z x = false := fun z hz => gt_ne (ge_lt h (hs.1 z hz))
        have : (y :: t).find? (fun z => z.asset == x.asset && z.tag == x.tag) = none := by
          rw [List.find?_eq_none]
          intro z hz
          rw [keys_eq]
          rcases List.mem_cons.1 hz with rfl | hz
          · rw [he]; simp
          · rw [hno z hz]; simp
        unfold getL; rw [this]; rfl
      · have : (y :: t).find? (fun z => z.asset == x.asset && z.tag == x.tag) = some y := List.find?_cons_of_pos (by rw [keys_eq]; exact he)
        unfold getL; rw [this]; rfl
    · obtain ⟨h1, h2⟩ := pl_cons_lt (t := t) h
      rw [h1, h2]
      have : (y :: t).find? (fun z => z.asset == x.asset && z.tag == x.tag) = t.find? (fun z => z.asset == x.asset && z.tag == x.tag) := List.find?_cons_of_neg (by rw [keys_eq, lt_ne h]; simp)
      have ih := get_row hs.2 x
      unfold getL at ih ⊢
      rw [this, ih]
      simp
theorem setG_id {x : Lot} : ∀ {t : List Lot} (_ : ∀ z ∈ t, eqL z x = false), setG x true t = t
  | [], _ => rfl
  | y :: t, h => by
    have h1 := h y (by simp)
    have ih := setG_id (x := x) (t := t) (fun z hz => h z (by simp [hz]))
    simp only [setG, keys_eq, h1, Bool.not_true, Bool.false_and, Bool.true_or, ih]
    simp
theorem setG_false : ∀ {l : List Lot} (_ : SortL l) (x : Lot), setG x false l = l.take (plL l x) ++ x :: (if thL l x then l.drop (plL l x + 1) else l.drop (plL l x))
  | [], _, x => rfl
  | y :: t, hs, x => by
    unfold SortL at hs
    rw [List.pairwise_cons] at hs
    cases h : ltL y x
    · obtain ⟨h1, h2⟩ := pl_cons_ge (t := t) h
      have hid : setG x true t = t := setG_id (fun z hz => gt_ne (ge_lt h (hs.1 z hz)))
      rw [h1, h2]
      simp only [setG, keys_eq, h, hid, Bool.not_false, Bool.and_self, Bool.or_true]
      cases eqL y x <;> simp
    · obtain ⟨h1, h2⟩ := pl_cons_lt (t := t) h
      rw [h1, h2]
      simp only [setG, keys_eq, h, lt_ne h, Bool.not_true, Bool.and_false, Bool.or_false, setG_false hs.2 x]
      simp
/-- The same lot with so much. -/
def withQ (x : Lot) (q : Int) : Lot := ⟨x.asset, x.tag, q⟩
theorem pl_with (l : List Lot) (x : Lot) (q : Int) : plL l (withQ x q) = plL l x ∧ thL l (withQ x q) = thL l x := ⟨rfl, rfl⟩
theorem codeL_zero {l : List Lot} {x : Lot} (h1 : isL l = true) (h2 : rightL x = true) : codeL l x = 0 := by unfold codeL; rw [h1, h2]; rfl
/-- What the reference's Put answers. -/
theorem put_ref {l : List Lot} {x : Lot} (h1 : isL l = true) (h2 : rightL x = true) (hx : In64 x.qty) :
    putLC l x = (if in64 (getL l x.asset x.tag + x.qty) = false then 7 else if getL l x.asset x.tag = 0 ∧ l.length = 16 then 25 else 0) ∧
    (putLC l x = 0 → putLL l x = setG (withQ x (getL l x.asset x.tag + x.qty)) ((getL l x.asset x.tag + x.qty) == 0) l) := by
  obtain ⟨hs, hr, h16⟩ := isL_sort h1
  have hg := get_row hs x
  have hxp := (rightL_iff.1 h2).2.2.2.2
  have hc := codeL_zero h1 h2
  cases ht : thL l x
  · rw [ht] at hg
    have hg0 : getL l x.asset x.tag = 0 := by simpa using hg
    have hin : in64 (0 + x.qty) = true := in64_iff.2 (by rw [Int.zero_add]; exact hx)
    have hcode : putLC l x = if 16 ≤ l.length then 25 else 0 := by unfold putLC; rw [if_pos hc, ht]; rfl
    rw [hg0]
    refine ⟨?_, fun h0 => ?_⟩
    · by_cases h : 16 ≤ l.length
      · rw [hcode, if_pos h, hin, if_neg (show ¬ (true = false) by simp), if_pos ⟨rfl, by omega⟩]
      · rw [hcode, if_neg h, hin, if_neg (show ¬ (true = false) by simp), if_neg (by omega)]
    · have hb : ((0 + x.qty) == 0) = false := by rw [beq_eq_false_iff_ne]; omega
      unfold putLL
      rw [if_pos h0, ht, hb, setG_false hs, (pl_with l x _).1, (pl_with l x _).2, ht]
      have : withQ x (0 + x.qty) = x := by unfold withQ; rw [Int.zero_add]
      rw [this]
      rfl
  · rw [ht, if_pos rfl, getD_at (thL_lt ht)] at hg
    have hp := (rightL_iff.1 (hr _ (List.getElem_mem (thL_lt ht)))).2.2.2.2
    have hcode : putLC l x = (if in64 ((l[plL l x]'(thL_lt ht)).qty + x.qty) = true then 0 else 7) := by unfold putLC; rw [if_pos hc, ht, if_pos rfl, getD_at (thL_lt ht)]
    rw [hg]
    refine ⟨?_, fun h0 => ?_⟩
    · rw [hcode]
      cases in64 ((l[plL l x]'(thL_lt ht)).qty + x.qty)
      · rfl
      · rw [if_pos rfl, if_neg (by simp), if_neg (by omega)]
    · have hb : (((l[plL l x]'(thL_lt ht)).qty + x.qty) == 0) = false := by rw [beq_eq_false_iff_ne]; omega
      unfold putLL
      rw [if_pos h0, ht, hb, setG_false hs, (pl_with l x _).1, (pl_with l x _).2, ht, if_pos rfl, if_pos rfl, getD_at (thL_lt ht), List.set_eq_take_append_cons_drop, if_pos (thL_lt ht)]
      rfl
end Go.Proofs.YtalgfpegaobacaaGreat

/- What an append to one own slice leaves of another one. No program in sight. -/
namespace Go.Proofs.YtalgfpegaobacaaGreat
open Go.RowKit
section
variable {w w1 w' : World} {row : Option Nat}
theorem Own.grown {base E k : Nat} {v : Value} {rows : List (List Value)} (h : Own w base E k v rows) (hg : w.grownBy w' row) (hne : ∀ g, v.ownBlock = some g → row ≠ some g) : Own w' base E k v rows := by
  refine ⟨h.1, h.2.1, ?_⟩
  rcases h.2.2 with h2 | ⟨g, cap, cur, hv, hgb, hh, r⟩
  · exact .inl h2
  · exact .inr ⟨g, cap, cur, hv, hgb, by rw [hg.block g (Array.getElem?_eq_some_iff.1 hh).1 (fun e => hne g (by rw [hv]; rfl) e.symm)]; exact hh, r⟩
end
/-- append, and where the row lies behind it. -/
theorem wpList_appAt {P : Program} {ops : Array Oper} {rest : List Oper} {o : Oper} {a : Act} {Q : Exit → Act → World → Prop} {w : World} (hgd : o.guard = none) (s x : Operand) (T : TypeId)
    (ho : o.op = .call { callee := .builtin .append, args := #[s, x], argTypes := #[T, T] }) {E k bytes : Nat} (el : Elem P T E k bytes)
    (base : Nat) (v : Value) (rows : List (List Value)) (hs : a.eval s = v) (hown : Own w base E k v rows)
    (ad : Addr) (m c : Nat) (hx : a.eval x = .slice (some ad) m c) (news : List (List Value)) (hm : news.length = m) (hr : Rd w (some ad) k news) (hk : ∀ r ∈ news, r.length = k ∧ ∀ u ∈ r, u.oneCell' = true)
    (h63 : rows.length + m ≤ maxLen) (hbytes : (rows.length + m) * bytes ≤ 140737488355328) (hbase : base ≤ w.heap.size)
    (h : ∀ v' w', Own w' base E k v' (rows ++ news) → Below base w w' → w.grownBy w' v.ownBlock → (v'.ownBlock = v.ownBlock ∨ v'.ownBlock = some w.heap.size) → wpList P ops Q rest (a.put o.dst v') w') : wpList P ops Q (o :: rest) a w := by
  obtain ⟨i, z, hi, hz, hsize, hby, hzs⟩ := el.info
  have hkl : ∀ r ∈ news, r.length = k := fun r hr => (hk r hr).1
  have hall : ∀ r ∈ rows ++ news, r.length = k := fun r hr => by
    rcases List.mem_append.1 hr with h1 | h1
    · exact hown.1 r h1
    · exact hkl r h1
  refine wpList_append_own_at w hgd s x T ho base E i z k bytes el.ty hi hz hsize hby hzs el.pos v rows.length rows.flatten hs hown.2 ad m c news.flatten hx (by rw [flatten_length hkl, hm]) (rd_cells hkl hr) (fun u hu => by
      obtain ⟨r, hr1, hr2⟩ := List.mem_flatten.1 hu
      exact (hk r hr1).2 u hr2) h63 hbytes hbase fun v' w' h1 h2 _ h4 => ?_
  exact h v' w' ⟨hall, by rw [List.length_append, hm, List.flatten_append]; exact h1⟩ ((Below.refl base w).grown h2 hbase (fun g hg => (hown.block g hg).1)) h2 h4
end Go.Proofs.YtalgfpegaobacaaGreat

/- Lots: contract of lots.with. -/
namespace Go.Proofs.YtalgfpegaobacaaGreat
open Go.RowKit
end Go.Proofs.YtalgfpegaobacaaGreat

/- Lots: contract of lots.Draw. -/
namespace Go.Proofs.YtalgfpegaobacaaGreat
open Go.RowKit
end Go.Proofs.YtalgfpegaobacaaGreat

/- Lots: contracts of lots.Put, Take. -/
namespace Go.Proofs.YtalgfpegaobacaaGreat
open Go.RowKit
def LotsPost (w : World) (L : List Lot) (code : Int) (e : Ending) (w' : World) : Prop :=
  ∃ v, e = .returned (.tuple #[v, .int .i64 code]) ∧ Own w' w.heap.size 33 3 v (L.map encLot) ∧ Below w.heap.size w w'
end Go.Proofs.YtalgfpegaobacaaGreat

/- Lots: contract of lots.Take. -/
namespace Go.Proofs.YtalgfpegaobacaaGreat
open Go.RowKit
end Go.Proofs.YtalgfpegaobacaaGreat

/- Lots: contract of the reference's Sum. -/
namespace Go.Proofs.YtalgfpegaobacaaGreat
open Go.RowKit
end Go.Proofs.YtalgfpegaobacaaGreat
