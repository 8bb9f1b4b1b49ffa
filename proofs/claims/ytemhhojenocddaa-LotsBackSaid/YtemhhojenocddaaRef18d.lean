/- Lots: contract of the reference's set. -/
import Derived.Test.YtemhhojenocddaaRef18b
namespace Go.Proofs.Ytemhhojenocddaa
open Go.RowKit
/-- Lots in which x's has so much. -/
def setG (x : Lot) : Bool → List Lot → List Lot
  | done, [] => if done then [] else [x]
  | done, y :: t => (if (!done && !ltL y x) = true then [x] else []) ++ ((if (y.asset == x.asset && y.tag == x.tag) = true then [] else [y]) ++ setG x (done || !ltL y x) t)
set_option maxRecDepth 100000 in
set_option maxHeartbeats 32000000 in
theorem ref18set (l : List Lot) (x : Lot) (A : Option Addr) (c : Nat) (w : World) (hl : l.length ≤ 400000) (hr : Rd w A 3 (l.map encLot)) :
    Calls Try.prog 84 #[.slice A l.length c, .agg #[.int .i64 x.asset, .int .i64 x.tag, .int .i64 x.qty]] w fun e w' => ∃ v, e = .returned v ∧ Own w' w.heap.size 58 3 v ((setG x (x.qty == 0) l).map encLot) ∧ Below w.heap.size w w' := by
  have HR := Lib.hid hr
  clear hr
  obtain ⟨d0, hd0⟩ : ∃ d0, d0 = (x.qty == 0) := ⟨_, rfl⟩
  rw [← hd0]
  have hq0 : (x.qty == 0) = d0 := hd0.symm
  clear hd0
  go_enter Try.func84, Try.ntmps84
  go_wp2_with fail
  go_loopw [5, 6, 7] (fun v dn i wr => ∃ (k : Nat) (d : Bool) (O : List Lot), k ≤ l.length ∧ i = .int .i64 k ∧ dn = .bool d ∧ Own wr (w.heap.size + 1) 58 3 v (O.map encLot) ∧ setG x d0 l = O ++ setG x d (l.drop k) ∧ Below w.heap.size w wr ∧ w.heap.size < wr.heap.size ∧ (wr.cell? ⟨w.heap.size, 0, none⟩ = some (.int .i64 x.asset) ∧ wr.cell? ⟨w.heap.size, 1, none⟩ = some (.int .i64 x.tag) ∧ wr.cell? ⟨w.heap.size, 2, none⟩ = some (.int .i64 x.qty)) ∧ O.length ≤ 2 * k) (fun _ _ i _ => l.length - (intOf i).toNat)
  case atStart => exact ⟨0, d0, [], Nat.zero_le _, rfl, rfl, Own.nil _ _ _ _, rfl, by (repeat' (first | (with_reducible exact Below.refl _ _) | (with_reducible assumption) | (with_reducible refine Below.alloc ?_ ?_ _) | (with_reducible refine Below.setCell ?_ ?_ _) | (with_reducible refine Below.drew ?_) | (with_reducible refine below_drewN ?_ _) | (with_reducible refine below_via ?_ (by with_reducible assumption) ?_) | omega | (simp; done) | (simp; omega))), by simp, by simp [go_sem], by simp⟩
  case round =>
    obtain ⟨k, d, O, hk, rfl, rfl, hown, hg, hbl, hsz, ⟨m0, m1, m2⟩, hOl⟩ := hrel
    have Hown := Lib.hid hown
    have Hbl := Lib.hid hbl
    have hz := hbl.size
    clear hown hbl hq0
    by_cases hlt : k < l.length
    · have kl : (k : Int) < (l.length : Int) := by omega
      have dl : decide ((k : Int) < (l.length : Int)) = true := by simpa using hlt
      have hg2 : setG x d0 l = O ++ ((if (!d && !ltL l[k] x) = true then [x] else []) ++ ((if (l[k].asset == x.asset && l[k].tag == x.tag) = true then [] else [l[k]]) ++ setG x (d || !ltL l[k] x) (l.drop (k + 1)))) := by rw [hg, drop_cons' hlt]; rfl
      have cl := fun W => ref18less l[k] x W
      clear hg
      obtain ⟨b, o, rfl, hb, hc⟩ := HR.out k (encLot l[k]) (by simp [hlt])
      have e0 := (Hbl.out.cell (p := ⟨b, o + k * 3 + 0, none⟩) hb).trans (hc 0 _ rfl)
      have e1 := (Hbl.out.cell (p := ⟨b, o + k * 3 + 1, none⟩) hb).trans (hc 1 _ rfl)
      have e2 := (Hbl.out.cell (p := ⟨b, o + k * 3 + 2, none⟩) hb).trans (hc 2 _ rfl)
      simp only [Nat.add_zero] at e0
      clear hc
      have hbw : b < wr.heap.size := by omega
      generalize hlq : ltL l[k] x = lq at cl hg2
      have CL := Lib.hid cl
      clear cl hlq
      cases d
      · cases lq
        · have HG0 := Lib.hid hg2
          clear hg2
          cases ea : (l[k].asset == x.asset)
          · have HG := Lib.hid (show setG x d0 l = (O ++ [x] ++ [l[k]]) ++ setG x true (l.drop (k + 1)) from by rw [HG0.out, ea]; simp)
            have na : (l[k].asset != x.asset) = true := by simp only [bne, ea]; rfl
            go_wp2_with fail
            go_region_held3 (fun w' => (w'.cell? ⟨b, o + k * 3, none⟩ = some (.int .i64 l[k].asset) ∧ w'.cell? ⟨b, o + k * 3 + 1, none⟩ = some (.int .i64 l[k].tag) ∧ w'.cell? ⟨b, o + k * 3 + 2, none⟩ = some (.int .i64 l[k].qty)) ∧ w'.cell? ⟨w.heap.size, 0, none⟩ = some (.int .i64 x.asset) ∧ w'.cell? ⟨w.heap.size, 1, none⟩ = some (.int .i64 x.tag) ∧ w'.cell? ⟨w.heap.size, 2, none⟩ = some (.int .i64 x.qty)) (first | (simp [go_sem]; done) | (repeat' (first | (with_reducible assumption) | (with_reducible refine And.intro ?_ ?_) | (with_reducible refine cell_drew ?_) | (with_reducible refine cell_via (by with_reducible assumption) ?_ ?_) | (simp [*]; done) | (simp [go_sem]; done) | (with_reducible refine cell_alloc ?_ ?_) | (with_reducible refine cell_set_far ?_ ?_) | omega | (simp; omega)))) (first | (go_at_call 74; (with_reducible refine (CL.out _).mono ?_); rintro e w1 ⟨rfl, hb1⟩; obtain ⟨fc1, fg1, hc1, hf1, hz1⟩ := bget hb1; (try simp at hz1)) | fail)
            go_wp2_with (first | (at_builtin; refine wpList_app rfl _ _ _ rfl elLot (w.heap.size + 1) _ _ rfl ((Hown.out.keep (by (repeat' (first | (with_reducible exact Below.refl _ _) | (with_reducible assumption) | (with_reducible refine Below.alloc ?_ ?_ _) | (with_reducible refine Below.setCell ?_ ?_ _) | (with_reducible refine Below.drew ?_) | (with_reducible refine below_drewN ?_ _) | (with_reducible refine below_via ?_ (by with_reducible assumption) ?_) | omega | (simp; done) | (simp; omega))))).alloc _) (some ⟨_, 0, none⟩) 1 1 rfl [encLot x] rfl (fun h => by cases h) (rd_oneN (by simp)) (rowsLot [x]) (by unfold maxLen; first | (simp; done) | omega | (simp; omega)) (by first | (simp; done) | omega | (simp; omega)) (by first | omega | (simp; done) | (simp; omega)) ?_; intro v3 w3 hown3 hb3; obtain ⟨fc3, fg3, hc3, hf3, hz3⟩ := bget hb3; (try simp at hz3)) | fail)
            go_quiet (fail)
            go_wp2_with (first | (at_builtin; refine wpList_app rfl _ _ _ rfl elLot (w.heap.size + 1) _ _ rfl ((hown3.drew).alloc _) (some ⟨_, 0, none⟩) 1 1 rfl [encLot l[k]] rfl (fun h => by cases h) (rd_oneN (by simp)) (rowsLot [l[k]]) (by unfold maxLen; first | (simp; done) | omega | (simp; omega)) (by first | (simp; done) | omega | (simp; omega)) (by first | omega | (simp; done) | (simp; omega)) ?_; intro v4 w4 hown4 hb4; obtain ⟨fc4, fg4, hc4, hf4, hz4⟩ := bget hb4; (try simp at hz4)) | fail)
            go_roundw
            case rel => exact ⟨k + 1, true, O ++ [x] ++ [l[k]], by omega, by go_num, rfl, (by rw [List.map_append, List.map_append]; exact hown4), by rw [HG.out], by have hbl := Hbl.out; (repeat' (first | (with_reducible exact Below.refl _ _) | (with_reducible assumption) | (with_reducible refine Below.alloc ?_ ?_ _) | (with_reducible refine Below.setCell ?_ ?_ _) | (with_reducible refine Below.drew ?_) | (with_reducible refine below_drewN ?_ _) | (with_reducible refine below_via ?_ (by with_reducible assumption) ?_) | omega | (simp; done) | (simp; omega))), (by first | omega | (simp; done) | (simp; omega)), ⟨by simp [hc4, hc3, hc1, go_sem, m0, hsz, ↓IntWalk.iteOmega], by simp [hc4, hc3, hc1, go_sem, m1, hsz, ↓IntWalk.iteOmega], by simp [hc4, hc3, hc1, go_sem, m2, hsz, ↓IntWalk.iteOmega]⟩, by first | omega | (simp; omega)⟩
            case measure => simp [intOf]; omega
          · cases et : (l[k].tag == x.tag)
            · have HG := Lib.hid (show setG x d0 l = (O ++ [x] ++ [l[k]]) ++ setG x true (l.drop (k + 1)) from by rw [HG0.out, ea, et]; simp)
              have na : (l[k].asset != x.asset) = false := by simp only [bne, ea]; rfl
              have nt : (l[k].tag != x.tag) = true := by simp only [bne, et]; rfl
              go_wp2_with fail
              go_region_held3 (fun w' => (w'.cell? ⟨b, o + k * 3, none⟩ = some (.int .i64 l[k].asset) ∧ w'.cell? ⟨b, o + k * 3 + 1, none⟩ = some (.int .i64 l[k].tag) ∧ w'.cell? ⟨b, o + k * 3 + 2, none⟩ = some (.int .i64 l[k].qty)) ∧ w'.cell? ⟨w.heap.size, 0, none⟩ = some (.int .i64 x.asset) ∧ w'.cell? ⟨w.heap.size, 1, none⟩ = some (.int .i64 x.tag) ∧ w'.cell? ⟨w.heap.size, 2, none⟩ = some (.int .i64 x.qty)) (first | (simp [go_sem]; done) | (repeat' (first | (with_reducible assumption) | (with_reducible refine And.intro ?_ ?_) | (with_reducible refine cell_drew ?_) | (with_reducible refine cell_via (by with_reducible assumption) ?_ ?_) | (simp [*]; done) | (simp [go_sem]; done) | (with_reducible refine cell_alloc ?_ ?_) | (with_reducible refine cell_set_far ?_ ?_) | omega | (simp; omega)))) (first | (go_at_call 74; (with_reducible refine (CL.out _).mono ?_); rintro e w1 ⟨rfl, hb1⟩; obtain ⟨fc1, fg1, hc1, hf1, hz1⟩ := bget hb1; (try simp at hz1)) | fail)
              go_wp2_with (first | (at_builtin; refine wpList_app rfl _ _ _ rfl elLot (w.heap.size + 1) _ _ rfl ((Hown.out.keep (by (repeat' (first | (with_reducible exact Below.refl _ _) | (with_reducible assumption) | (with_reducible refine Below.alloc ?_ ?_ _) | (with_reducible refine Below.setCell ?_ ?_ _) | (with_reducible refine Below.drew ?_) | (with_reducible refine below_drewN ?_ _) | (with_reducible refine below_via ?_ (by with_reducible assumption) ?_) | omega | (simp; done) | (simp; omega))))).alloc _) (some ⟨_, 0, none⟩) 1 1 rfl [encLot x] rfl (fun h => by cases h) (rd_oneN (by simp)) (rowsLot [x]) (by unfold maxLen; first | (simp; done) | omega | (simp; omega)) (by first | (simp; done) | omega | (simp; omega)) (by first | omega | (simp; done) | (simp; omega)) ?_; intro v3 w3 hown3 hb3; obtain ⟨fc3, fg3, hc3, hf3, hz3⟩ := bget hb3; (try simp at hz3)) | fail)
              go_quiet (fail)
              go_wp2_with (first | (at_builtin; refine wpList_app rfl _ _ _ rfl elLot (w.heap.size + 1) _ _ rfl ((hown3.drew).alloc _) (some ⟨_, 0, none⟩) 1 1 rfl [encLot l[k]] rfl (fun h => by cases h) (rd_oneN (by simp)) (rowsLot [l[k]]) (by unfold maxLen; first | (simp; done) | omega | (simp; omega)) (by first | (simp; done) | omega | (simp; omega)) (by first | omega | (simp; done) | (simp; omega)) ?_; intro v4 w4 hown4 hb4; obtain ⟨fc4, fg4, hc4, hf4, hz4⟩ := bget hb4; (try simp at hz4)) | fail)
              go_roundw
              case rel => exact ⟨k + 1, true, O ++ [x] ++ [l[k]], by omega, by go_num, rfl, (by rw [List.map_append, List.map_append]; exact hown4), by rw [HG.out], by have hbl := Hbl.out; (repeat' (first | (with_reducible exact Below.refl _ _) | (with_reducible assumption) | (with_reducible refine Below.alloc ?_ ?_ _) | (with_reducible refine Below.setCell ?_ ?_ _) | (with_reducible refine Below.drew ?_) | (with_reducible refine below_drewN ?_ _) | (with_reducible refine below_via ?_ (by with_reducible assumption) ?_) | omega | (simp; done) | (simp; omega))), (by first | omega | (simp; done) | (simp; omega)), ⟨by simp [hc4, hc3, hc1, go_sem, m0, hsz, ↓IntWalk.iteOmega], by simp [hc4, hc3, hc1, go_sem, m1, hsz, ↓IntWalk.iteOmega], by simp [hc4, hc3, hc1, go_sem, m2, hsz, ↓IntWalk.iteOmega]⟩, by first | omega | (simp; omega)⟩
              case measure => simp [intOf]; omega
            · have HG := Lib.hid (show setG x d0 l = (O ++ [x]) ++ setG x true (l.drop (k + 1)) from by rw [HG0.out, ea, et]; simp)
              have na : (l[k].asset != x.asset) = false := by simp only [bne, ea]; rfl
              have nt : (l[k].tag != x.tag) = false := by simp only [bne, et]; rfl
              go_wp2_with fail
              go_region_held3 (fun w' => (w'.cell? ⟨b, o + k * 3, none⟩ = some (.int .i64 l[k].asset) ∧ w'.cell? ⟨b, o + k * 3 + 1, none⟩ = some (.int .i64 l[k].tag) ∧ w'.cell? ⟨b, o + k * 3 + 2, none⟩ = some (.int .i64 l[k].qty)) ∧ w'.cell? ⟨w.heap.size, 0, none⟩ = some (.int .i64 x.asset) ∧ w'.cell? ⟨w.heap.size, 1, none⟩ = some (.int .i64 x.tag) ∧ w'.cell? ⟨w.heap.size, 2, none⟩ = some (.int .i64 x.qty)) (first | (simp [go_sem]; done) | (repeat' (first | (with_reducible assumption) | (with_reducible refine And.intro ?_ ?_) | (with_reducible refine cell_drew ?_) | (with_reducible refine cell_via (by with_reducible assumption) ?_ ?_) | (simp [*]; done) | (simp [go_sem]; done) | (with_reducible refine cell_alloc ?_ ?_) | (with_reducible refine cell_set_far ?_ ?_) | omega | (simp; omega)))) (first | (go_at_call 74; (with_reducible refine (CL.out _).mono ?_); rintro e w1 ⟨rfl, hb1⟩; obtain ⟨fc1, fg1, hc1, hf1, hz1⟩ := bget hb1; (try simp at hz1)) | fail)
              go_wp2_with (first | (at_builtin; refine wpList_app rfl _ _ _ rfl elLot (w.heap.size + 1) _ _ rfl ((Hown.out.keep (by (repeat' (first | (with_reducible exact Below.refl _ _) | (with_reducible assumption) | (with_reducible refine Below.alloc ?_ ?_ _) | (with_reducible refine Below.setCell ?_ ?_ _) | (with_reducible refine Below.drew ?_) | (with_reducible refine below_drewN ?_ _) | (with_reducible refine below_via ?_ (by with_reducible assumption) ?_) | omega | (simp; done) | (simp; omega))))).alloc _) (some ⟨_, 0, none⟩) 1 1 rfl [encLot x] rfl (fun h => by cases h) (rd_oneN (by simp)) (rowsLot [x]) (by unfold maxLen; first | (simp; done) | omega | (simp; omega)) (by first | (simp; done) | omega | (simp; omega)) (by first | omega | (simp; done) | (simp; omega)) ?_; intro v3 w3 hown3 hb3; obtain ⟨fc3, fg3, hc3, hf3, hz3⟩ := bget hb3; (try simp at hz3)) | fail)
              go_quiet (fail)
              go_wp2_with fail
              go_roundw
              case rel => exact ⟨k + 1, true, O ++ [x], by omega, by go_num, rfl, (by rw [List.map_append]; exact hown3), by rw [HG.out], by have hbl := Hbl.out; (repeat' (first | (with_reducible exact Below.refl _ _) | (with_reducible assumption) | (with_reducible refine Below.alloc ?_ ?_ _) | (with_reducible refine Below.setCell ?_ ?_ _) | (with_reducible refine Below.drew ?_) | (with_reducible refine below_drewN ?_ _) | (with_reducible refine below_via ?_ (by with_reducible assumption) ?_) | omega | (simp; done) | (simp; omega))), (by first | omega | (simp; done) | (simp; omega)), ⟨by simp [hc3, hc1, go_sem, m0, hsz, ↓IntWalk.iteOmega], by simp [hc3, hc1, go_sem, m1, hsz, ↓IntWalk.iteOmega], by simp [hc3, hc1, go_sem, m2, hsz, ↓IntWalk.iteOmega]⟩, by first | omega | (simp; omega)⟩
              case measure => simp [intOf]; omega
        · have HG0 := Lib.hid hg2
          clear hg2
          cases ea : (l[k].asset == x.asset)
          · have HG := Lib.hid (show setG x d0 l = (O ++ [l[k]]) ++ setG x false (l.drop (k + 1)) from by rw [HG0.out, ea]; simp)
            have na : (l[k].asset != x.asset) = true := by simp only [bne, ea]; rfl
            go_wp2_with fail
            go_region_held3 (fun w' => (w'.cell? ⟨b, o + k * 3, none⟩ = some (.int .i64 l[k].asset) ∧ w'.cell? ⟨b, o + k * 3 + 1, none⟩ = some (.int .i64 l[k].tag) ∧ w'.cell? ⟨b, o + k * 3 + 2, none⟩ = some (.int .i64 l[k].qty)) ∧ w'.cell? ⟨w.heap.size, 0, none⟩ = some (.int .i64 x.asset) ∧ w'.cell? ⟨w.heap.size, 1, none⟩ = some (.int .i64 x.tag) ∧ w'.cell? ⟨w.heap.size, 2, none⟩ = some (.int .i64 x.qty)) (first | (simp [go_sem]; done) | (repeat' (first | (with_reducible assumption) | (with_reducible refine And.intro ?_ ?_) | (with_reducible refine cell_drew ?_) | (with_reducible refine cell_via (by with_reducible assumption) ?_ ?_) | (simp [*]; done) | (simp [go_sem]; done) | (with_reducible refine cell_alloc ?_ ?_) | (with_reducible refine cell_set_far ?_ ?_) | omega | (simp; omega)))) (first | (go_at_call 74; (with_reducible refine (CL.out _).mono ?_); rintro e w1 ⟨rfl, hb1⟩; obtain ⟨fc1, fg1, hc1, hf1, hz1⟩ := bget hb1; (try simp at hz1)) | fail)
            go_wp2_with fail
            go_quiet (fail)
            go_wp2_with (first | (at_builtin; refine wpList_app rfl _ _ _ rfl elLot (w.heap.size + 1) _ _ rfl (((Hown.out.keep (by (repeat' (first | (with_reducible exact Below.refl _ _) | (with_reducible assumption) | (with_reducible refine Below.alloc ?_ ?_ _) | (with_reducible refine Below.setCell ?_ ?_ _) | (with_reducible refine Below.drew ?_) | (with_reducible refine below_drewN ?_ _) | (with_reducible refine below_via ?_ (by with_reducible assumption) ?_) | omega | (simp; done) | (simp; omega))))).drew).alloc _) (some ⟨_, 0, none⟩) 1 1 rfl [encLot l[k]] rfl (fun h => by cases h) (rd_oneN (by simp)) (rowsLot [l[k]]) (by unfold maxLen; first | (simp; done) | omega | (simp; omega)) (by first | (simp; done) | omega | (simp; omega)) (by first | omega | (simp; done) | (simp; omega)) ?_; intro v4 w4 hown4 hb4; obtain ⟨fc4, fg4, hc4, hf4, hz4⟩ := bget hb4; (try simp at hz4)) | fail)
            go_roundw
            case rel => exact ⟨k + 1, false, O ++ [l[k]], by omega, by go_num, rfl, (by rw [List.map_append]; exact hown4), by rw [HG.out], by have hbl := Hbl.out; (repeat' (first | (with_reducible exact Below.refl _ _) | (with_reducible assumption) | (with_reducible refine Below.alloc ?_ ?_ _) | (with_reducible refine Below.setCell ?_ ?_ _) | (with_reducible refine Below.drew ?_) | (with_reducible refine below_drewN ?_ _) | (with_reducible refine below_via ?_ (by with_reducible assumption) ?_) | omega | (simp; done) | (simp; omega))), (by first | omega | (simp; done) | (simp; omega)), ⟨by simp [hc4, hc1, go_sem, m0, hsz, ↓IntWalk.iteOmega], by simp [hc4, hc1, go_sem, m1, hsz, ↓IntWalk.iteOmega], by simp [hc4, hc1, go_sem, m2, hsz, ↓IntWalk.iteOmega]⟩, by first | omega | (simp; omega)⟩
            case measure => simp [intOf]; omega
          · cases et : (l[k].tag == x.tag)
            · have HG := Lib.hid (show setG x d0 l = (O ++ [l[k]]) ++ setG x false (l.drop (k + 1)) from by rw [HG0.out, ea, et]; simp)
              have na : (l[k].asset != x.asset) = false := by simp only [bne, ea]; rfl
              have nt : (l[k].tag != x.tag) = true := by simp only [bne, et]; rfl
              go_wp2_with fail
              go_region_held3 (fun w' => (w'.cell? ⟨b, o + k * 3, none⟩ = some (.int .i64 l[k].asset) ∧ w'.cell? ⟨b, o + k * 3 + 1, none⟩ = some (.int .i64 l[k].tag) ∧ w'.cell? ⟨b, o + k * 3 + 2, none⟩ = some (.int .i64 l[k].qty)) ∧ w'.cell? ⟨w.heap.size, 0, none⟩ = some (.int .i64 x.asset) ∧ w'.cell? ⟨w.heap.size, 1, none⟩ = some (.int .i64 x.tag) ∧ w'.cell? ⟨w.heap.size, 2, none⟩ = some (.int .i64 x.qty)) (first | (simp [go_sem]; done) | (repeat' (first | (with_reducible assumption) | (with_reducible refine And.intro ?_ ?_) | (with_reducible refine cell_drew ?_) | (with_reducible refine cell_via (by with_reducible assumption) ?_ ?_) | (simp [*]; done) | (simp [go_sem]; done) | (with_reducible refine cell_alloc ?_ ?_) | (with_reducible refine cell_set_far ?_ ?_) | omega | (simp; omega)))) (first | (go_at_call 74; (with_reducible refine (CL.out _).mono ?_); rintro e w1 ⟨rfl, hb1⟩; obtain ⟨fc1, fg1, hc1, hf1, hz1⟩ := bget hb1; (try simp at hz1)) | fail)
              go_wp2_with fail
              go_quiet (fail)
              go_wp2_with (first | (at_builtin; refine wpList_app rfl _ _ _ rfl elLot (w.heap.size + 1) _ _ rfl (((Hown.out.keep (by (repeat' (first | (with_reducible exact Below.refl _ _) | (with_reducible assumption) | (with_reducible refine Below.alloc ?_ ?_ _) | (with_reducible refine Below.setCell ?_ ?_ _) | (with_reducible refine Below.drew ?_) | (with_reducible refine below_drewN ?_ _) | (with_reducible refine below_via ?_ (by with_reducible assumption) ?_) | omega | (simp; done) | (simp; omega))))).drew).alloc _) (some ⟨_, 0, none⟩) 1 1 rfl [encLot l[k]] rfl (fun h => by cases h) (rd_oneN (by simp)) (rowsLot [l[k]]) (by unfold maxLen; first | (simp; done) | omega | (simp; omega)) (by first | (simp; done) | omega | (simp; omega)) (by first | omega | (simp; done) | (simp; omega)) ?_; intro v4 w4 hown4 hb4; obtain ⟨fc4, fg4, hc4, hf4, hz4⟩ := bget hb4; (try simp at hz4)) | fail)
              go_roundw
              case rel => exact ⟨k + 1, false, O ++ [l[k]], by omega, by go_num, rfl, (by rw [List.map_append]; exact hown4), by rw [HG.out], by have hbl := Hbl.out; (repeat' (first | (with_reducible exact Below.refl _ _) | (with_reducible assumption) | (with_reducible refine Below.alloc ?_ ?_ _) | (with_reducible refine Below.setCell ?_ ?_ _) | (with_reducible refine Below.drew ?_) | (with_reducible refine below_drewN ?_ _) | (with_reducible refine below_via ?_ (by with_reducible assumption) ?_) | omega | (simp; done) | (simp; omega))), (by first | omega | (simp; done) | (simp; omega)), ⟨by simp [hc4, hc1, go_sem, m0, hsz, ↓IntWalk.iteOmega], by simp [hc4, hc1, go_sem, m1, hsz, ↓IntWalk.iteOmega], by simp [hc4, hc1, go_sem, m2, hsz, ↓IntWalk.iteOmega]⟩, by first | omega | (simp; omega)⟩
              case measure => simp [intOf]; omega
            · have HG := Lib.hid (show setG x d0 l = O ++ setG x false (l.drop (k + 1)) from by rw [HG0.out, ea, et]; simp)
              have na : (l[k].asset != x.asset) = false := by simp only [bne, ea]; rfl
              have nt : (l[k].tag != x.tag) = false := by simp only [bne, et]; rfl
              go_wp2_with fail
              go_region_held3 (fun w' => (w'.cell? ⟨b, o + k * 3, none⟩ = some (.int .i64 l[k].asset) ∧ w'.cell? ⟨b, o + k * 3 + 1, none⟩ = some (.int .i64 l[k].tag) ∧ w'.cell? ⟨b, o + k * 3 + 2, none⟩ = some (.int .i64 l[k].qty)) ∧ w'.cell? ⟨w.heap.size, 0, none⟩ = some (.int .i64 x.asset) ∧ w'.cell? ⟨w.heap.size, 1, none⟩ = some (.int .i64 x.tag) ∧ w'.cell? ⟨w.heap.size, 2, none⟩ = some (.int .i64 x.qty)) (first | (simp [go_sem]; done) | (repeat' (first | (with_reducible assumption) | (with_reducible refine And.intro ?_ ?_) | (with_reducible refine cell_drew ?_) | (with_reducible refine cell_via (by with_reducible assumption) ?_ ?_) | (simp [*]; done) | (simp [go_sem]; done) | (with_reducible refine cell_alloc ?_ ?_) | (with_reducible refine cell_set_far ?_ ?_) | omega | (simp; omega)))) (first | (go_at_call 74; (with_reducible refine (CL.out _).mono ?_); rintro e w1 ⟨rfl, hb1⟩; obtain ⟨fc1, fg1, hc1, hf1, hz1⟩ := bget hb1; (try simp at hz1)) | fail)
              go_wp2_with fail
              go_quiet (fail)
              go_wp2_with fail
              go_roundw
              case rel => exact ⟨k + 1, false, O, by omega, by go_num, rfl, (by exact (Hown.out.keep (by (repeat' (first | (with_reducible exact Below.refl _ _) | (with_reducible assumption) | (with_reducible refine Below.alloc ?_ ?_ _) | (with_reducible refine Below.setCell ?_ ?_ _) | (with_reducible refine Below.drew ?_) | (with_reducible refine below_drewN ?_ _) | (with_reducible refine below_via ?_ (by with_reducible assumption) ?_) | omega | (simp; done) | (simp; omega)))))), by rw [HG.out], by have hbl := Hbl.out; (repeat' (first | (with_reducible exact Below.refl _ _) | (with_reducible assumption) | (with_reducible refine Below.alloc ?_ ?_ _) | (with_reducible refine Below.setCell ?_ ?_ _) | (with_reducible refine Below.drew ?_) | (with_reducible refine below_drewN ?_ _) | (with_reducible refine below_via ?_ (by with_reducible assumption) ?_) | omega | (simp; done) | (simp; omega))), (by first | omega | (simp; done) | (simp; omega)), ⟨by simp [hc1, go_sem, m0, hsz], by simp [hc1, go_sem, m1, hsz], by simp [hc1, go_sem, m2, hsz]⟩, by first | omega | (simp; omega)⟩
              case measure => simp [intOf]; omega
      · have HG0 := Lib.hid hg2
        clear hg2
        cases ea : (l[k].asset == x.asset)
        · have HG := Lib.hid (show setG x d0 l = (O ++ [l[k]]) ++ setG x true (l.drop (k + 1)) from by rw [HG0.out, ea]; simp)
          have na : (l[k].asset != x.asset) = true := by simp only [bne, ea]; rfl
          go_wp2_with fail
          go_quiet (fail)
          go_wp2_with fail
          go_quiet (fail)
          go_wp2_with (first | (at_builtin; refine wpList_app rfl _ _ _ rfl elLot (w.heap.size + 1) _ _ rfl ((Hown.out.drew.drew).alloc _) (some ⟨_, 0, none⟩) 1 1 rfl [encLot l[k]] rfl (fun h => by cases h) (rd_oneN (by simp)) (rowsLot [l[k]]) (by unfold maxLen; first | (simp; done) | omega | (simp; omega)) (by first | (simp; done) | omega | (simp; omega)) (by first | omega | (simp; done) | (simp; omega)) ?_; intro v4 w4 hown4 hb4; obtain ⟨fc4, fg4, hc4, hf4, hz4⟩ := bget hb4; (try simp at hz4)) | fail)
          go_roundw
          case rel => exact ⟨k + 1, true, O ++ [l[k]], by omega, by go_num, rfl, (by rw [List.map_append]; exact hown4), by rw [HG.out], by have hbl := Hbl.out; (repeat' (first | (with_reducible exact Below.refl _ _) | (with_reducible assumption) | (with_reducible refine Below.alloc ?_ ?_ _) | (with_reducible refine Below.setCell ?_ ?_ _) | (with_reducible refine Below.drew ?_) | (with_reducible refine below_drewN ?_ _) | (with_reducible refine below_via ?_ (by with_reducible assumption) ?_) | omega | (simp; done) | (simp; omega))), (by first | omega | (simp; done) | (simp; omega)), ⟨by simp [hc4, go_sem, m0, ↓IntWalk.iteOmega], by simp [hc4, go_sem, m1, ↓IntWalk.iteOmega], by simp [hc4, go_sem, m2, ↓IntWalk.iteOmega]⟩, by first | omega | (simp; omega)⟩
          case measure => simp [intOf]; omega
        · cases et : (l[k].tag == x.tag)
          · have HG := Lib.hid (show setG x d0 l = (O ++ [l[k]]) ++ setG x true (l.drop (k + 1)) from by rw [HG0.out, ea, et]; simp)
            have na : (l[k].asset != x.asset) = false := by simp only [bne, ea]; rfl
            have nt : (l[k].tag != x.tag) = true := by simp only [bne, et]; rfl
            go_wp2_with fail
            go_quiet (fail)
            go_wp2_with fail
            go_quiet (fail)
            go_wp2_with (first | (at_builtin; refine wpList_app rfl _ _ _ rfl elLot (w.heap.size + 1) _ _ rfl ((Hown.out.drew.drew).alloc _) (some ⟨_, 0, none⟩) 1 1 rfl [encLot l[k]] rfl (fun h => by cases h) (rd_oneN (by simp)) (rowsLot [l[k]]) (by unfold maxLen; first | (simp; done) | omega | (simp; omega)) (by first | (simp; done) | omega | (simp; omega)) (by first | omega | (simp; done) | (simp; omega)) ?_; intro v4 w4 hown4 hb4; obtain ⟨fc4, fg4, hc4, hf4, hz4⟩ := bget hb4; (try simp at hz4)) | fail)
            go_roundw
            case rel => exact ⟨k + 1, true, O ++ [l[k]], by omega, by go_num, rfl, (by rw [List.map_append]; exact hown4), by rw [HG.out], by have hbl := Hbl.out; (repeat' (first | (with_reducible exact Below.refl _ _) | (with_reducible assumption) | (with_reducible refine Below.alloc ?_ ?_ _) | (with_reducible refine Below.setCell ?_ ?_ _) | (with_reducible refine Below.drew ?_) | (with_reducible refine below_drewN ?_ _) | (with_reducible refine below_via ?_ (by with_reducible assumption) ?_) | omega | (simp; done) | (simp; omega))), (by first | omega | (simp; done) | (simp; omega)), ⟨by simp [hc4, go_sem, m0, ↓IntWalk.iteOmega], by simp [hc4, go_sem, m1, ↓IntWalk.iteOmega], by simp [hc4, go_sem, m2, ↓IntWalk.iteOmega]⟩, by first | omega | (simp; omega)⟩
            case measure => simp [intOf]; omega
          · have HG := Lib.hid (show setG x d0 l = O ++ setG x true (l.drop (k + 1)) from by rw [HG0.out, ea, et]; simp)
            have na : (l[k].asset != x.asset) = false := by simp only [bne, ea]; rfl
            have nt : (l[k].tag != x.tag) = false := by simp only [bne, et]; rfl
            go_wp2_with fail
            go_quiet (fail)
            go_wp2_with fail
            go_quiet (fail)
            go_wp2_with fail
            go_roundw
            case rel => exact ⟨k + 1, true, O, by omega, by go_num, rfl, (by exact Hown.out.drew), by rw [HG.out], by have hbl := Hbl.out; (repeat' (first | (with_reducible exact Below.refl _ _) | (with_reducible assumption) | (with_reducible refine Below.alloc ?_ ?_ _) | (with_reducible refine Below.setCell ?_ ?_ _) | (with_reducible refine Below.drew ?_) | (with_reducible refine below_drewN ?_ _) | (with_reducible refine below_via ?_ (by with_reducible assumption) ?_) | omega | (simp; done) | (simp; omega))), (by first | omega | (simp; done) | (simp; omega)), ⟨by simp [go_sem, m0], by simp [go_sem, m1], by simp [go_sem, m2]⟩, by first | omega | (simp; omega)⟩
            case measure => simp [intOf]; omega
    · have dl : decide ((k : Int) < (l.length : Int)) = false := by simpa using hlt
      have hgE : setG x d0 l = O ++ setG x d [] := by rw [hg, List.drop_eq_nil_of_le (by omega)]
      clear hg
      cases d
      · have HG := Lib.hid (show setG x d0 l = O ++ [x] from by rw [hgE]; rfl)
        clear hgE
        go_wp2_with (first | (at_builtin; refine wpList_app rfl _ _ _ rfl elLot (w.heap.size + 1) _ _ rfl (Hown.out.alloc _) (some ⟨_, 0, none⟩) 1 1 rfl [encLot x] rfl (fun h => by cases h) (rd_oneN (by simp)) (rowsLot [x]) (by unfold maxLen; first | (simp; done) | omega | (simp; omega)) (by first | (simp; done) | omega | (simp; omega)) (by first | omega | (simp; done) | (simp; omega)) ?_; intro v3 w3 hown3 hb3; obtain ⟨fc3, fg3, hc3, hf3, hz3⟩ := bget hb3; (try simp at hz3)) | fail)
        go_ret
        exact ⟨_, rfl, by rw [HG.out, List.map_append]; exact hown3.mono (by omega), by have hbl := Hbl.out; (repeat' (first | (with_reducible exact Below.refl _ _) | (with_reducible assumption) | (with_reducible refine Below.alloc ?_ ?_ _) | (with_reducible refine Below.setCell ?_ ?_ _) | (with_reducible refine Below.drew ?_) | (with_reducible refine below_drewN ?_ _) | (with_reducible refine below_via ?_ (by with_reducible assumption) ?_) | omega | (simp; done) | (simp; omega)))⟩
      · have HG := Lib.hid (show setG x d0 l = O from by rw [hgE]; simp [setG])
        clear hgE
        go_wp2_with fail
        go_ret
        exact ⟨_, rfl, by rw [HG.out]; exact Hown.out.mono (by omega), by have hbl := Hbl.out; (repeat' (first | (with_reducible exact Below.refl _ _) | (with_reducible assumption) | (with_reducible refine Below.alloc ?_ ?_ _) | (with_reducible refine Below.setCell ?_ ?_ _) | (with_reducible refine Below.drew ?_) | (with_reducible refine below_drewN ?_ _) | (with_reducible refine below_via ?_ (by with_reducible assumption) ?_) | omega | (simp; done) | (simp; omega)))⟩
end Go.Proofs.Ytemhhojenocddaa
