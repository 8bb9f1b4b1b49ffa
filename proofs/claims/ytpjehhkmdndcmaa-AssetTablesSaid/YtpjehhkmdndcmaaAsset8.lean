/- Assets: contract of the reference's Priced. -/
import Derived.Test.YtpjehhkmdndcmaaAsset7
namespace Go.Proofs.Ytpjehhkmdndcmaa
open Go.RowKit
theorem set_take_lt {α : Type} {l : List α} {k q : Nat} (y : α) (hq : q < l.length) (h : q ≠ k) : (l.set k y).take (q + 1) = (l.set k y).take q ++ [l[q]] := by
  rw [List.take_succ_eq_append_getElem (by rw [List.length_set]; exact hq), List.getElem_set_ne (fun e => h e.symm)]
theorem set_take_eq {α : Type} {l : List α} {q : Nat} (y : α) (hq : q < l.length) : (l.set q y).take (q + 1) = (l.set q y).take q ++ [y] := by
  rw [List.take_succ_eq_append_getElem (by rw [List.length_set]; exact hq), List.getElem_set_self]
set_option maxRecDepth 100000 in
set_option maxHeartbeats 8000000 in
theorem ref12Priced (l : List Asset) (id p : Int) (A : Option Addr) (c : Nat) (w : World) (hl : l.length ≤ 1000000) (hr : Rs w 3 (l.map encAsset) A c) :
    Calls Try.prog 52 #[.slice A l.length c, .int .i64 id, .int .i64 p] w (PricedPost w l id p) := by
  have HR := Lib.hid hr
  have c2 := fun W (h : Rd W A 3 (l.map encAsset)) => ref12Find l id A c W (by omega) h
  clear hr
  rcases idxCasesA l id with ⟨k, hk, hm, hn⟩ | hn
  rotate_left
  · have hf := findAsset_miss hn
    have hp : pricedL l id p = [] := by unfold pricedL; rw [hf, if_neg (by simp)]
    have hq : pricedC l id p = 11 := by unfold pricedC; rw [hf]; rfl
    rw [hf] at c2
    have HP := Lib.hid hp
    have HQ := Lib.hid hq
    have C2 := Lib.hid c2
    clear c2 hp hq hf hn
    go_enter Try.func52, Try.ntmps52
    go_wp2_with (go_at_call 54; (with_reducible refine (C2.out _ (HR.out.rd.keep (by (repeat' (first | (with_reducible exact Below.refl _ _) | (with_reducible assumption) | (with_reducible refine Below.alloc ?_ ?_ _) | (with_reducible refine Below.setCell ?_ ?_ _) | (with_reducible refine Below.drew ?_) | (with_reducible refine below_drewN ?_ _) | (with_reducible refine below_via ?_ (by with_reducible assumption) ?_) | omega | (simp; done) | (simp; omega)))))).mono ?_); rintro e w2 ⟨rfl, hb2⟩; obtain ⟨fc2, fg2, hc2, hf2, hz2⟩ := bget hb2; try simp at hz2)
    go_ret2
    exact ⟨_, by rw [HQ.out]; rfl, by rw [HP.out]; exact Own.nil _ _ _ _, by (repeat' (first | (with_reducible exact Below.refl _ _) | (with_reducible assumption) | (with_reducible refine Below.alloc ?_ ?_ _) | (with_reducible refine Below.setCell ?_ ?_ _) | (with_reducible refine Below.drew ?_) | (with_reducible refine below_drewN ?_ _) | (with_reducible refine below_via ?_ (by with_reducible assumption) ?_) | omega | (simp; done) | (simp; omega)))⟩
  have hf := findAsset_hit hk hm hn
  have hf2 : (findAsset l id).2 = true := by rw [hf]
  rw [hf] at c2
  cases hpr : pricedA p
  · have hp : pricedL l id p = [] := by unfold pricedL; rw [hpr, if_neg (by simp)]
    have hq : pricedC l id p = 2 := by unfold pricedC; rw [hf2, hpr]; rfl
    have HP := Lib.hid hp
    have HQ := Lib.hid hq
    have C2 := Lib.hid c2
    by_cases h0 : p < 0
    · have d0 := decide_eq_true h0
      clear c2 hp hq hf hf2 hn hm hpr
      go_enter Try.func52, Try.ntmps52
      go_wp2_with (first | (go_at_call 54; (with_reducible refine (C2.out _ (HR.out.rd.keep (by (repeat' (first | (with_reducible exact Below.refl _ _) | (with_reducible assumption) | (with_reducible refine Below.alloc ?_ ?_ _) | (with_reducible refine Below.setCell ?_ ?_ _) | (with_reducible refine Below.drew ?_) | (with_reducible refine below_drewN ?_ _) | (with_reducible refine below_via ?_ (by with_reducible assumption) ?_) | omega | (simp; done) | (simp; omega)))))).mono ?_); rintro e w2 ⟨rfl, hb2⟩; obtain ⟨fc2, fg2, hc2, hf2, hz2⟩ := bget hb2; try simp at hz2) | fail)
      go_ret2
      exact ⟨_, by rw [HQ.out]; rfl, by rw [HP.out]; exact Own.nil _ _ _ _, by (repeat' (first | (with_reducible exact Below.refl _ _) | (with_reducible assumption) | (with_reducible refine Below.alloc ?_ ?_ _) | (with_reducible refine Below.setCell ?_ ?_ _) | (with_reducible refine Below.drew ?_) | (with_reducible refine below_drewN ?_ _) | (with_reducible refine below_via ?_ (by with_reducible assumption) ?_) | omega | (simp; done) | (simp; omega)))⟩
    · have d0 := decide_eq_false h0
      have d1 : decide (2147483647 < p) = true := by
        unfold pricedA at hpr
        rw [decide_eq_true (show 0 ≤ p by omega), Bool.true_and] at hpr
        have := of_decide_eq_false hpr
        simp; omega
      clear c2 hp hq hf hf2 hn hm hpr
      go_enter Try.func52, Try.ntmps52
      go_wp2_with (first | (go_at_call 54; (with_reducible refine (C2.out _ (HR.out.rd.keep (by (repeat' (first | (with_reducible exact Below.refl _ _) | (with_reducible assumption) | (with_reducible refine Below.alloc ?_ ?_ _) | (with_reducible refine Below.setCell ?_ ?_ _) | (with_reducible refine Below.drew ?_) | (with_reducible refine below_drewN ?_ _) | (with_reducible refine below_via ?_ (by with_reducible assumption) ?_) | omega | (simp; done) | (simp; omega)))))).mono ?_); rintro e w2 ⟨rfl, hb2⟩; obtain ⟨fc2, fg2, hc2, hf2, hz2⟩ := bget hb2; try simp at hz2) | fail)
      go_ret2
      exact ⟨_, by rw [HQ.out]; rfl, by rw [HP.out]; exact Own.nil _ _ _ _, by (repeat' (first | (with_reducible exact Below.refl _ _) | (with_reducible assumption) | (with_reducible refine Below.alloc ?_ ?_ _) | (with_reducible refine Below.setCell ?_ ?_ _) | (with_reducible refine Below.drew ?_) | (with_reducible refine below_drewN ?_ _) | (with_reducible refine below_via ?_ (by with_reducible assumption) ?_) | omega | (simp; done) | (simp; omega)))⟩
  have hp : pricedL l id p = l.set k { l[k] with price := p } := by unfold pricedL; rw [hf2, hpr, if_pos ⟨rfl, rfl⟩]; exact updA_at hk hm hn
  have hq : pricedC l id p = 0 := by unfold pricedC; rw [hf2, hpr]; rfl
  have hpp : 0 ≤ p ∧ p ≤ 2147483647 := by unfold pricedA at hpr; simpa using hpr
  have d0 : decide (p < 0) = false := by simp; omega
  have d1 : decide (2147483647 < p) = false := by simp; omega
  obtain ⟨y, hy⟩ : ∃ y : Asset, y = { l[k] with price := p } := ⟨_, rfl⟩
  have hy1 : y.id = l[k].id ∧ y.price = p ∧ y.hair = l[k].hair := by subst hy; exact ⟨rfl, rfl, rfl⟩
  rw [← hy] at hp
  have HY := Lib.hid hy1
  have HP := Lib.hid hp
  have HQ := Lib.hid hq
  have C2 := Lib.hid c2
  have HN := Lib.hid hn
  have HM := Lib.hid hm
  clear c2 hp hq hf hf2 hn hm hpr hy hy1
  go_enter Try.func52, Try.ntmps52
  go_wp2_with (first | (go_at_call 54; (with_reducible refine (C2.out _ (HR.out.rd.keep (by (repeat' (first | (with_reducible exact Below.refl _ _) | (with_reducible assumption) | (with_reducible refine Below.alloc ?_ ?_ _) | (with_reducible refine Below.setCell ?_ ?_ _) | (with_reducible refine Below.drew ?_) | (with_reducible refine below_drewN ?_ _) | (with_reducible refine below_via ?_ (by with_reducible assumption) ?_) | omega | (simp; done) | (simp; omega)))))).mono ?_); rintro e w2 ⟨rfl, hb2⟩; obtain ⟨fc2, fg2, hc2, hf2, hz2⟩ := bget hb2; try simp at hz2) | fail)
  go_loopw [10, 11, 12] (fun v dn i wr => ∃ q : Nat, q ≤ l.length ∧ i = .int .i64 q ∧ dn = .bool (decide (k < q)) ∧ Own wr w.heap.size 51 3 v (((l.set k y).take q).map encAsset) ∧ Below w.heap.size w wr) (fun _ _ i _ => l.length - (intOf i).toNat)
  case atStart => exact ⟨0, Nat.zero_le _, rfl, by simp, Own.nil _ _ _ _, by (repeat' (first | (with_reducible exact Below.refl _ _) | (with_reducible assumption) | (with_reducible refine Below.alloc ?_ ?_ _) | (with_reducible refine Below.setCell ?_ ?_ _) | (with_reducible refine Below.drew ?_) | (with_reducible refine below_drewN ?_ _) | (with_reducible refine below_via ?_ (by with_reducible assumption) ?_) | omega | (simp; done) | (simp; omega)))⟩
  case round =>
    obtain ⟨q, hq, rfl, rfl, hown, hbl⟩ := hrel
    have Hown := Lib.hid hown
    have Hbl := Lib.hid hbl
    have hz := hbl.size
    clear hown hbl
    by_cases hlt : q < l.length
    · have hqi : (q : Int) < (l.length : Int) := by omega
      have dl : decide ((q : Int) < (l.length : Int)) = true := by simpa using hlt
      obtain ⟨b, o, rfl, hb, hc⟩ := HR.out.rd q (encAsset l[q]) (by simp [hlt])
      have e0 := (Hbl.out.cell (p := ⟨b, o + q * 3 + 0, none⟩) hb).trans (hc 0 _ rfl)
      have e1 := (Hbl.out.cell (p := ⟨b, o + q * 3 + 1, none⟩) hb).trans (hc 1 _ rfl)
      have e2 := (Hbl.out.cell (p := ⟨b, o + q * 3 + 2, none⟩) hb).trans (hc 2 _ rfl)
      simp only [Nat.add_zero] at e0
      clear hc
      have hbw : b < wr.heap.size := by omega
      rcases Nat.lt_trichotomy q k with hqk | hqk | hqk
      · have g1 := HN.out q hlt hqk
        have dk : decide (k < q) = false := by simp; omega
        have HS := Lib.hid (set_take_lt y hlt (show q ≠ k by omega))
        go_wp2_with (first | (at_builtin; refine wpList_app rfl _ _ _ rfl elAsset w.heap.size _ _ rfl ((Hown.out.alloc _).alloc _) (some ⟨_, 0, none⟩) 1 1 rfl [encAsset l[q]] rfl (fun h => by cases h) (rd_oneN (by simp)) (rowsAsset [l[q]]) (by unfold maxLen; first | (simp; done) | omega | (simp; omega)) (by first | (simp; done) | omega | (simp; omega)) (by first | omega | (simp; done) | (simp; omega)) ?_; intro v3 w3 hown3 hb3) | fail)
        go_roundw
        case rel => exact ⟨q + 1, by omega, by go_num, by simp; omega, by rw [HS.out, List.map_append]; exact hown3, by have hbl := Hbl.out; (repeat' (first | (with_reducible exact Below.refl _ _) | (with_reducible assumption) | (with_reducible refine Below.alloc ?_ ?_ _) | (with_reducible refine Below.setCell ?_ ?_ _) | (with_reducible refine Below.drew ?_) | (with_reducible refine below_drewN ?_ _) | (with_reducible refine below_via ?_ (by with_reducible assumption) ?_) | omega | (simp; done) | (simp; omega)))⟩
        case measure => simp [intOf]; omega
      · subst hqk
        have g1 := HM.out
        have dk : decide (q < q) = false := by simp
        have HS := Lib.hid (set_take_eq y hlt)
        have HE := Lib.hid (show encAsset y = [.int .i64 l[q].id, .int .i64 p, .int .i64 l[q].hair] from by unfold encAsset; rw [HY.out.1, HY.out.2.1, HY.out.2.2])
        have HRW := Lib.hid (show ∀ r ∈ [[Value.int .i64 l[q].id, .int .i64 p, .int .i64 l[q].hair]], r.length = 3 ∧ ∀ u ∈ r, u.oneCell' = true from by rw [← HE.out]; exact rowsAsset [y])
        go_wp2_with (first | (at_builtin; refine wpList_app rfl _ _ _ rfl elAsset w.heap.size _ _ rfl ((Hown.out.alloc _).alloc _) (some ⟨_, 0, none⟩) 1 1 rfl [[.int .i64 l[q].id, .int .i64 p, .int .i64 l[q].hair]] rfl (fun h => by cases h) (rd_oneN (by simp)) (HRW.out) (by unfold maxLen; first | (simp; done) | omega | (simp; omega)) (by first | (simp; done) | omega | (simp; omega)) (by first | omega | (simp; done) | (simp; omega)) ?_; intro v3 w3 hown3 hb3) | fail)
        go_roundw
        case rel => exact ⟨q + 1, by omega, by go_num, by simp; try omega, by rw [HS.out, List.map_append]; show Own _ _ _ _ _ (_ ++ [encAsset y]); rw [HE.out]; exact hown3, by have hbl := Hbl.out; (repeat' (first | (with_reducible exact Below.refl _ _) | (with_reducible assumption) | (with_reducible refine Below.alloc ?_ ?_ _) | (with_reducible refine Below.setCell ?_ ?_ _) | (with_reducible refine Below.drew ?_) | (with_reducible refine below_drewN ?_ _) | (with_reducible refine below_via ?_ (by with_reducible assumption) ?_) | omega | (simp; done) | (simp; omega)))⟩
        case measure => simp [intOf]; omega
      · have dk : decide (k < q) = true := by simp; omega
        have HS := Lib.hid (set_take_lt y hlt (show q ≠ k by omega))
        cases g1 : (l[q].id == id)
        · go_wp2_with (first | (at_builtin; refine wpList_app rfl _ _ _ rfl elAsset w.heap.size _ _ rfl ((Hown.out.alloc _).alloc _) (some ⟨_, 0, none⟩) 1 1 rfl [encAsset l[q]] rfl (fun h => by cases h) (rd_oneN (by simp)) (rowsAsset [l[q]]) (by unfold maxLen; first | (simp; done) | omega | (simp; omega)) (by first | (simp; done) | omega | (simp; omega)) (by first | omega | (simp; done) | (simp; omega)) ?_; intro v3 w3 hown3 hb3) | fail)
          go_roundw
          case rel => exact ⟨q + 1, by omega, by go_num, by simp; omega, by rw [HS.out, List.map_append]; exact hown3, by have hbl := Hbl.out; (repeat' (first | (with_reducible exact Below.refl _ _) | (with_reducible assumption) | (with_reducible refine Below.alloc ?_ ?_ _) | (with_reducible refine Below.setCell ?_ ?_ _) | (with_reducible refine Below.drew ?_) | (with_reducible refine below_drewN ?_ _) | (with_reducible refine below_via ?_ (by with_reducible assumption) ?_) | omega | (simp; done) | (simp; omega)))⟩
          case measure => simp [intOf]; omega
        · go_wp2_with (first | (at_builtin; refine wpList_app rfl _ _ _ rfl elAsset w.heap.size _ _ rfl ((Hown.out.alloc _).alloc _) (some ⟨_, 0, none⟩) 1 1 rfl [encAsset l[q]] rfl (fun h => by cases h) (rd_oneN (by simp)) (rowsAsset [l[q]]) (by unfold maxLen; first | (simp; done) | omega | (simp; omega)) (by first | (simp; done) | omega | (simp; omega)) (by first | omega | (simp; done) | (simp; omega)) ?_; intro v3 w3 hown3 hb3) | fail)
          go_roundw
          case rel => exact ⟨q + 1, by omega, by go_num, by simp; omega, by rw [HS.out, List.map_append]; exact hown3, by have hbl := Hbl.out; (repeat' (first | (with_reducible exact Below.refl _ _) | (with_reducible assumption) | (with_reducible refine Below.alloc ?_ ?_ _) | (with_reducible refine Below.setCell ?_ ?_ _) | (with_reducible refine Below.drew ?_) | (with_reducible refine below_drewN ?_ _) | (with_reducible refine below_via ?_ (by with_reducible assumption) ?_) | omega | (simp; done) | (simp; omega)))⟩
          case measure => simp [intOf]; omega
    · have dl : decide ((q : Int) < (l.length : Int)) = false := by simpa using hlt
      have HT := Lib.hid (show (l.set k y).take q = l.set k y from List.take_of_length_le (by rw [List.length_set]; omega))
      go_wp2_with fail
      go_ret2
      exact ⟨_, by rw [HQ.out]; rfl, by rw [HP.out, ← HT.out]; exact Hown.out, Hbl.out⟩
end Go.Proofs.Ytpjehhkmdndcmaa
