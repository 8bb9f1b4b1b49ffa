/- Assets: contracts of asset.Find, Put. -/
import Derived.Test.YtpjehhkmdndcmaaAsset5
namespace Go.Proofs.Ytpjehhkmdndcmaa
open Go.RowKit
set_option maxRecDepth 100000 in
set_option maxHeartbeats 2000000 in
theorem assetFind (l : List Asset) (id : Int) (A : Option Addr) (c : Nat) (w : World) (hl : l.length ≤ 1099511627776) (hr : Rd w A 3 (l.map encAsset)) :
    Calls Try.prog 53 #[.slice A l.length c, .int .i64 id] w fun e w' => e = .returned (.tuple #[.agg #[.int .i64 (findAsset l id).1.id, .int .i64 (findAsset l id).1.price, .int .i64 (findAsset l id).1.hair], .bool (findAsset l id).2]) ∧ Below w.heap.size w w' := by
  have Hr := Lib.hid hr
  clear hr
  go_enter Try.func53, Try.ntmps53
  go_wp2_with fail
  go_loopw [10] (fun i wr => ∃ k : Nat, k ≤ l.length ∧ i = .int .i64 k ∧ Below w.heap.size w wr ∧ w.heap.size < wr.heap.size ∧ (wr.cell? ⟨w.heap.size, 0, none⟩ = some (.int .i64 0) ∧ wr.cell? ⟨w.heap.size, 1, none⟩ = some (.int .i64 0) ∧ wr.cell? ⟨w.heap.size, 2, none⟩ = some (.int .i64 0) ∧ wr.frozen? ⟨w.heap.size, 0, none⟩ = false ∧ wr.frozen? ⟨w.heap.size, 1, none⟩ = false ∧ wr.frozen? ⟨w.heap.size, 2, none⟩ = false) ∧ ∀ j (_ : j < l.length), j < k → (l[j].id == id) = false) (fun i _ => l.length - (intOf i).toNat)
  case atStart => exact ⟨0, Nat.zero_le _, rfl, by (repeat' (first | (with_reducible exact Below.refl _ _) | (with_reducible assumption) | (with_reducible refine Below.alloc ?_ ?_ _) | (with_reducible refine Below.setCell ?_ ?_ _) | (with_reducible refine Below.drew ?_) | (with_reducible refine below_drewN ?_ _) | (with_reducible refine below_via ?_ (by with_reducible assumption) ?_) | omega | (simp; done) | (simp; omega))), by simp, by simp [go_sem], fun j _ h => absurd h (by omega)⟩
  case round =>
    obtain ⟨k, hk, rfl, hbl, hsz, ⟨g0, g1, g2, f0, f1, f2⟩, hno⟩ := hrel
    have Hbl := Lib.hid hbl
    have Hno := Lib.hid hno
    have hz := hbl.size
    clear hbl hno
    by_cases hlt : k < l.length
    · have hki : (k : Int) < (l.length : Int) := by omega
      have dl : decide ((k : Int) < (l.length : Int)) = true := by simpa using hlt
      obtain ⟨b, o, rfl, hb, hc⟩ := Hr.out k (encAsset l[k]) (by simp [hlt])
      have c0 := (Hbl.out.cell (p := ⟨b, o + k * 3 + 0, none⟩) hb).trans (hc 0 _ rfl)
      have c1 := (Hbl.out.cell (p := ⟨b, o + k * 3 + 1, none⟩) hb).trans (hc 1 _ rfl)
      have c2 := (Hbl.out.cell (p := ⟨b, o + k * 3 + 2, none⟩) hb).trans (hc 2 _ rfl)
      simp only [Nat.add_zero] at c0
      clear hc
      cases hm : (l[k].id == id)
      · have Hm := Lib.hid hm
        go_wp2_with fail
        go_roundw
        case rel => exact ⟨k + 1, by omega, by go_num, by have hbl := Hbl.out; (repeat' (first | (with_reducible exact Below.refl _ _) | (with_reducible assumption) | (with_reducible refine Below.alloc ?_ ?_ _) | (with_reducible refine Below.setCell ?_ ?_ _) | (with_reducible refine Below.drew ?_) | (with_reducible refine below_drewN ?_ _) | (with_reducible refine below_via ?_ (by with_reducible assumption) ?_) | omega | (simp; done) | (simp; omega))), by simp; omega, by simp [go_sem, g0, g1, g2, f0, f1, f2, ↓IntWalk.iteOmega], fun j hj h => by
          rcases Nat.lt_or_ge j k with h1 | h1
          · exact Hno.out j hj h1
          · obtain rfl : j = k := by omega
            exact Hm.out⟩
        case measure => simp [intOf]; omega
      · have hi := findAsset_hit hlt hm Hno.out
        have Hi := Lib.hid hi
        clear hi
        go_wp2_with fail
        rw [Hi.out]
        have hbl := Hbl.out
        refine bodyPost_ret (by simp [results, Try.results53, go_sem, g0, g1, g2]; try rfl) rfl ⟨rfl, ?_⟩
        (repeat' (first | (with_reducible exact Below.refl _ _) | (with_reducible assumption) | (with_reducible refine Below.alloc ?_ ?_ _) | (with_reducible refine Below.setCell ?_ ?_ _) | (with_reducible refine Below.drew ?_) | (with_reducible refine below_drewN ?_ _) | (with_reducible refine below_via ?_ (by with_reducible assumption) ?_) | omega | (simp; done) | (simp; omega)))
    · have dl : decide ((k : Int) < (l.length : Int)) = false := by simpa using hlt
      have hi := findAsset_miss (l := l) (fun j hj => Hno.out j hj (by omega))
      have Hi := Lib.hid hi
      clear hi
      go_wp2_with fail
      rw [Hi.out]
      have hbl := Hbl.out
      refine bodyPost_ret (by simp [results, Try.results53, go_sem, g0, g1, g2]; try rfl) rfl ⟨rfl, ?_⟩
      (repeat' (first | (with_reducible exact Below.refl _ _) | (with_reducible assumption) | (with_reducible refine Below.alloc ?_ ?_ _) | (with_reducible refine Below.setCell ?_ ?_ _) | (with_reducible refine Below.drew ?_) | (with_reducible refine below_drewN ?_ _) | (with_reducible refine below_via ?_ (by with_reducible assumption) ?_) | omega | (simp; done) | (simp; omega)))
/-- Strictly by number. -/
def SortedAsset (l : List Asset) : Prop := l.Pairwise (fun a b => a.id < b.id)
theorem sorted_insAsset {l : List Asset} {m : Asset} (hs : SortedAsset l) (hn : (findAsset l m.id).2 = false) : SortedAsset (insAsset l m) := by
  have hne : ∀ x ∈ l, x.id ≠ m.id := by
    intro x hx he
    unfold findAsset at hn
    cases hf : l.find? (fun y => y.id == m.id) with
    | none => rw [List.find?_eq_none] at hf; exact hf x hx (by simp [he])
    | some y => rw [hf] at hn; cases hn
  unfold SortedAsset at hs ⊢
  unfold insAsset
  have hs' := hs
  rw [← List.takeWhile_append_dropWhile (p := fun x : Asset => decide (x.id < m.id)) (l := l), List.pairwise_append] at hs'
  obtain ⟨h1, h2, h3⟩ := hs'
  rw [List.pairwise_append, List.pairwise_cons]
  refine ⟨h1, ⟨fun x hx => ?_, h2⟩, fun a ha b hb => ?_⟩
  · cases hd : l.dropWhile (fun x : Asset => decide (x.id < m.id)) with
    | nil => rw [hd] at hx; cases hx
    | cons y t =>
      have hy : ¬ y.id < m.id := by
        have := List.head_dropWhile_not (p := fun x : Asset => decide (x.id < m.id)) (l := l) (by rw [hd]; simp)
        simp [hd] at this; omega
      have hym : y ∈ l := (List.dropWhile_sublist (l := l) (p := fun x : Asset => decide (x.id < m.id))).subset (by rw [hd]; simp)
      have := hne y hym
      rw [hd] at hx h2
      rcases List.mem_cons.1 hx with rfl | hx
      · omega
      · have := (List.pairwise_cons.1 h2).1 x hx; omega
  · rcases List.mem_cons.1 hb with rfl | hb
    · have := List.all_eq_true.1 (List.all_takeWhile (p := fun x : Asset => decide (x.id < b.id)) (l := l)) a ha; simpa using this
    · exact h3 a ha b hb
theorem sorted_tabAssetN (okf : Asset → Bool) (l : List Asset) : ∀ k, SortedAsset (tabAssetN okf l k)
  | 0 => by simp [tabAssetN, SortedAsset]
  | k + 1 => by
    have ih := sorted_tabAssetN okf l k
    rcases Nat.lt_or_ge k l.length with h | h
    · rw [tabAssetN_succ h]; unfold stepAsset; split
      · rename_i hq
        unfold putAssetL
        split
        · rename_i hh; exact sorted_insAsset ih hh.2
        · exact List.Pairwise.nil
      · exact ih
    · have : tabAssetN okf l (k + 1) = tabAssetN okf l k := by unfold tabAssetN; rw [List.take_of_length_le (by omega), List.take_of_length_le h]
      rw [this]; exact ih
theorem sortedA_lt {l : List Asset} (hs : SortedAsset l) (id : Int) : ∀ i j (_ : i < j) (hj : j < l.length), (fun x : Asset => decide (ord x.id id < 0)) l[j] = true → (fun x : Asset => decide (ord x.id id < 0)) l[i] = true := by
  intro i j hij hj h
  have hp := (List.pairwise_iff_getElem.1 hs) i j (by omega) hj hij
  simp only [decide_eq_true_eq] at h ⊢
  unfold ord at *
  split at h
  · rw [if_pos (by omega)]; omega
  · split at h <;> omega
theorem ord_lt0 (a b : Int) : decide (ord a b < 0) = decide (a < b) := by
  unfold ord
  by_cases h : a < b
  · rw [if_pos h]; simp [h]
  · rw [if_neg h]; split <;> simp [h]
set_option maxRecDepth 100000 in
set_option maxHeartbeats 8000000 in
theorem assetPut (l : List Asset) (m : Asset) (A : Option Addr) (c : Nat) (w : World) (hl : l.length ≤ 1000000) (hs : SortedAsset l) (hr : Rs w 3 (l.map encAsset) A c) :
    Calls Try.prog 49 #[.slice A l.length c, .agg #[.int .i64 m.id, .int .i64 m.price, .int .i64 m.hair]] w (PutAssetPost (decide (okA m)) w l m) := by
  have HR := Lib.hid hr
  have c1 := fun W => assetCheck m W
  have c2 := fun W (h : Rd W A 3 (l.map encAsset)) => assetFind l m.id A c W (by omega) h
  have c3 := fun W (h : Rd W A 3 (l.map encAsset)) => assetSearch l m.id A c W (by omega) h (sortedA_lt hs m.id)
  simp only [ord_lt0] at c3
  clear hr
  by_cases hok : okA m
  rotate_left
  · rw [codeA_no hok] at c1
    rw [decide_eq_false hok]
    have hp : putAssetL false l m = [] := by unfold putAssetL; rw [if_neg (fun h => by cases h.1)]
    have hq : putAssetC false l m = 2 := rfl
    have HP := Lib.hid hp
    have HQ := Lib.hid hq
    have C1 := Lib.hid c1
    clear c1 c2 c3 hp hq hok hs
    go_enter Try.func49, Try.ntmps49
    go_wp2_with (go_at_call 47; (with_reducible refine (C1.out _).mono ?_); rintro e w1 ⟨rfl, hb1⟩; obtain ⟨fc1, fg1, hc1, hf1, hz1⟩ := bget hb1; try simp at hz1)
    go_ret2
    exact ⟨_, by rw [HQ.out]; rfl, by rw [HP.out]; exact Own.nil _ _ _ _, by (repeat' (first | (with_reducible exact Below.refl _ _) | (with_reducible assumption) | (with_reducible refine Below.alloc ?_ ?_ _) | (with_reducible refine Below.setCell ?_ ?_ _) | (with_reducible refine Below.drew ?_) | (with_reducible refine below_drewN ?_ _) | (with_reducible refine below_via ?_ (by with_reducible assumption) ?_) | omega | (simp; done) | (simp; omega)))⟩
  rw [codeA_yes hok] at c1
  rw [decide_eq_true hok]
  cases hf : (findAsset l m.id).2
  rotate_left
  · rw [hf] at c2
    have hp : putAssetL true l m = [] := by unfold putAssetL; rw [hf, if_neg (by simp)]
    have hq : putAssetC true l m = 12 := by unfold putAssetC; rw [hf]; rfl
    have HP := Lib.hid hp
    have HQ := Lib.hid hq
    have C1 := Lib.hid c1
    have C2 := Lib.hid c2
    clear c1 c2 c3 hp hq hok hf hs
    go_enter Try.func49, Try.ntmps49
    go_wp2_with (first | (go_at_call 47; (with_reducible refine (C1.out _).mono ?_); rintro e w1 ⟨rfl, hb1⟩; obtain ⟨fc1, fg1, hc1, hf1, hz1⟩ := bget hb1; try simp at hz1) | (go_at_call 53; (with_reducible refine (C2.out _ (HR.out.rd.keep (by (repeat' (first | (with_reducible exact Below.refl _ _) | (with_reducible assumption) | (with_reducible refine Below.alloc ?_ ?_ _) | (with_reducible refine Below.setCell ?_ ?_ _) | (with_reducible refine Below.drew ?_) | (with_reducible refine below_drewN ?_ _) | (with_reducible refine below_via ?_ (by with_reducible assumption) ?_) | omega | (simp; done) | (simp; omega)))))).mono ?_); rintro e w2 ⟨rfl, hb2⟩; obtain ⟨fc2, fg2, hc2, hf2, hz2⟩ := bget hb2; try simp at hz2) | fail)
    go_ret2
    exact ⟨_, by rw [HQ.out]; rfl, by rw [HP.out]; exact Own.nil _ _ _ _, by (repeat' (first | (with_reducible exact Below.refl _ _) | (with_reducible assumption) | (with_reducible refine Below.alloc ?_ ?_ _) | (with_reducible refine Below.setCell ?_ ?_ _) | (with_reducible refine Below.drew ?_) | (with_reducible refine below_drewN ?_ _) | (with_reducible refine below_via ?_ (by with_reducible assumption) ?_) | omega | (simp; done) | (simp; omega)))⟩
  rw [hf] at c2
  have hp : putAssetL true l m = insAsset l m := by unfold putAssetL; rw [hf, if_pos ⟨rfl, rfl⟩]
  have hq : putAssetC true l m = 0 := by unfold putAssetC; rw [hf]; rfl
  have hi := tw_len (fun x : Asset => decide (x.id < m.id)) l
  have hin : insAsset l m = l.take (l.takeWhile (fun x : Asset => decide (x.id < m.id))).length ++ m :: l.drop (l.takeWhile (fun x : Asset => decide (x.id < m.id))).length := by
    unfold insAsset
    rw [← tw_take, ← dw_drop]
  generalize (l.takeWhile (fun x : Asset => decide (x.id < m.id))).length = n at c3 hi hin
  generalize atB (fun x : Asset => (ord x.id m.id == 0)) l n = bb at c3
  rw [hin] at hp
  have HP := Lib.hid hp
  have HQ := Lib.hid hq
  have C1 := Lib.hid c1
  have C2 := Lib.hid c2
  have C3 := Lib.hid c3
  clear c1 c2 c3 hp hq hok hf hs hin
  go_enter Try.func49, Try.ntmps49
  go_wp2_with (first | (go_at_call 47; (with_reducible refine (C1.out _).mono ?_); rintro e w1 ⟨rfl, hb1⟩; obtain ⟨fc1, fg1, hc1, hf1, hz1⟩ := bget hb1; try simp at hz1) | (go_at_call 53; (with_reducible refine (C2.out _ (HR.out.rd.keep (by (repeat' (first | (with_reducible exact Below.refl _ _) | (with_reducible assumption) | (with_reducible refine Below.alloc ?_ ?_ _) | (with_reducible refine Below.setCell ?_ ?_ _) | (with_reducible refine Below.drew ?_) | (with_reducible refine below_drewN ?_ _) | (with_reducible refine below_via ?_ (by with_reducible assumption) ?_) | omega | (simp; done) | (simp; omega)))))).mono ?_); rintro e w2 ⟨rfl, hb2⟩; obtain ⟨fc2, fg2, hc2, hf2, hz2⟩ := bget hb2; try simp at hz2) | (go_at_call 85; (with_reducible refine (C3.out _ (HR.out.rd.keep (by (repeat' (first | (with_reducible exact Below.refl _ _) | (with_reducible assumption) | (with_reducible refine Below.alloc ?_ ?_ _) | (with_reducible refine Below.setCell ?_ ?_ _) | (with_reducible refine Below.drew ?_) | (with_reducible refine below_drewN ?_ _) | (with_reducible refine below_via ?_ (by with_reducible assumption) ?_) | omega | (simp; done) | (simp; omega)))))).mono ?_); rintro e w3 ⟨rfl, hb3⟩; obtain ⟨fc3, fg3, hc3, hf3, hz3⟩ := bget hb3; try simp at hz3) | fail)
  have m0 : w3.cell? ⟨w.heap.size, 0, none⟩ = some (.int .i64 m.id) := by simp [hc3, hc2, hc1, go_sem, ↓IntWalk.iteOmega]
  have m1 : w3.cell? ⟨w.heap.size, 1, none⟩ = some (.int .i64 m.price) := by simp [hc3, hc2, hc1, go_sem, ↓IntWalk.iteOmega]
  have m2 : w3.cell? ⟨w.heap.size, 2, none⟩ = some (.int .i64 m.hair) := by simp [hc3, hc2, hc1, go_sem, ↓IntWalk.iteOmega]
  go_region_held3 (fun w' => w'.cell? ⟨w.heap.size, 0, none⟩ = some (.int .i64 m.id) ∧ w'.cell? ⟨w.heap.size, 1, none⟩ = some (.int .i64 m.price) ∧ w'.cell? ⟨w.heap.size, 2, none⟩ = some (.int .i64 m.hair)) (first | (simp [go_sem]; done) | (repeat' (first | (with_reducible assumption) | (with_reducible refine And.intro ?_ ?_) | (with_reducible refine cell_drew ?_) | (with_reducible refine cell_via (by with_reducible assumption) ?_ ?_) | (simp [*]; done) | (simp [go_sem]; done) | (with_reducible refine cell_alloc ?_ ?_) | (with_reducible refine cell_set_far ?_ ?_) | omega | (simp; omega)))) (first | (go_at_call 88; (with_reducible refine (assetClone l A c _ (by omega) (HR.out.keep (by (repeat' (first | (with_reducible exact Below.refl _ _) | (with_reducible assumption) | (with_reducible refine Below.alloc ?_ ?_ _) | (with_reducible refine Below.setCell ?_ ?_ _) | (with_reducible refine Below.drew ?_) | (with_reducible refine below_drewN ?_ _) | (with_reducible refine below_via ?_ (by with_reducible assumption) ?_) | omega | (simp; done) | (simp; omega)))))).mono ?_); rintro e w4 ⟨v4, rfl, hown4, hb4⟩; have HO4 := Lib.hid hown4; have HW4 := Lib.hid hown4.block; clear hown4; obtain ⟨fc4, fg4, hc4, hf4, hz4⟩ := bget hb4; (try simp at hz4)) | (go_at_call 87; (with_reducible refine (insAssetAt l m n v4 w3.heap.size _ _ hi (by omega) ?_ ?_ ?_ ?_).mono ?_); (focus (first | omega | (simp; done) | (simp; omega))); (focus (repeat' (first | (with_reducible assumption) | (exact HO4.out) | (exact HO4.out.mono (by first | omega | (simp; done))) | (with_reducible refine Own.drew ?_) | (with_reducible refine Own.alloc ?_ _)))); (focus ((repeat' (first | (with_reducible assumption) | (with_reducible refine Blk.drew ?_) | (with_reducible refine Blk.here ?_) | (with_reducible refine Blk.alloc ?_ _) | (with_reducible refine Blk.far ?_ ?_ _) | (with_reducible refine Blk.below ?_ (by with_reducible assumption) ?_) | omega | (simp; done) | (simp; omega))); done)); (focus (intro h; have h2 := HW4.out _ h; (first | omega | (simp at h2; done) | (simp at h2; omega)))); rintro e w5 ⟨v5, rfl, hown5, hb5⟩; have HO5 := Lib.hid hown5; clear hown5; obtain ⟨fc5, fg5, hc5, hf5, hz5⟩ := bget hb5; (try simp at hz5)) | fail)
  all_goals
    go_wp2_with fail
    go_ret2
    exact ⟨_, by rw [HQ.out]; rfl, by rw [HP.out]; exact HO5.out.mono (by omega), by (repeat' (first | (with_reducible exact Below.refl _ _) | (with_reducible assumption) | (with_reducible refine Below.alloc ?_ ?_ _) | (with_reducible refine Below.setCell ?_ ?_ _) | (with_reducible refine Below.drew ?_) | (with_reducible refine below_drewN ?_ _) | (with_reducible refine below_via ?_ (by with_reducible assumption) ?_) | omega | (simp; done) | (simp; omega)))⟩
end Go.Proofs.Ytpjehhkmdndcmaa
