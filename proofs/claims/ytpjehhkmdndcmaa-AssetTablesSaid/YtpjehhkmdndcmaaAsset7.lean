/- Assets: contracts of asset.Priced, the reference's Priced, Same. -/
import Derived.Test.YtpjehhkmdndcmaaAsset6
namespace Go.Proofs.Ytpjehhkmdndcmaa
open Go.RowKit
def updA (id p : Int) : List Asset → List Asset
  | [] => []
  | x :: l => if x.id == id then { x with price := p } :: l else x :: updA id p l
theorem updA_at {id p : Int} : ∀ {l : List Asset} {k : Nat} (h : k < l.length) (_ : (l[k].id == id) = true) (_ : ∀ j (_ : j < l.length), j < k → (l[j].id == id) = false), updA id p l = l.set k { l[k] with price := p }
  | x :: l, 0, _, hm, _ => by simp only [List.getElem_cons_zero] at hm; simp [updA, hm]
  | x :: l, k + 1, h, hm, hn => by
    have h0 := hn 0 (by simp) (by omega)
    simp only [List.getElem_cons_zero] at h0
    simp only [List.getElem_cons_succ] at hm
    have := updA_at (p := p) (l := l) (k := k) (by simpa using h) hm (fun j hj hjk => by have := hn (j + 1) (by simp; omega) (by omega); simpa using this)
    simp [updA, h0, this]
def pricedC (l : List Asset) (id p : Int) : Int := if (findAsset l id).2 then (if pricedA p then 0 else 2) else 11
def pricedL (l : List Asset) (id p : Int) : List Asset := if (findAsset l id).2 = true ∧ pricedA p = true then updA id p l else []
def PricedPost (w : World) (l : List Asset) (id p : Int) (e : Ending) (w' : World) : Prop :=
  ∃ v, e = .returned (.tuple #[v, .int .i64 (pricedC l id p)]) ∧ Own w' w.heap.size 51 3 v ((pricedL l id p).map encAsset) ∧ Below w.heap.size w w'
theorem idxCasesA (l : List Asset) (id : Int) : (∃ k, ∃ h : k < l.length, (l[k].id == id) = true ∧ (∀ j (_ : j < l.length), j < k → (l[j].id == id) = false)) ∨ (∀ j (_ : j < l.length), (l[j].id == id) = false) := by
  cases h : l.findIdx? (fun m => m.id == id) with
  | none =>
    right
    intro j hj
    rw [List.findIdx?_eq_none_iff] at h
    exact h _ (List.getElem_mem hj)
  | some k =>
    left
    rw [List.findIdx?_eq_some_iff_getElem] at h
    obtain ⟨hk, h1, h2⟩ := h
    exact ⟨k, hk, h1, fun j hj hjk => by have := h2 j hjk; simpa using this⟩
set_option maxRecDepth 100000 in
set_option maxHeartbeats 8000000 in
theorem assetPricedAt (l : List Asset) (id p : Int) (A : Option Addr) (c : Nat) (w : World) (hl : l.length ≤ 1000000) (hr : Rs w 3 (l.map encAsset) A c) :
    Calls Try.prog 51 #[.slice A l.length c, .int .i64 id, .int .i64 p] w (PricedPost w l id p) := by
  have HR := Lib.hid hr
  have c1 := fun W => assetPriced p W
  have c2 := fun W (h : Rd W A 3 (l.map encAsset)) => assetFind l id A c W (by omega) h
  clear hr
  rcases idxCasesA l id with ⟨k, hk, hm, hn⟩ | hn
  rotate_left
  · have hf := findAsset_miss hn
    have hp : pricedL l id p = [] := by unfold pricedL; rw [hf, if_neg (by simp)]
    have hq : pricedC l id p = 11 := by unfold pricedC; rw [hf]; rfl
    rw [hf] at c2
    have HP := Lib.hid hp
    have HQ := Lib.hid hq
    have C2 := Lib.hid c2
    clear c1 c2 hp hq hf hn
    go_enter Try.func51, Try.ntmps51
    go_wp2_with (go_at_call 53; (with_reducible refine (C2.out _ (HR.out.rd.keep (by (repeat' (first | (with_reducible exact Below.refl _ _) | (with_reducible assumption) | (with_reducible refine Below.alloc ?_ ?_ _) | (with_reducible refine Below.setCell ?_ ?_ _) | (with_reducible refine Below.drew ?_) | (with_reducible refine below_drewN ?_ _) | (with_reducible refine below_via ?_ (by with_reducible assumption) ?_) | omega | (simp; done) | (simp; omega)))))).mono ?_); rintro e w2 ⟨rfl, hb2⟩; obtain ⟨fc2, fg2, hc2, hf2, hz2⟩ := bget hb2; try simp at hz2)
    go_ret2
    exact ⟨_, by rw [HQ.out]; rfl, by rw [HP.out]; exact Own.nil _ _ _ _, by (repeat' (first | (with_reducible exact Below.refl _ _) | (with_reducible assumption) | (with_reducible refine Below.alloc ?_ ?_ _) | (with_reducible refine Below.setCell ?_ ?_ _) | (with_reducible refine Below.drew ?_) | (with_reducible refine below_drewN ?_ _) | (with_reducible refine below_via ?_ (by with_reducible assumption) ?_) | omega | (simp; done) | (simp; omega)))⟩
  have hf := findAsset_hit hk hm hn
  have hf2 : (findAsset l id).2 = true := by rw [hf]
  rw [hf] at c2
  cases hpr : pricedA p
  · have hp : pricedL l id p = [] := by unfold pricedL; rw [hpr, if_neg (by simp)]
    have hq : pricedC l id p = 2 := by unfold pricedC; rw [hf2, hpr]; rfl
    rw [hpr] at c1
    have HP := Lib.hid hp
    have HQ := Lib.hid hq
    have C1 := Lib.hid c1
    have C2 := Lib.hid c2
    clear c1 c2 hp hq hf hf2 hn hm
    go_enter Try.func51, Try.ntmps51
    go_wp2_with (first | (go_at_call 53; (with_reducible refine (C2.out _ (HR.out.rd.keep (by (repeat' (first | (with_reducible exact Below.refl _ _) | (with_reducible assumption) | (with_reducible refine Below.alloc ?_ ?_ _) | (with_reducible refine Below.setCell ?_ ?_ _) | (with_reducible refine Below.drew ?_) | (with_reducible refine below_drewN ?_ _) | (with_reducible refine below_via ?_ (by with_reducible assumption) ?_) | omega | (simp; done) | (simp; omega)))))).mono ?_); rintro e w2 ⟨rfl, hb2⟩; obtain ⟨fc2, fg2, hc2, hf2, hz2⟩ := bget hb2; try simp at hz2) | (go_at_call 84; (with_reducible refine (C1.out _).mono ?_); rintro e w1 ⟨rfl, hb1⟩; obtain ⟨fc1, fg1, hc1, hf1, hz1⟩ := bget hb1; try simp at hz1) | fail)
    go_ret2
    exact ⟨_, by rw [HQ.out]; rfl, by rw [HP.out]; exact Own.nil _ _ _ _, by (repeat' (first | (with_reducible exact Below.refl _ _) | (with_reducible assumption) | (with_reducible refine Below.alloc ?_ ?_ _) | (with_reducible refine Below.setCell ?_ ?_ _) | (with_reducible refine Below.drew ?_) | (with_reducible refine below_drewN ?_ _) | (with_reducible refine below_via ?_ (by with_reducible assumption) ?_) | omega | (simp; done) | (simp; omega)))⟩
  have hp : pricedL l id p = l.set k { l[k] with price := p } := by unfold pricedL; rw [hf2, hpr, if_pos ⟨rfl, rfl⟩]; exact updA_at hk hm hn
  have hq : pricedC l id p = 0 := by unfold pricedC; rw [hf2, hpr]; rfl
  rw [hpr] at c1
  have HP := Lib.hid hp
  have HQ := Lib.hid hq
  have C1 := Lib.hid c1
  have C2 := Lib.hid c2
  have HN := Lib.hid hn
  have HM := Lib.hid hm
  clear c1 c2 hp hq hf hf2 hn hm
  go_enter Try.func51, Try.ntmps51
  go_wp2_with (first | (go_at_call 53; (with_reducible refine (C2.out _ (HR.out.rd.keep (by (repeat' (first | (with_reducible exact Below.refl _ _) | (with_reducible assumption) | (with_reducible refine Below.alloc ?_ ?_ _) | (with_reducible refine Below.setCell ?_ ?_ _) | (with_reducible refine Below.drew ?_) | (with_reducible refine below_drewN ?_ _) | (with_reducible refine below_via ?_ (by with_reducible assumption) ?_) | omega | (simp; done) | (simp; omega)))))).mono ?_); rintro e w2 ⟨rfl, hb2⟩; obtain ⟨fc2, fg2, hc2, hf2, hz2⟩ := bget hb2; try simp at hz2) | (go_at_call 84; (with_reducible refine (C1.out _).mono ?_); rintro e w1 ⟨rfl, hb1⟩; obtain ⟨fc1, fg1, hc1, hf1, hz1⟩ := bget hb1; try simp at hz1) | (go_at_call 88; (with_reducible refine (assetClone l A c _ (by omega) (HR.out.keep (by (repeat' (first | (with_reducible exact Below.refl _ _) | (with_reducible assumption) | (with_reducible refine Below.alloc ?_ ?_ _) | (with_reducible refine Below.setCell ?_ ?_ _) | (with_reducible refine Below.drew ?_) | (with_reducible refine below_drewN ?_ _) | (with_reducible refine below_via ?_ (by with_reducible assumption) ?_) | omega | (simp; done) | (simp; omega)))))).mono ?_); rintro e w3 ⟨v3, rfl, hown3, hb3⟩; obtain ⟨A3, c3, hv3, hrs3, hform3⟩ := hown3.rs; rw [List.length_map] at hv3; subst hv3; have HO3 := Lib.hid hown3; have HF3 := Lib.hid hform3; clear hown3 hrs3 hform3; obtain ⟨fc3, fg3, hc3, hf3, hz3⟩ := bget hb3; (try simp at hz3)) | fail)
  obtain ⟨g, rfl, hg1, hg2⟩ : ∃ g, A3 = some ⟨g, 0, none⟩ ∧ w.heap.size ≤ g ∧ g < w3.heap.size := by
    rcases HF3.out with ⟨_, h2, _⟩ | ⟨g, h1, h2, h3⟩
    · have := congrArg List.length h2; simp only [List.length_map, List.length_nil] at this; omega
    · exact ⟨g, h1, by first | omega | (simp at h2; omega), h3⟩
  have HBL := Lib.hid (show Below w.heap.size w w3 from by (repeat' (first | (with_reducible exact Below.refl _ _) | (with_reducible assumption) | (with_reducible refine Below.alloc ?_ ?_ _) | (with_reducible refine Below.setCell ?_ ?_ _) | (with_reducible refine Below.drew ?_) | (with_reducible refine below_drewN ?_ _) | (with_reducible refine below_via ?_ (by with_reducible assumption) ?_) | omega | (simp; done) | (simp; omega))))
  go_loopw [27] (fun i wr => ∃ q : Nat, q ≤ k ∧ i = .int .i64 q ∧ wr = w3) (fun i _ => l.length - (intOf i).toNat)
  case atStart => exact ⟨0, Nat.zero_le _, rfl, rfl⟩
  case round =>
    obtain ⟨q, hq, rfl, rfl⟩ := hrel
    have hql : q < l.length := by omega
    have hqi : (q : Int) < (l.length : Int) := by omega
    have dl : decide ((q : Int) < (l.length : Int)) = true := by simpa using hql
    obtain ⟨b', o', e', hb', hcc⟩ := (HO3.out.rd).1 q (encAsset l[q]) (by simp [hql])
    injection e' with e'
    injection e' with e1 e2 _
    subst e1 e2
    have q0 := hcc 0 _ rfl
    have q1 := hcc 1 _ rfl
    simp only [Nat.add_zero, Nat.zero_add] at q0 q1
    obtain ⟨cur, hblk⟩ := HO3.out.blk rfl
    have fz := fun i => hblk.frozen i
    have hbr : g < wr.heap.size := hb'
    clear hcc hblk hc3 hf3 hc2 hf2 hc1 hf1
    by_cases hlt : q < k
    · have g1 := HN.out q hql hlt
      go_wp2_with fail
      go_roundw
      case rel => exact ⟨q + 1, by omega, by go_num, by trivial⟩
      case measure => simp [intOf]; omega
    · obtain rfl : q = k := by omega
      have g1 := HM.out
      go_wp2_with fail
      go_ret2
      refine ⟨_, by rw [HQ.out]; rfl, ?_, ?_⟩
      · rw [HP.out, List.map_set]
        exact (HO3.out.put rfl (i := q) (r := encAsset l[q]) (by simp [hql]) (show 1 < 3 by omega) (.int .i64 p)).mono (by first | omega | (simp; omega))
      · have hbl := HBL.out
        (repeat' (first | (with_reducible exact Below.refl _ _) | (with_reducible assumption) | (with_reducible refine Below.alloc ?_ ?_ _) | (with_reducible refine Below.setCell ?_ ?_ _) | (with_reducible refine Below.drew ?_) | (with_reducible refine below_drewN ?_ _) | (with_reducible refine below_via ?_ (by with_reducible assumption) ?_) | omega | (simp; done) | (simp; omega)))
set_option maxRecDepth 100000 in
set_option maxHeartbeats 1000000 in
theorem ref12Same (l : List Asset) (A B : Option Addr) (c d : Nat) (w : World) (hl : l.length ≤ 1099511627776) (ha : Rd w A 3 (l.map encAsset)) (hb : Rd w B 3 (l.map encAsset)) :
    Calls Try.prog 55 #[.slice A l.length c, .slice B l.length d] w fun e w' => e = .returned (.bool true) ∧ Below w.heap.size w w' := by
  have HA := Lib.hid ha
  have HB := Lib.hid hb
  clear ha hb
  go_enter Try.func55, Try.ntmps55
  go_wp2_with fail
  go_loopw [5] (fun i wr => ∃ k : Nat, k ≤ l.length ∧ i = .int .i64 k ∧ ∃ n, wr = w.drewN n) (fun i _ => l.length - (intOf i).toNat)
  case atStart => exact ⟨0, Nat.zero_le _, rfl, 0, rfl⟩
  case round =>
    obtain ⟨k, hk, rfl, nn, rfl⟩ := hrel
    by_cases hlt : k < l.length
    · have kl : (k : Int) < (l.length : Int) := by omega
      obtain ⟨b1, o1, rfl, hb1, hc1⟩ := HA.out k (encAsset l[k]) (by simp [hlt])
      obtain ⟨b2, o2, rfl, hb2, hc2⟩ := HB.out k (encAsset l[k]) (by simp [hlt])
      have e0 := hc1 0 _ rfl
      have e1 := hc1 1 _ rfl
      have e2 := hc1 2 _ rfl
      have f0 := hc2 0 _ rfl
      have f1 := hc2 1 _ rfl
      have f2 := hc2 2 _ rfl
      simp only [Nat.add_zero] at e0 f0
      clear hc1 hc2
      go_wp2_with fail
      go_quiet (fail)
      go_wp2_with fail
      go_roundw
      case rel => exact ⟨k + 1, by omega, by go_num, _, rfl⟩
      case measure => simp [intOf]; omega
    · go_wp2_with fail
      go_ret
      exact ⟨rfl, by (repeat' (first | (with_reducible exact Below.refl _ _) | (with_reducible assumption) | (with_reducible refine Below.alloc ?_ ?_ _) | (with_reducible refine Below.setCell ?_ ?_ _) | (with_reducible refine Below.drew ?_) | (with_reducible refine below_drewN ?_ _) | (with_reducible refine below_via ?_ (by with_reducible assumption) ?_) | omega | (simp; done) | (simp; omega)))⟩
end Go.Proofs.Ytpjehhkmdndcmaa
