/- Joined: Cv1, CvL, BigRet, Asset3, Lot5, Ref18a. -/
import Derived.Test.YtalgfpegaobacaaJz9
import Derived.Test.YtalgfpegaobacaaJz10
import Derived.Test.YtalgfpegaobacaaJz6
import Derived.Test.YtalgfpegaobacaaJz7
import Derived.Test.YtalgfpegaobacaaJz2
/- Contracts of cover.values, Value, Worth. -/
namespace Go.Proofs.Ytalgfpegaobacaa
open Go.RowKit
theorem elIv : Elem Try.prog 38 2 1 8 := elem_of Try.underlying38 (z := .int .i64 0) (by kernel_rfl) rfl (by omega)
theorem rowsIv (l : List Int) : ∀ r ∈ l.map encI, r.length = 1 ∧ ∀ u ∈ r, u.oneCell' = true := by
  intro r hr
  obtain ⟨m, _, rfl⟩ := List.mem_map.1 hr
  exact ⟨rfl, by simp [encI]; rfl⟩
def ValsPost (w : World) (L : List Int) (code : Int) (e : Ending) (w' : World) : Prop :=
  ∃ v, e = .returned (.tuple #[v, .int .i64 code]) ∧ Own w' w.heap.size 2 1 v (L.map encI) ∧ Below w.heap.size w w'
set_option maxRecDepth 100000 in
set_option maxHeartbeats 8000000 in
theorem valuesCount (ats : List Asset) (l : List Lot) (A B : Option Addr) (c d : Nat) (w : World) (ha : ats.length ≤ 1000000) (hl : l.length ≤ 1000000) (hin : ∀ y ∈ l, In64 y.qty) (hra : Rd w A 3 (ats.map encAsset)) (hr : Rd w B 3 (l.map encLot)) :
    Calls Try.prog 11 #[.slice A ats.length c, .slice B l.length d, .func (Fn.func 12) #[] #[]] w (ValsPost w (vaL countE countN ats l) (vaC countE ats l)) := by
  have HR := Lib.hid hr
  have HIN := Lib.hid hin
  have CF := Lib.hid (fun id W (h : Below w.heap.size w W) => assetFind ats id A c W (by omega) (hra.keep h))
  have ci := fun W (h : Below w.heap.size w W) => lotIs l B d W hl (hr.keep h)
  clear hr hin hra
  cases hi : isL l
  · rw [hi] at ci
    have CI := Lib.hid ci
    have HC := Lib.hid (show vaC countE ats l = 3 from by unfold vaC; rw [hi]; rfl)
    have HL := Lib.hid (show vaL countE countN ats l = [] from by unfold vaL; rw [HC.out]; rfl)
    rw [HC.out, HL.out]
    clear ci hi
    go_enter Try.func11, Try.ntmps11
    go_wp2_with (first | (go_at_call 24; (with_reducible refine (CI.out _ (by (repeat' (first | (with_reducible exact Below.refl _ _) | (with_reducible assumption) | (with_reducible refine Below.alloc ?_ ?_ _) | (with_reducible refine Below.setCell ?_ ?_ _) | (with_reducible refine Below.drew ?_) | (with_reducible refine below_drewN ?_ _) | (with_reducible refine below_via ?_ (by with_reducible assumption) ?_) | omega | (simp; done) | (simp; omega))))).mono ?_); rintro e w1 ⟨rfl, hb1⟩; obtain ⟨fc1, fg1, hc1, hf1, hz1⟩ := bget hb1; (try simp at hz1)) | fail)
    go_ret2
    exact ⟨_, rfl, Own.nil _ _ _ _, by (repeat' (first | (with_reducible exact Below.refl _ _) | (with_reducible assumption) | (with_reducible refine Below.alloc ?_ ?_ _) | (with_reducible refine Below.setCell ?_ ?_ _) | (with_reducible refine Below.drew ?_) | (with_reducible refine below_drewN ?_ _) | (with_reducible refine below_via ?_ (by with_reducible assumption) ?_) | omega | (simp; done) | (simp; omega)))⟩
  rw [hi] at ci
  have CI := Lib.hid ci
  have HC := Lib.hid (show vaC countE ats l = vC countE ats l from by unfold vaC; rw [hi]; rfl)
  have HL := Lib.hid (show vaL countE countN ats l = if vC countE ats l = 0 then vL countN ats l else [] from by unfold vaL; rw [HC.out])
  generalize vaL countE countN ats l = RL at *
  generalize vaC countE ats l = RC at *
  clear ci hi
  go_enter Try.func11, Try.ntmps11
  go_wp2_with (first | (go_at_call 24; (with_reducible refine (CI.out _ (by (repeat' (first | (with_reducible exact Below.refl _ _) | (with_reducible assumption) | (with_reducible refine Below.alloc ?_ ?_ _) | (with_reducible refine Below.setCell ?_ ?_ _) | (with_reducible refine Below.drew ?_) | (with_reducible refine below_drewN ?_ _) | (with_reducible refine below_via ?_ (by with_reducible assumption) ?_) | omega | (simp; done) | (simp; omega))))).mono ?_); rintro e w1 ⟨rfl, hb1⟩; obtain ⟨fc1, fg1, hc1, hf1, hz1⟩ := bget hb1; (try simp at hz1)) | fail)
  have Hb1 := Lib.hid hb1
  clear hc1 hf1 hb1
  go_loopw [8, 20] (fun v i wr => ∃ k : Nat, k ≤ l.length ∧ i = .int .i64 k ∧ vC countE ats l = vC countE ats (l.drop k) ∧ Own wr w.heap.size 2 1 v ((vL countN ats (l.take k)).map encI) ∧ Below w.heap.size w wr) (fun _ i _ => l.length - (intOf i).toNat)
  case atStart => exact ⟨0, Nat.zero_le _, rfl, rfl, Own.nil _ _ _ _, Hb1.out⟩
  case round =>
    obtain ⟨k, hk, rfl, hv, hown, hbl⟩ := hrel
    have HV := Lib.hid hv
    have Hown := Lib.hid hown
    have Hbl := Lib.hid hbl
    have hz := hbl.size
    clear hv hown hbl
    by_cases hlt : k < l.length
    · have kl : (k : Int) < (l.length : Int) := by omega
      have dl : decide ((k : Int) < (l.length : Int)) = true := by simpa using hlt
      obtain ⟨b, o, rfl, hb, hc⟩ := HR.out k (encLot l[k]) (by simp [hlt])
      have e0 := (Hbl.out.cell (p := ⟨b, o + k * 3 + 0, none⟩) hb).trans (hc 0 _ rfl)
      have e1 := (Hbl.out.cell (p := ⟨b, o + k * 3 + 1, none⟩) hb).trans (hc 1 _ rfl)
      have e2 := (Hbl.out.cell (p := ⟨b, o + k * 3 + 2, none⟩) hb).trans (hc 2 _ rfl)
      simp only [Nat.add_zero] at e0
      clear hc
      have hbw : b < wr.heap.size := by omega
      have hq := HIN.out l[k] (List.getElem_mem hlt)
      have HD := Lib.hid (drop_cons' hlt)
      have HM := Lib.hid (show vL countN ats (l.take (k + 1)) = vL countN ats (l.take k) ++ [countN (findAsset ats l[k].asset).1 l[k].qty] from map_snoc hlt _)
      have hvl := vL_len countN ats (l.take k)
      have htl : (l.take k).length ≤ 1000000 := by rw [List.length_take]; omega
      have cf := CF.out l[k].asset
      have cv := fun W => assetCount (findAsset ats l[k].asset).1 l[k].qty W hq
      cases hf : (findAsset ats l[k].asset).2
      · have HN := Lib.hid (show vC countE ats l = 11 from by rw [HV.out, HD.out]; exact vC_none hf)
        rw [hf] at cf
        generalize (findAsset ats l[k].asset).1 = y at *
        have CFK := Lib.hid cf
        clear cf cv hf HD hvl
        go_wp2_with (first | (go_at_call 25; (with_reducible refine (CFK.out _ (by have hbl := Hbl.out; (repeat' (first | (with_reducible exact Below.refl _ _) | (with_reducible assumption) | (with_reducible refine Below.alloc ?_ ?_ _) | (with_reducible refine Below.setCell ?_ ?_ _) | (with_reducible refine Below.drew ?_) | (with_reducible refine below_drewN ?_ _) | (with_reducible refine below_via ?_ (by with_reducible assumption) ?_) | omega | (simp; done) | (simp; omega))))).mono ?_); rintro e w2 ⟨rfl, hb2⟩; obtain ⟨fc2, fg2, hc2, hf2, hz2⟩ := bget hb2; (try simp at hz2)) | fail)
        go_ret2
        exact ⟨_, by rw [HC.out, HN.out]; rfl, by rw [HL.out, HN.out]; exact Own.nil _ _ _ _, by have hbl := Hbl.out; (repeat' (first | (with_reducible exact Below.refl _ _) | (with_reducible assumption) | (with_reducible refine Below.alloc ?_ ?_ _) | (with_reducible refine Below.setCell ?_ ?_ _) | (with_reducible refine Below.drew ?_) | (with_reducible refine below_drewN ?_ _) | (with_reducible refine below_via ?_ (by with_reducible assumption) ?_) | omega | (simp; done) | (simp; omega)))⟩
      rw [hf] at cf
      by_cases h0 : countE (findAsset ats l[k].asset).1 l[k].qty = 0
      · have HN := Lib.hid (show vC countE ats l = vC countE ats (l.drop (k + 1)) from by rw [HV.out, HD.out]; exact vC_step hf h0)
        rw [h0] at cv
        clear hf h0
        generalize countN (findAsset ats l[k].asset).1 l[k].qty = n at *
        generalize (findAsset ats l[k].asset).1 = y at *
        generalize vL countN ats (l.take k) = Z at *
        have CFK := Lib.hid cf
        have CV := Lib.hid cv
        clear cf cv HD
        have hzl : (Z.map encI).length ≤ 1000000 := by rw [List.length_map]; omega
        clear hvl htl
        go_wp2_with (first | (go_at_call 25; (with_reducible refine (CFK.out _ (by have hbl := Hbl.out; (repeat' (first | (with_reducible exact Below.refl _ _) | (with_reducible assumption) | (with_reducible refine Below.alloc ?_ ?_ _) | (with_reducible refine Below.setCell ?_ ?_ _) | (with_reducible refine Below.drew ?_) | (with_reducible refine below_drewN ?_ _) | (with_reducible refine below_via ?_ (by with_reducible assumption) ?_) | omega | (simp; done) | (simp; omega))))).mono ?_); rintro e w2 ⟨rfl, hb2⟩; obtain ⟨fc2, fg2, hc2, hf2, hz2⟩ := bget hb2; (try simp at hz2)) | (go_at_call 12; (with_reducible refine (CV.out _).mono ?_); rintro e w3 ⟨rfl, hb3⟩; obtain ⟨fc3, fg3, hc3, hf3, hz3⟩ := bget hb3; (try simp at hz3)) | (at_builtin; refine wpList_app rfl _ _ _ rfl elIv w.heap.size _ _ rfl (Hown.out.keep (by (repeat' (first | (with_reducible exact Below.refl _ _) | (with_reducible assumption) | (with_reducible refine Below.alloc ?_ ?_ _) | (with_reducible refine Below.setCell ?_ ?_ _) | (with_reducible refine Below.drew ?_) | (with_reducible refine below_drewN ?_ _) | (with_reducible refine below_via ?_ (by with_reducible assumption) ?_) | omega | (simp; done) | (simp; omega))))) (some ⟨_, 0, none⟩) 1 1 rfl [encI n] rfl (fun h => by cases h) (rd_oneN (by simp)) (rowsIv [n]) (by unfold maxLen; omega) (by omega) (by first | omega | (simp; done) | (simp; omega)) ?_; intro v4 w4 hown4 hb4; obtain ⟨fc4, fg4, hc4, hf4, hz4⟩ := bget hb4; (try simp at hz4)) | fail)
        go_roundw
        case rel => exact ⟨k + 1, by omega, by go_num, HN.out, by rw [HM.out, List.map_append]; exact hown4, by have hbl := Hbl.out; (repeat' (first | (with_reducible exact Below.refl _ _) | (with_reducible assumption) | (with_reducible refine Below.alloc ?_ ?_ _) | (with_reducible refine Below.setCell ?_ ?_ _) | (with_reducible refine Below.drew ?_) | (with_reducible refine below_drewN ?_ _) | (with_reducible refine below_via ?_ (by with_reducible assumption) ?_) | omega | (simp; done) | (simp; omega)))⟩
        case measure => simp [intOf]; omega
      · have HN := Lib.hid (show vC countE ats l = countE (findAsset ats l[k].asset).1 l[k].qty from by rw [HV.out, HD.out]; exact vC_bad hf h0)
        have n0 : (countE (findAsset ats l[k].asset).1 l[k].qty != 0) = true := by simpa using h0
        have n1 : (countE (findAsset ats l[k].asset).1 l[k].qty == 0) = false := by simpa using h0
        have HN0 := Lib.hid (show ¬ vC countE ats l = 0 from by rw [HN.out]; exact h0)
        clear hf h0
        generalize countE (findAsset ats l[k].asset).1 l[k].qty = code at *
        generalize countN (findAsset ats l[k].asset).1 l[k].qty = n at *
        generalize (findAsset ats l[k].asset).1 = y at *
        have CFK := Lib.hid cf
        have CV := Lib.hid cv
        clear cf cv HD hvl
        go_wp2_with (first | (go_at_call 25; (with_reducible refine (CFK.out _ (by have hbl := Hbl.out; (repeat' (first | (with_reducible exact Below.refl _ _) | (with_reducible assumption) | (with_reducible refine Below.alloc ?_ ?_ _) | (with_reducible refine Below.setCell ?_ ?_ _) | (with_reducible refine Below.drew ?_) | (with_reducible refine below_drewN ?_ _) | (with_reducible refine below_via ?_ (by with_reducible assumption) ?_) | omega | (simp; done) | (simp; omega))))).mono ?_); rintro e w2 ⟨rfl, hb2⟩; obtain ⟨fc2, fg2, hc2, hf2, hz2⟩ := bget hb2; (try simp at hz2)) | (go_at_call 12; (with_reducible refine (CV.out _).mono ?_); rintro e w3 ⟨rfl, hb3⟩; obtain ⟨fc3, fg3, hc3, hf3, hz3⟩ := bget hb3; (try simp at hz3)) | fail)
        go_ret2
        exact ⟨_, by rw [HC.out, HN.out]; rfl, by rw [HL.out, if_neg HN0.out]; exact Own.nil _ _ _ _, by have hbl := Hbl.out; (repeat' (first | (with_reducible exact Below.refl _ _) | (with_reducible assumption) | (with_reducible refine Below.alloc ?_ ?_ _) | (with_reducible refine Below.setCell ?_ ?_ _) | (with_reducible refine Below.drew ?_) | (with_reducible refine below_drewN ?_ _) | (with_reducible refine below_via ?_ (by with_reducible assumption) ?_) | omega | (simp; done) | (simp; omega)))⟩
    · have dl : decide ((k : Int) < (l.length : Int)) = false := by simpa using hlt
      have HN := Lib.hid (show vC countE ats l = 0 from by rw [HV.out, List.drop_eq_nil_of_le (by omega)]; rfl)
      have HT := Lib.hid (List.take_of_length_le (show l.length ≤ k by omega))
      go_wp2_with fail
      go_ret2
      exact ⟨_, by rw [HC.out, HN.out]; rfl, by rw [HL.out, if_pos HN.out, ← HT.out]; exact Hown.out, by have hbl := Hbl.out; (repeat' (first | (with_reducible exact Below.refl _ _) | (with_reducible assumption) | (with_reducible refine Below.alloc ?_ ?_ _) | (with_reducible refine Below.setCell ?_ ?_ _) | (with_reducible refine Below.drew ?_) | (with_reducible refine below_drewN ?_ _) | (with_reducible refine below_via ?_ (by with_reducible assumption) ?_) | omega | (simp; done) | (simp; omega)))⟩
set_option maxRecDepth 100000 in
set_option maxHeartbeats 8000000 in
theorem valuesWorth (ats : List Asset) (l : List Lot) (A B : Option Addr) (c d : Nat) (w : World) (ha : ats.length ≤ 1000000) (hl : l.length ≤ 1000000) (hin : ∀ y ∈ l, In64 y.qty) (hra : Rd w A 3 (ats.map encAsset)) (hr : Rd w B 3 (l.map encLot)) :
    Calls Try.prog 11 #[.slice A ats.length c, .slice B l.length d, .func (Fn.func 22) #[] #[]] w (ValsPost w (vaL worthE worthN ats l) (vaC worthE ats l)) := by
  have HR := Lib.hid hr
  have HIN := Lib.hid hin
  have CF := Lib.hid (fun id W (h : Below w.heap.size w W) => assetFind ats id A c W (by omega) (hra.keep h))
  have ci := fun W (h : Below w.heap.size w W) => lotIs l B d W hl (hr.keep h)
  clear hr hin hra
  cases hi : isL l
  · rw [hi] at ci
    have CI := Lib.hid ci
    have HC := Lib.hid (show vaC worthE ats l = 3 from by unfold vaC; rw [hi]; rfl)
    have HL := Lib.hid (show vaL worthE worthN ats l = [] from by unfold vaL; rw [HC.out]; rfl)
    rw [HC.out, HL.out]
    clear ci hi
    go_enter Try.func11, Try.ntmps11
    go_wp2_with (first | (go_at_call 24; (with_reducible refine (CI.out _ (by (repeat' (first | (with_reducible exact Below.refl _ _) | (with_reducible assumption) | (with_reducible refine Below.alloc ?_ ?_ _) | (with_reducible refine Below.setCell ?_ ?_ _) | (with_reducible refine Below.drew ?_) | (with_reducible refine below_drewN ?_ _) | (with_reducible refine below_via ?_ (by with_reducible assumption) ?_) | omega | (simp; done) | (simp; omega))))).mono ?_); rintro e w1 ⟨rfl, hb1⟩; obtain ⟨fc1, fg1, hc1, hf1, hz1⟩ := bget hb1; (try simp at hz1)) | fail)
    go_ret2
    exact ⟨_, rfl, Own.nil _ _ _ _, by (repeat' (first | (with_reducible exact Below.refl _ _) | (with_reducible assumption) | (with_reducible refine Below.alloc ?_ ?_ _) | (with_reducible refine Below.setCell ?_ ?_ _) | (with_reducible refine Below.drew ?_) | (with_reducible refine below_drewN ?_ _) | (with_reducible refine below_via ?_ (by with_reducible assumption) ?_) | omega | (simp; done) | (simp; omega)))⟩
  rw [hi] at ci
  have CI := Lib.hid ci
  have HC := Lib.hid (show vaC worthE ats l = vC worthE ats l from by unfold vaC; rw [hi]; rfl)
  have HL := Lib.hid (show vaL worthE worthN ats l = if vC worthE ats l = 0 then vL worthN ats l else [] from by unfold vaL; rw [HC.out])
  generalize vaL worthE worthN ats l = RL at *
  generalize vaC worthE ats l = RC at *
  clear ci hi
  go_enter Try.func11, Try.ntmps11
  go_wp2_with (first | (go_at_call 24; (with_reducible refine (CI.out _ (by (repeat' (first | (with_reducible exact Below.refl _ _) | (with_reducible assumption) | (with_reducible refine Below.alloc ?_ ?_ _) | (with_reducible refine Below.setCell ?_ ?_ _) | (with_reducible refine Below.drew ?_) | (with_reducible refine below_drewN ?_ _) | (with_reducible refine below_via ?_ (by with_reducible assumption) ?_) | omega | (simp; done) | (simp; omega))))).mono ?_); rintro e w1 ⟨rfl, hb1⟩; obtain ⟨fc1, fg1, hc1, hf1, hz1⟩ := bget hb1; (try simp at hz1)) | fail)
  have Hb1 := Lib.hid hb1
  clear hc1 hf1 hb1
  go_loopw [8, 20] (fun v i wr => ∃ k : Nat, k ≤ l.length ∧ i = .int .i64 k ∧ vC worthE ats l = vC worthE ats (l.drop k) ∧ Own wr w.heap.size 2 1 v ((vL worthN ats (l.take k)).map encI) ∧ Below w.heap.size w wr) (fun _ i _ => l.length - (intOf i).toNat)
  case atStart => exact ⟨0, Nat.zero_le _, rfl, rfl, Own.nil _ _ _ _, Hb1.out⟩
  case round =>
    obtain ⟨k, hk, rfl, hv, hown, hbl⟩ := hrel
    have HV := Lib.hid hv
    have Hown := Lib.hid hown
    have Hbl := Lib.hid hbl
    have hz := hbl.size
    clear hv hown hbl
    by_cases hlt : k < l.length
    · have kl : (k : Int) < (l.length : Int) := by omega
      have dl : decide ((k : Int) < (l.length : Int)) = true := by simpa using hlt
      obtain ⟨b, o, rfl, hb, hc⟩ := HR.out k (encLot l[k]) (by simp [hlt])
      have e0 := (Hbl.out.cell (p := ⟨b, o + k * 3 + 0, none⟩) hb).trans (hc 0 _ rfl)
      have e1 := (Hbl.out.cell (p := ⟨b, o + k * 3 + 1, none⟩) hb).trans (hc 1 _ rfl)
      have e2 := (Hbl.out.cell (p := ⟨b, o + k * 3 + 2, none⟩) hb).trans (hc 2 _ rfl)
      simp only [Nat.add_zero] at e0
      clear hc
      have hbw : b < wr.heap.size := by omega
      have hq := HIN.out l[k] (List.getElem_mem hlt)
      have HD := Lib.hid (drop_cons' hlt)
      have HM := Lib.hid (show vL worthN ats (l.take (k + 1)) = vL worthN ats (l.take k) ++ [worthN (findAsset ats l[k].asset).1 l[k].qty] from map_snoc hlt _)
      have hvl := vL_len worthN ats (l.take k)
      have htl : (l.take k).length ≤ 1000000 := by rw [List.length_take]; omega
      have cf := CF.out l[k].asset
      have cv := fun W => assetWorth (findAsset ats l[k].asset).1 l[k].qty W hq
      cases hf : (findAsset ats l[k].asset).2
      · have HN := Lib.hid (show vC worthE ats l = 11 from by rw [HV.out, HD.out]; exact vC_none hf)
        rw [hf] at cf
        generalize (findAsset ats l[k].asset).1 = y at *
        have CFK := Lib.hid cf
        clear cf cv hf HD hvl
        go_wp2_with (first | (go_at_call 25; (with_reducible refine (CFK.out _ (by have hbl := Hbl.out; (repeat' (first | (with_reducible exact Below.refl _ _) | (with_reducible assumption) | (with_reducible refine Below.alloc ?_ ?_ _) | (with_reducible refine Below.setCell ?_ ?_ _) | (with_reducible refine Below.drew ?_) | (with_reducible refine below_drewN ?_ _) | (with_reducible refine below_via ?_ (by with_reducible assumption) ?_) | omega | (simp; done) | (simp; omega))))).mono ?_); rintro e w2 ⟨rfl, hb2⟩; obtain ⟨fc2, fg2, hc2, hf2, hz2⟩ := bget hb2; (try simp at hz2)) | fail)
        go_ret2
        exact ⟨_, by rw [HC.out, HN.out]; rfl, by rw [HL.out, HN.out]; exact Own.nil _ _ _ _, by have hbl := Hbl.out; (repeat' (first | (with_reducible exact Below.refl _ _) | (with_reducible assumption) | (with_reducible refine Below.alloc ?_ ?_ _) | (with_reducible refine Below.setCell ?_ ?_ _) | (with_reducible refine Below.drew ?_) | (with_reducible refine below_drewN ?_ _) | (with_reducible refine below_via ?_ (by with_reducible assumption) ?_) | omega | (simp; done) | (simp; omega)))⟩
      rw [hf] at cf
      by_cases h0 : worthE (findAsset ats l[k].asset).1 l[k].qty = 0
      · have HN := Lib.hid (show vC worthE ats l = vC worthE ats (l.drop (k + 1)) from by rw [HV.out, HD.out]; exact vC_step hf h0)
        rw [h0] at cv
        clear hf h0
        generalize worthN (findAsset ats l[k].asset).1 l[k].qty = n at *
        generalize (findAsset ats l[k].asset).1 = y at *
        generalize vL worthN ats (l.take k) = Z at *
        have CFK := Lib.hid cf
        have CV := Lib.hid cv
        clear cf cv HD
        have hzl : (Z.map encI).length ≤ 1000000 := by rw [List.length_map]; omega
        clear hvl htl
        go_wp2_with (first | (go_at_call 25; (with_reducible refine (CFK.out _ (by have hbl := Hbl.out; (repeat' (first | (with_reducible exact Below.refl _ _) | (with_reducible assumption) | (with_reducible refine Below.alloc ?_ ?_ _) | (with_reducible refine Below.setCell ?_ ?_ _) | (with_reducible refine Below.drew ?_) | (with_reducible refine below_drewN ?_ _) | (with_reducible refine below_via ?_ (by with_reducible assumption) ?_) | omega | (simp; done) | (simp; omega))))).mono ?_); rintro e w2 ⟨rfl, hb2⟩; obtain ⟨fc2, fg2, hc2, hf2, hz2⟩ := bget hb2; (try simp at hz2)) | (go_at_call 22; (with_reducible refine (CV.out _).mono ?_); rintro e w3 ⟨rfl, hb3⟩; obtain ⟨fc3, fg3, hc3, hf3, hz3⟩ := bget hb3; (try simp at hz3)) | (at_builtin; refine wpList_app rfl _ _ _ rfl elIv w.heap.size _ _ rfl (Hown.out.keep (by (repeat' (first | (with_reducible exact Below.refl _ _) | (with_reducible assumption) | (with_reducible refine Below.alloc ?_ ?_ _) | (with_reducible refine Below.setCell ?_ ?_ _) | (with_reducible refine Below.drew ?_) | (with_reducible refine below_drewN ?_ _) | (with_reducible refine below_via ?_ (by with_reducible assumption) ?_) | omega | (simp; done) | (simp; omega))))) (some ⟨_, 0, none⟩) 1 1 rfl [encI n] rfl (fun h => by cases h) (rd_oneN (by simp)) (rowsIv [n]) (by unfold maxLen; omega) (by omega) (by first | omega | (simp; done) | (simp; omega)) ?_; intro v4 w4 hown4 hb4; obtain ⟨fc4, fg4, hc4, hf4, hz4⟩ := bget hb4; (try simp at hz4)) | fail)
        go_roundw
        case rel => exact ⟨k + 1, by omega, by go_num, HN.out, by rw [HM.out, List.map_append]; exact hown4, by have hbl := Hbl.out; (repeat' (first | (with_reducible exact Below.refl _ _) | (with_reducible assumption) | (with_reducible refine Below.alloc ?_ ?_ _) | (with_reducible refine Below.setCell ?_ ?_ _) | (with_reducible refine Below.drew ?_) | (with_reducible refine below_drewN ?_ _) | (with_reducible refine below_via ?_ (by with_reducible assumption) ?_) | omega | (simp; done) | (simp; omega)))⟩
        case measure => simp [intOf]; omega
      · have HN := Lib.hid (show vC worthE ats l = worthE (findAsset ats l[k].asset).1 l[k].qty from by rw [HV.out, HD.out]; exact vC_bad hf h0)
        have n0 : (worthE (findAsset ats l[k].asset).1 l[k].qty != 0) = true := by simpa using h0
        have n1 : (worthE (findAsset ats l[k].asset).1 l[k].qty == 0) = false := by simpa using h0
        have HN0 := Lib.hid (show ¬ vC worthE ats l = 0 from by rw [HN.out]; exact h0)
        clear hf h0
        generalize worthE (findAsset ats l[k].asset).1 l[k].qty = code at *
        generalize worthN (findAsset ats l[k].asset).1 l[k].qty = n at *
        generalize (findAsset ats l[k].asset).1 = y at *
        have CFK := Lib.hid cf
        have CV := Lib.hid cv
        clear cf cv HD hvl
        go_wp2_with (first | (go_at_call 25; (with_reducible refine (CFK.out _ (by have hbl := Hbl.out; (repeat' (first | (with_reducible exact Below.refl _ _) | (with_reducible assumption) | (with_reducible refine Below.alloc ?_ ?_ _) | (with_reducible refine Below.setCell ?_ ?_ _) | (with_reducible refine Below.drew ?_) | (with_reducible refine below_drewN ?_ _) | (with_reducible refine below_via ?_ (by with_reducible assumption) ?_) | omega | (simp; done) | (simp; omega))))).mono ?_); rintro e w2 ⟨rfl, hb2⟩; obtain ⟨fc2, fg2, hc2, hf2, hz2⟩ := bget hb2; (try simp at hz2)) | (go_at_call 22; (with_reducible refine (CV.out _).mono ?_); rintro e w3 ⟨rfl, hb3⟩; obtain ⟨fc3, fg3, hc3, hf3, hz3⟩ := bget hb3; (try simp at hz3)) | fail)
        go_ret2
        exact ⟨_, by rw [HC.out, HN.out]; rfl, by rw [HL.out, if_neg HN0.out]; exact Own.nil _ _ _ _, by have hbl := Hbl.out; (repeat' (first | (with_reducible exact Below.refl _ _) | (with_reducible assumption) | (with_reducible refine Below.alloc ?_ ?_ _) | (with_reducible refine Below.setCell ?_ ?_ _) | (with_reducible refine Below.drew ?_) | (with_reducible refine below_drewN ?_ _) | (with_reducible refine below_via ?_ (by with_reducible assumption) ?_) | omega | (simp; done) | (simp; omega)))⟩
    · have dl : decide ((k : Int) < (l.length : Int)) = false := by simpa using hlt
      have HN := Lib.hid (show vC worthE ats l = 0 from by rw [HV.out, List.drop_eq_nil_of_le (by omega)]; rfl)
      have HT := Lib.hid (List.take_of_length_le (show l.length ≤ k by omega))
      go_wp2_with fail
      go_ret2
      exact ⟨_, by rw [HC.out, HN.out]; rfl, by rw [HL.out, if_pos HN.out, ← HT.out]; exact Hown.out, by have hbl := Hbl.out; (repeat' (first | (with_reducible exact Below.refl _ _) | (with_reducible assumption) | (with_reducible refine Below.alloc ?_ ?_ _) | (with_reducible refine Below.setCell ?_ ?_ _) | (with_reducible refine Below.drew ?_) | (with_reducible refine below_drewN ?_ _) | (with_reducible refine below_via ?_ (by with_reducible assumption) ?_) | omega | (simp; done) | (simp; omega)))⟩
set_option maxRecDepth 100000 in
set_option maxHeartbeats 8000000 in
theorem coverValue (ats : List Asset) (l : List Lot) (cash : Int) (A B : Option Addr) (c d : Nat) (w : World) (ha : ats.length ≤ 1000000) (hl : l.length ≤ 1000000) (hcash : In64 cash) (hin : ∀ y ∈ l, In64 y.qty) (hra : Rd w A 3 (ats.map encAsset)) (hr : Rd w B 3 (l.map encLot)) :
    Calls Try.prog 6 #[.slice A ats.length c, .slice B l.length d, .int .i64 cash] w fun e w' => e = .returned (.tuple #[.int .i64 (valN ats l cash), .int .i64 (valC ats l cash)]) ∧ Below w.heap.size w w' := by
  have cv := fun W (h : Below w.heap.size w W) => valuesCount ats l A B c d W ha hl hin (hra.keep h) (hr.keep h)
  clear hra hr hin
  by_cases h0 : vaC countE ats l = 0
  · have HC := Lib.hid (show valC ats l cash = sum64C (vL countN ats l ++ [cash]) from by unfold valC; rw [if_pos h0])
    have HN := Lib.hid (show valN ats l cash = sum64N (vL countN ats l ++ [cash]) from by unfold valN; rw [if_pos h0])
    rw [HC.out, HN.out]
    rw [h0, show vaL countE countN ats l = vL countN ats l from by unfold vaL; rw [if_pos h0]] at cv
    have CS := Lib.hid (fun W A2 c2 (h : Rd W A2 1 ((vL countN ats l ++ [cash]).map encI)) => fixSum64 (vL countN ats l ++ [cash]) A2 c2 W (by rw [List.length_append, vL_len]; simp; omega) (fun z hz => by
      rcases List.mem_append.1 hz with h | h
      · exact vL64 countN64 ats l z h
      · rw [List.mem_singleton] at h; subst h; exact hcash) h)
    have hzl : ((vL countN ats l).map encI).length ≤ 1000000 := by rw [List.length_map, vL_len]; omega
    have CV := Lib.hid cv
    clear cv h0 HC HN
    generalize vL countN ats l = Z at *
    obtain ⟨Y, hY⟩ : ∃ Y, Y = Z ++ [cash] := ⟨_, rfl⟩
    have HYE := Lib.hid (show Z.map encI ++ [encI cash] = Y.map encI from by rw [hY, List.map_append]; rfl)
    rw [← hY] at CS ⊢
    clear hY
    go_enter Try.func6, Try.ntmps6
    go_wp2_with (first | (go_at_call 11; (with_reducible refine (CV.out _ (by (repeat' (first | (with_reducible exact Below.refl _ _) | (with_reducible assumption) | (with_reducible refine Below.alloc ?_ ?_ _) | (with_reducible refine Below.setCell ?_ ?_ _) | (with_reducible refine Below.drew ?_) | (with_reducible refine below_drewN ?_ _) | (with_reducible refine below_via ?_ (by with_reducible assumption) ?_) | omega | (simp; done) | (simp; omega))))).mono ?_); rintro e w1 ⟨v1, rfl, hown1, hb1⟩; have HO1 := Lib.hid hown1; clear hown1; obtain ⟨fc1, fg1, hc1, hf1, hz1⟩ := bget hb1; (try simp at hz1)) | (at_builtin; refine wpList_app rfl _ _ _ rfl elIv w.heap.size _ _ rfl ((HO1.out.mono (by first | omega | (simp; done) | (simp; omega))).keep (by (repeat' (first | (with_reducible exact Below.refl _ _) | (with_reducible assumption) | (with_reducible refine Below.alloc ?_ ?_ _) | (with_reducible refine Below.setCell ?_ ?_ _) | (with_reducible refine Below.drew ?_) | (with_reducible refine below_drewN ?_ _) | (with_reducible refine below_via ?_ (by with_reducible assumption) ?_) | omega | (simp; done) | (simp; omega))))) (some ⟨_, 0, none⟩) 1 1 rfl [encI cash] rfl (fun h => by cases h) (rd_oneN (by simp)) (rowsIv [cash]) (by unfold maxLen; omega) (by omega) (by first | omega | (simp; done) | (simp; omega)) ?_; intro v2 w2 hown2 hb2; rw [HYE.out] at hown2; obtain ⟨A2, c2, hv2, hrs2, _⟩ := hown2.rs; (rw [List.length_map] at hv2); subst hv2; have HS2 := Lib.hid hrs2.rd; clear hown2 hrs2; obtain ⟨fc2, fg2, hc2, hf2, hz2⟩ := bget hb2; (try simp at hz2)) | (go_at_call 13; (with_reducible refine (CS.out _ _ _ (HS2.out.keep (by (repeat' (first | (with_reducible exact Below.refl _ _) | (with_reducible assumption) | (with_reducible refine Below.alloc ?_ ?_ _) | (with_reducible refine Below.setCell ?_ ?_ _) | (with_reducible refine Below.drew ?_) | (with_reducible refine below_drewN ?_ _) | (with_reducible refine below_via ?_ (by with_reducible assumption) ?_) | omega | (simp; done) | (simp; omega)))))).mono ?_); rintro e w3 ⟨rfl, hb3⟩; obtain ⟨fc3, fg3, hc3, hf3, hz3⟩ := bget hb3; (try simp at hz3)) | fail)
    go_ret2
    exact ⟨rfl, by (repeat' (first | (with_reducible exact Below.refl _ _) | (with_reducible assumption) | (with_reducible refine Below.alloc ?_ ?_ _) | (with_reducible refine Below.setCell ?_ ?_ _) | (with_reducible refine Below.drew ?_) | (with_reducible refine below_drewN ?_ _) | (with_reducible refine below_via ?_ (by with_reducible assumption) ?_) | omega | (simp; done) | (simp; omega)))⟩
  · have HC := Lib.hid (show valC ats l cash = vaC countE ats l from by unfold valC; rw [if_neg h0])
    have HN := Lib.hid (show valN ats l cash = 0 from by unfold valN; rw [if_neg h0])
    rw [HC.out, HN.out]
    have n0 : (vaC countE ats l != 0) = true := by simpa using h0
    have n1 : (vaC countE ats l == 0) = false := by simpa using h0
    have CV := Lib.hid cv
    clear cv h0 HC HN
    generalize vaC countE ats l = code at *
    go_enter Try.func6, Try.ntmps6
    go_wp2_with (first | (go_at_call 11; (with_reducible refine (CV.out _ (by (repeat' (first | (with_reducible exact Below.refl _ _) | (with_reducible assumption) | (with_reducible refine Below.alloc ?_ ?_ _) | (with_reducible refine Below.setCell ?_ ?_ _) | (with_reducible refine Below.drew ?_) | (with_reducible refine below_drewN ?_ _) | (with_reducible refine below_via ?_ (by with_reducible assumption) ?_) | omega | (simp; done) | (simp; omega))))).mono ?_); rintro e w1 ⟨v1, rfl, hown1, hb1⟩; have HO1 := Lib.hid hown1; clear hown1; obtain ⟨fc1, fg1, hc1, hf1, hz1⟩ := bget hb1; (try simp at hz1)) | fail)
    go_ret2
    exact ⟨rfl, by (repeat' (first | (with_reducible exact Below.refl _ _) | (with_reducible assumption) | (with_reducible refine Below.alloc ?_ ?_ _) | (with_reducible refine Below.setCell ?_ ?_ _) | (with_reducible refine Below.drew ?_) | (with_reducible refine below_drewN ?_ _) | (with_reducible refine below_via ?_ (by with_reducible assumption) ?_) | omega | (simp; done) | (simp; omega)))⟩
set_option maxRecDepth 100000 in
set_option maxHeartbeats 8000000 in
theorem coverWorth (ats : List Asset) (l : List Lot) (A B : Option Addr) (c d : Nat) (w : World) (ha : ats.length ≤ 1000000) (hl : l.length ≤ 1000000) (hin : ∀ y ∈ l, In64 y.qty) (hra : Rd w A 3 (ats.map encAsset)) (hr : Rd w B 3 (l.map encLot)) :
    Calls Try.prog 8 #[.slice A ats.length c, .slice B l.length d] w fun e w' => e = .returned (.tuple #[.int .i64 (worN ats l), .int .i64 (worC ats l)]) ∧ Below w.heap.size w w' := by
  have cv := fun W (h : Below w.heap.size w W) => valuesWorth ats l A B c d W ha hl hin (hra.keep h) (hr.keep h)
  clear hra hr hin
  by_cases h0 : vaC worthE ats l = 0
  · have HC := Lib.hid (show worC ats l = sum64C (vL worthN ats l) from by unfold worC; rw [if_pos h0])
    have HN := Lib.hid (show worN ats l = sum64N (vL worthN ats l) from by unfold worN; rw [if_pos h0])
    rw [HC.out, HN.out]
    rw [h0, show vaL worthE worthN ats l = vL worthN ats l from by unfold vaL; rw [if_pos h0]] at cv
    have CS := Lib.hid (fun W A2 c2 (h : Rd W A2 1 ((vL worthN ats l).map encI)) => fixSum64 (vL worthN ats l) A2 c2 W (by rw [vL_len]; omega) (vL64 worthN64 ats l) h)
    have CV := Lib.hid cv
    clear cv h0 HC HN
    generalize vL worthN ats l = Z at *
    go_enter Try.func8, Try.ntmps8
    go_wp2_with (first | (go_at_call 11; (with_reducible refine (CV.out _ (by (repeat' (first | (with_reducible exact Below.refl _ _) | (with_reducible assumption) | (with_reducible refine Below.alloc ?_ ?_ _) | (with_reducible refine Below.setCell ?_ ?_ _) | (with_reducible refine Below.drew ?_) | (with_reducible refine below_drewN ?_ _) | (with_reducible refine below_via ?_ (by with_reducible assumption) ?_) | omega | (simp; done) | (simp; omega))))).mono ?_); rintro e w1 ⟨v1, rfl, hown1, hb1⟩; obtain ⟨A2, c2, hv2, hrs2, _⟩ := hown1.rs; (rw [List.length_map] at hv2); subst hv2; have HS2 := Lib.hid hrs2.rd; clear hown1 hrs2; obtain ⟨fc1, fg1, hc1, hf1, hz1⟩ := bget hb1; (try simp at hz1)) | (go_at_call 13; (with_reducible refine (CS.out _ _ _ (HS2.out.keep (by (repeat' (first | (with_reducible exact Below.refl _ _) | (with_reducible assumption) | (with_reducible refine Below.alloc ?_ ?_ _) | (with_reducible refine Below.setCell ?_ ?_ _) | (with_reducible refine Below.drew ?_) | (with_reducible refine below_drewN ?_ _) | (with_reducible refine below_via ?_ (by with_reducible assumption) ?_) | omega | (simp; done) | (simp; omega)))))).mono ?_); rintro e w3 ⟨rfl, hb3⟩; obtain ⟨fc3, fg3, hc3, hf3, hz3⟩ := bget hb3; (try simp at hz3)) | fail)
    go_ret2
    exact ⟨rfl, by (repeat' (first | (with_reducible exact Below.refl _ _) | (with_reducible assumption) | (with_reducible refine Below.alloc ?_ ?_ _) | (with_reducible refine Below.setCell ?_ ?_ _) | (with_reducible refine Below.drew ?_) | (with_reducible refine below_drewN ?_ _) | (with_reducible refine below_via ?_ (by with_reducible assumption) ?_) | omega | (simp; done) | (simp; omega)))⟩
  · have HC := Lib.hid (show worC ats l = vaC worthE ats l from by unfold worC; rw [if_neg h0])
    have HN := Lib.hid (show worN ats l = 0 from by unfold worN; rw [if_neg h0])
    rw [HC.out, HN.out]
    have n0 : (vaC worthE ats l != 0) = true := by simpa using h0
    have n1 : (vaC worthE ats l == 0) = false := by simpa using h0
    have CV := Lib.hid cv
    clear cv h0 HC HN
    generalize vaC worthE ats l = code at *
    go_enter Try.func8, Try.ntmps8
    go_wp2_with (first | (go_at_call 11; (with_reducible refine (CV.out _ (by (repeat' (first | (with_reducible exact Below.refl _ _) | (with_reducible assumption) | (with_reducible refine Below.alloc ?_ ?_ _) | (with_reducible refine Below.setCell ?_ ?_ _) | (with_reducible refine Below.drew ?_) | (with_reducible refine below_drewN ?_ _) | (with_reducible refine below_via ?_ (by with_reducible assumption) ?_) | omega | (simp; done) | (simp; omega))))).mono ?_); rintro e w1 ⟨v1, rfl, hown1, hb1⟩; have HO1 := Lib.hid hown1; clear hown1; obtain ⟨fc1, fg1, hc1, hf1, hz1⟩ := bget hb1; (try simp at hz1)) | fail)
    go_ret2
    exact ⟨rfl, by (repeat' (first | (with_reducible exact Below.refl _ _) | (with_reducible assumption) | (with_reducible refine Below.alloc ?_ ?_ _) | (with_reducible refine Below.setCell ?_ ?_ _) | (with_reducible refine Below.drew ?_) | (with_reducible refine below_drewN ?_ _) | (with_reducible refine below_via ?_ (by with_reducible assumption) ?_) | omega | (simp; done) | (simp; omega)))⟩
end Go.Proofs.Ytalgfpegaobacaa

/- Layer 27's laws: lives. -/
namespace Go.Proofs.Ytalgfpegaobacaa
open Go.RowKit
theorem rd_three {w : World} {b : Nat} {u v z : Value} (hb : b < w.heap.size) (h0 : w.cell? ⟨b, 0, none⟩ = some u) (h1 : w.cell? ⟨b, 1, none⟩ = some v) (h2 : w.cell? ⟨b, 2, none⟩ = some z) : Rd w (some ⟨b, 0, none⟩) 3 [[u, v, z]] := by
  intro i r hr
  match i, hr with
  | 0, hr =>
    simp at hr; subst hr
    refine ⟨b, 0, rfl, hb, fun j z hz => ?_⟩
    match j with
    | 0 => simp at hz; subst hz; simpa using h0
    | 1 => simp at hz; subst hz; simpa using h1
    | 2 => simp at hz; subst hz; simpa using h2
    | j + 3 => simp at hz
theorem live_cv : valN [⟨1, 3, 1000⟩] [⟨1, 0, 10⟩] 50 = 77 ∧ valC [⟨1, 3, 1000⟩] [⟨1, 0, 10⟩] 50 = 0 ∧ worN [⟨1, 3, 1000⟩] [⟨1, 0, 10⟩] = 30 ∧ worC [⟨1, 3, 1000⟩] [⟨1, 0, 10⟩] = 0 := by
  refine ⟨by kernel_rfl, by kernel_rfl, by kernel_rfl, by kernel_rfl⟩
set_option maxRecDepth 100000 in
set_option maxHeartbeats 16000000 in
theorem law27lives (w : World) : Calls Try.prog 9 #[] w fun e w' => e = .returned (.bool true) ∧ Below w.heap.size w w' := by
  have c1 := fun W a b (h1 : Rd W (some ⟨a, 0, none⟩) 3 ([(⟨1, 3, 1000⟩ : Asset)].map encAsset)) (h2 : Rd W (some ⟨b, 0, none⟩) 3 ([(⟨1, 0, 10⟩ : Lot)].map encLot)) => coverValue [⟨1, 3, 1000⟩] [⟨1, 0, 10⟩] 50 (some ⟨a, 0, none⟩) (some ⟨b, 0, none⟩) 1 1 W (by simp) (by simp) (by unfold In64; omega) (by intro y hy; simp at hy; subst hy; simp [In64]) h1 h2
  have c2 := fun W a b (h1 : Rd W (some ⟨a, 0, none⟩) 3 ([(⟨1, 3, 1000⟩ : Asset)].map encAsset)) (h2 : Rd W (some ⟨b, 0, none⟩) 3 ([(⟨1, 0, 10⟩ : Lot)].map encLot)) => coverWorth [⟨1, 3, 1000⟩] [⟨1, 0, 10⟩] (some ⟨a, 0, none⟩) (some ⟨b, 0, none⟩) 1 1 W (by simp) (by simp) (by intro y hy; simp at hy; subst hy; simp [In64]) h1 h2
  rw [live_cv.1, live_cv.2.1] at c1
  rw [live_cv.2.2.1, live_cv.2.2.2] at c2
  simp only [List.length_cons, List.length_nil, Nat.zero_add] at c1 c2
  have C1 := Lib.hid c1
  have C2 := Lib.hid c2
  clear c1 c2
  go_enter Try.func9, Try.ntmps9
  go_wp2_with (first | (go_at_call 6; (with_reducible refine (C1.out _ _ _ ?_ ?_).mono ?_); (focus (refine rd_three ?_ ?_ ?_ ?_; (focus (first | omega | (simp; done) | (simp; omega))); (focus (first | (simp [go_sem]; done) | (simp [go_sem, go_sem, ↓IntWalk.iteOmega]; done))); (focus (first | (simp [go_sem]; done) | (simp [go_sem, go_sem, ↓IntWalk.iteOmega]; done))); (focus (first | (simp [go_sem]; done) | (simp [go_sem, go_sem, ↓IntWalk.iteOmega]; done))))); (focus (refine rd_three ?_ ?_ ?_ ?_; (focus (first | omega | (simp; done) | (simp; omega))); (focus (first | (simp [go_sem]; done) | (simp [go_sem, go_sem, ↓IntWalk.iteOmega]; done))); (focus (first | (simp [go_sem]; done) | (simp [go_sem, go_sem, ↓IntWalk.iteOmega]; done))); (focus (first | (simp [go_sem]; done) | (simp [go_sem, go_sem, ↓IntWalk.iteOmega]; done))))); rintro e w1 ⟨rfl, hb1⟩; obtain ⟨fc1, fg1, hc1, hf1, hz1⟩ := bget hb1; (try simp at hz1)) | (go_at_call 8; (with_reducible refine (C2.out _ _ _ ?_ ?_).mono ?_); (focus (refine rd_three ?_ ?_ ?_ ?_; (focus (first | omega | (simp; done) | (simp; omega))); (focus (first | (simp [go_sem]; done) | (simp [go_sem, hc1, ↓IntWalk.iteOmega]; done))); (focus (first | (simp [go_sem]; done) | (simp [go_sem, hc1, ↓IntWalk.iteOmega]; done))); (focus (first | (simp [go_sem]; done) | (simp [go_sem, hc1, ↓IntWalk.iteOmega]; done))))); (focus (refine rd_three ?_ ?_ ?_ ?_; (focus (first | omega | (simp; done) | (simp; omega))); (focus (first | (simp [go_sem]; done) | (simp [go_sem, hc1, ↓IntWalk.iteOmega]; done))); (focus (first | (simp [go_sem]; done) | (simp [go_sem, hc1, ↓IntWalk.iteOmega]; done))); (focus (first | (simp [go_sem]; done) | (simp [go_sem, hc1, ↓IntWalk.iteOmega]; done))))); rintro e w2 ⟨rfl, hb2⟩; obtain ⟨fc2, fg2, hc2, hf2, hz2⟩ := bget hb2; (try simp at hz2)) | fail)
  go_ret
  exact ⟨rfl, by (repeat' (first | (with_reducible exact Below.refl _ _) | (with_reducible assumption) | (with_reducible refine Below.alloc ?_ ?_ _) | (with_reducible refine Below.setCell ?_ ?_ _) | (with_reducible refine Below.drew ?_) | (with_reducible refine below_drewN ?_ _) | (with_reducible refine below_via ?_ (by with_reducible assumption) ?_) | omega | (simp; done) | (simp; omega)))⟩
end Go.Proofs.Ytalgfpegaobacaa

/- A function whose result is a big number in a cell of its own: its end. -/
namespace Go.Proofs.Ytalgfpegaobacaa
open Go.RowKit
theorem bigRet {fn : Func} {slot : Nat} (hfn : fn.results = #[.cell slot 46]) {a : Act} {w wf : World} {g L : Nat} {n : Int} {s : Bool} {A : Option Addr} {l : List Int} {c : Nat}
    (ha : a.tmps[slot]?.getD undef = .pointer (some ⟨g, 0, none⟩)) (hd : a.defers = []) (h0 : wf.cell? ⟨g, 0, none⟩ = some (.bool false)) (h1 : wf.cell? ⟨g, 1, none⟩ = some (.slice none 0 0))
    (hB : IsBig wf n s A l c) (hl : l.length ≤ L) (hb : Below w.heap.size w ((wf.setCell ⟨g, 0, none⟩ (.bool s)).setCell ⟨g, 1, none⟩ (.slice A l.length c))) :
    bodyPost Try.prog fn (BigPost w n L) .ret a ((wf.setCell ⟨g, 0, none⟩ (.bool s)).setCell ⟨g, 1, none⟩ (.slice A l.length c)) := by
  refine bodyPost_ret (v := .agg #[.bool s, .slice A l.length c]) (by simp [results, hfn, ha, go_sem, h0, h1]; try rfl) hd ⟨s, A, l, c, rfl, (hB.far h0 (by simp) _).far ((World.cell?_setCell_other _ _ _ _ (by simp)).trans h1) (by simp) _, hl, hb⟩
end Go.Proofs.Ytalgfpegaobacaa

/- Assets: the reference's Worth, Count, Sell. -/
namespace Go.Proofs.Ytalgfpegaobacaa
open Go.RowKit
set_option maxRecDepth 100000 in
set_option maxHeartbeats 4000000 in
theorem ref12Worth (x : Asset) (q : Int) (w : World) (hq : In64 q) (hp : In64 x.price) : Calls Try.prog 17 #[.agg #[.int .i64 x.id, .int .i64 x.price, .int .i64 x.hair], .int .i64 q] w (BigPost w (q * x.price) 130) := by
  go_enter Try.func17, Try.ntmps17
  go_wp2_with fail
  go_region_held3 (fun w' => w'.cell? ⟨w.heap.size, 1, none⟩ = some (.int .i64 x.price)) (first | (simp [go_sem]; done) | (repeat' (first | (with_reducible assumption) | (with_reducible refine And.intro ?_ ?_) | (with_reducible refine cell_drew ?_) | (with_reducible refine cell_via (by with_reducible assumption) ?_ ?_) | (simp [*]; done) | (simp [go_sem]; done) | (with_reducible refine cell_alloc ?_ ?_) | (with_reducible refine cell_set_far ?_ ?_) | omega | (simp; omega)))) (first | (go_at_call 15; (with_reducible refine (bigOf q _ hq).mono ?_); rintro e w1 ⟨s1, A1, l1, c1, rfl, hB1, hl1, hb1⟩; have HB1 := Lib.hid hB1; clear hB1; obtain ⟨fc1, fg1, hc1, hf1, hz1⟩ := bget hb1; (try simp at hz1)) | (go_at_call 15; (with_reducible refine (bigOf x.price _ hp).mono ?_); rintro e w2 ⟨s2, A2, l2, c2, rfl, hB2, hl2, hb2⟩; have HB2 := Lib.hid hB2; clear hB2; obtain ⟨fc2, fg2, hc2, hf2, hz2⟩ := bget hb2; (try simp at hz2)) | (go_at_call 35; (with_reducible refine (bigMul q x.price s1 s2 l1 l2 A1 A2 c1 c2 65 _ (by omega) hl1 hl2 (HB1.out.keep (by (repeat' (first | (with_reducible exact Below.refl _ _) | (with_reducible assumption) | (with_reducible refine Below.alloc ?_ ?_ _) | (with_reducible refine Below.setCell ?_ ?_ _) | (with_reducible refine Below.drew ?_) | (with_reducible refine below_drewN ?_ _) | (with_reducible refine below_via ?_ (by with_reducible assumption) ?_) | omega | (simp; done) | (simp; omega))))) (HB2.out.keep (by (repeat' (first | (with_reducible exact Below.refl _ _) | (with_reducible assumption) | (with_reducible refine Below.alloc ?_ ?_ _) | (with_reducible refine Below.setCell ?_ ?_ _) | (with_reducible refine Below.drew ?_) | (with_reducible refine below_drewN ?_ _) | (with_reducible refine below_via ?_ (by with_reducible assumption) ?_) | omega | (simp; done) | (simp; omega)))))).mono ?_); rintro e w3 ⟨s3, A3, l3, c3, rfl, hB3, hl3, hb3⟩; have HB3 := Lib.hid hB3; clear hB3; obtain ⟨fc3, fg3, hc3, hf3, hz3⟩ := bget hb3; (try simp at hz3)) | fail)
  all_goals
    go_wp2_with fail
    refine bigRet rfl rfl rfl ?_ ?_ ?_ (by omega) ?_
    · (first | (simp [go_sem, *]; done) | (simp [go_sem, *, ↓IntWalk.iteOmega]; done))
    · (first | (simp [go_sem, *]; done) | (simp [go_sem, *, ↓IntWalk.iteOmega]; done))
    · (repeat' (first | (focus ((refine (HB3.out).keep ?_); (repeat' (first | (with_reducible exact Below.refl _ _) | (with_reducible assumption) | (with_reducible refine Below.alloc ?_ ?_ _) | (with_reducible refine Below.setCell ?_ ?_ _) | (with_reducible refine Below.drew ?_) | (with_reducible refine below_drewN ?_ _) | (with_reducible refine below_via ?_ (by with_reducible assumption) ?_) | omega | (simp; done) | (simp; omega))); done)) | (refine IsBig.far (v0 := .slice none 0 0) ?_ ?_ ?_ _; rotate_left; (focus (simp [go_sem, *]; done)); (focus (simp; done))) | (refine IsBig.far (v0 := .bool false) ?_ ?_ ?_ _; rotate_left; (focus (simp [go_sem, *]; done)); (focus (simp; done))) | fail))
    · (repeat' (first | (with_reducible exact Below.refl _ _) | (with_reducible assumption) | (with_reducible refine Below.alloc ?_ ?_ _) | (with_reducible refine Below.setCell ?_ ?_ _) | (with_reducible refine Below.drew ?_) | (with_reducible refine below_drewN ?_ _) | (with_reducible refine below_via ?_ (by with_reducible assumption) ?_) | omega | (simp; done) | (simp; omega)))
set_option maxRecDepth 100000 in
set_option maxHeartbeats 4000000 in
theorem ref12Count (x : Asset) (q : Int) (w : World) (hq : In64 q) (h : okA x) : Calls Try.prog 19 #[.agg #[.int .i64 x.id, .int .i64 x.price, .int .i64 x.hair], .int .i64 q] w (BigPost w (countA x q) 400) := by
  have hok := okA_in h
  have hh : 0 ≤ x.hair ∧ x.hair ≤ 10000 := ⟨h.2.2.2.2.1, h.2.2.2.2.2⟩
  have HE := Lib.hid (show q * x.price * (10000 - x.hair) / 10000 = countA x q from rfl)
  have hw : IntKind.i64.wrap (10000 - x.hair) = 10000 - x.hair := by rw [IntKind.wrap_i64]; omega
  clear h
  go_enter Try.func19, Try.ntmps19
  go_wp2_with fail
  go_region_held3 (fun w' => w'.cell? ⟨w.heap.size, 0, none⟩ = some (.int .i64 x.id) ∧ w'.cell? ⟨w.heap.size, 1, none⟩ = some (.int .i64 x.price) ∧ w'.cell? ⟨w.heap.size, 2, none⟩ = some (.int .i64 x.hair)) (first | (simp [go_sem]; done) | (repeat' (first | (with_reducible assumption) | (with_reducible refine And.intro ?_ ?_) | (with_reducible refine cell_drew ?_) | (with_reducible refine cell_via (by with_reducible assumption) ?_ ?_) | (simp [*]; done) | (simp [go_sem]; done) | (with_reducible refine cell_alloc ?_ ?_) | (with_reducible refine cell_set_far ?_ ?_) | omega | (simp; omega)))) (first | (go_at_call 17; (with_reducible refine (ref12Worth x q _ hq hok.1).mono ?_); rintro e w1 ⟨s1, A1, l1, c1, rfl, hB1, hl1, hb1⟩; have HB1 := Lib.hid hB1; clear hB1; obtain ⟨fc1, fg1, hc1, hf1, hz1⟩ := bget hb1; (try simp at hz1)) | (go_at_call 15; (with_reducible refine (bigOf (10000 - x.hair) _ hok.2).mono ?_); rintro e w2 ⟨s2, A2, l2, c2, rfl, hB2, hl2, hb2⟩; have HB2 := Lib.hid hB2; clear hB2; obtain ⟨fc2, fg2, hc2, hf2, hz2⟩ := bget hb2; (try simp at hz2)) | (go_at_call 35; (with_reducible refine (bigMul (q * x.price) (10000 - x.hair) s1 s2 l1 l2 A1 A2 c1 c2 130 _ (by omega) hl1 (by omega) (HB1.out.keep (by (repeat' (first | (with_reducible exact Below.refl _ _) | (with_reducible assumption) | (with_reducible refine Below.alloc ?_ ?_ _) | (with_reducible refine Below.setCell ?_ ?_ _) | (with_reducible refine Below.drew ?_) | (with_reducible refine below_drewN ?_ _) | (with_reducible refine below_via ?_ (by with_reducible assumption) ?_) | omega | (simp; done) | (simp; omega))))) (HB2.out.keep (by (repeat' (first | (with_reducible exact Below.refl _ _) | (with_reducible assumption) | (with_reducible refine Below.alloc ?_ ?_ _) | (with_reducible refine Below.setCell ?_ ?_ _) | (with_reducible refine Below.drew ?_) | (with_reducible refine below_drewN ?_ _) | (with_reducible refine below_via ?_ (by with_reducible assumption) ?_) | omega | (simp; done) | (simp; omega)))))).mono ?_); rintro e w3 ⟨s3, A3, l3, c3, rfl, hB3, hl3, hb3⟩; have HB3 := Lib.hid hB3; clear hB3; obtain ⟨fc3, fg3, hc3, hf3, hz3⟩ := bget hb3; (try simp at hz3)) | (go_at_call 37; (with_reducible refine (bigDiv (q * x.price * (10000 - x.hair)) 10000 s3 l3 A3 c3 260 _ (by omega) (by omega) (by omega) (by omega) (HB3.out.keep (by (repeat' (first | (with_reducible exact Below.refl _ _) | (with_reducible assumption) | (with_reducible refine Below.alloc ?_ ?_ _) | (with_reducible refine Below.setCell ?_ ?_ _) | (with_reducible refine Below.drew ?_) | (with_reducible refine below_drewN ?_ _) | (with_reducible refine below_via ?_ (by with_reducible assumption) ?_) | omega | (simp; done) | (simp; omega)))))).mono ?_); rw [HE.out]; rintro e w4 ⟨s4, A4, l4, c4, rfl, hB4, hl4, hb4⟩; have HB4 := Lib.hid hB4; clear hB4; obtain ⟨fc4, fg4, hc4, hf4, hz4⟩ := bget hb4; (try simp at hz4)) | fail)
  all_goals
    go_wp2_with fail
    refine bigRet rfl rfl rfl ?_ ?_ ?_ (by omega) ?_
    · (first | (simp [go_sem, *]; done) | (simp [go_sem, *, ↓IntWalk.iteOmega]; done))
    · (first | (simp [go_sem, *]; done) | (simp [go_sem, *, ↓IntWalk.iteOmega]; done))
    · (repeat' (first | (focus ((refine (HB4.out).keep ?_); (repeat' (first | (with_reducible exact Below.refl _ _) | (with_reducible assumption) | (with_reducible refine Below.alloc ?_ ?_ _) | (with_reducible refine Below.setCell ?_ ?_ _) | (with_reducible refine Below.drew ?_) | (with_reducible refine below_drewN ?_ _) | (with_reducible refine below_via ?_ (by with_reducible assumption) ?_) | omega | (simp; done) | (simp; omega))); done)) | (refine IsBig.far (v0 := .slice none 0 0) ?_ ?_ ?_ _; rotate_left; (focus (simp [go_sem, *]; done)); (focus (simp; done))) | (refine IsBig.far (v0 := .bool false) ?_ ?_ ?_ _; rotate_left; (focus (simp [go_sem, *]; done)); (focus (simp; done))) | fail))
    · (repeat' (first | (with_reducible exact Below.refl _ _) | (with_reducible assumption) | (with_reducible refine Below.alloc ?_ ?_ _) | (with_reducible refine Below.setCell ?_ ?_ _) | (with_reducible refine Below.drew ?_) | (with_reducible refine below_drewN ?_ _) | (with_reducible refine below_via ?_ (by with_reducible assumption) ?_) | omega | (simp; done) | (simp; omega)))
end Go.Proofs.Ytalgfpegaobacaa

/- Lots: contract of lots.Sum. -/
namespace Go.Proofs.Ytalgfpegaobacaa
open Go.RowKit
theorem qtyL_snoc {l : List Lot} {k : Nat} (h : k < l.length) (a : Int) : qtyL (l.take (k + 1)) a = qtyL (l.take k) a ++ (if l[k].asset == a then [l[k].qty] else []) := by
  unfold qtyL
  rw [List.take_succ_eq_append_getElem h, List.filter_append, List.map_append]
  congr 1
  cases hq : (l[k].asset == a) <;> simp [hq]
theorem qtyL_len (l : List Lot) (a : Int) : (qtyL l a).length ≤ l.length := by
  unfold qtyL; rw [List.length_map]; exact List.length_filter_le _ _
theorem qtyL_mem {l : List Lot} {a z : Int} (h : z ∈ qtyL l a) : ∃ y ∈ l, y.qty = z := by
  unfold qtyL at h
  obtain ⟨y, hy, rfl⟩ := List.mem_map.1 h
  exact ⟨y, (List.mem_filter.1 hy).1, rfl⟩
theorem sum_bound64 : ∀ {l : List Int} (_ : ∀ z ∈ l, In64 z), -9223372036854775808 * (l.length : Int) ≤ l.sum ∧ l.sum ≤ 9223372036854775807 * (l.length : Int)
  | [], _ => by simp
  | a :: t, h => by
    have h1 := sum_bound64 (l := t) (fun z hz => h z (by simp [hz]))
    have h2 := h a (by simp)
    unfold In64 at h2
    simp only [List.sum_cons, List.length_cons]
    omega
theorem sumL_in {l : List Lot} (hl : l.length ≤ 1000000) (h : ∀ y ∈ l, In64 y.qty) (a : Int) : In128 (sumL l a) := by
  have h1 := sum_bound64 (l := qtyL l a) (fun z hz => by obtain ⟨y, hy, rfl⟩ := qtyL_mem hz; exact h y hy)
  have h2 := qtyL_len l a
  unfold sumL In128
  omega
theorem in64_128 {z : Int} (h : In64 z) : In128 z := by unfold In64 at h; unfold In128; omega
theorem rowsW (l : List Int) : ∀ r ∈ l.map encW, r.length = 2 ∧ ∀ u ∈ r, u.oneCell' = true := by
  intro r hr
  obtain ⟨m, _, rfl⟩ := List.mem_map.1 hr
  refine ⟨rfl, ?_⟩
  simp only [encW, List.mem_cons, List.not_mem_nil, or_false, forall_eq_or_imp, forall_eq]
  exact ⟨rfl, rfl⟩
end Go.Proofs.Ytalgfpegaobacaa

/- Lots: contracts of the reference's one, less, Get, Sum, Same. -/
namespace Go.Proofs.Ytalgfpegaobacaa
open Go.RowKit
set_option maxRecDepth 100000 in
set_option maxHeartbeats 2000000 in
theorem ref18one (x : Lot) (w : World) : Calls Try.prog 31 #[.agg #[.int .i64 x.asset, .int .i64 x.tag, .int .i64 x.qty]] w fun e w' => e = .returned (.bool (rightL x)) ∧ Below w.heap.size w w' := by
  by_cases t0 : 0 < x.asset
  rotate_left
  · have d0 := decide_eq_false t0
    have HN := Lib.hid (rightL_no (x := x) (by omega))
    go_enter Try.func31, Try.ntmps31
    go_wp2_with fail
    go_ret
    exact ⟨by rw [HN.out]; first | done | rfl, by (repeat' (first | (with_reducible exact Below.refl _ _) | (with_reducible assumption) | (with_reducible refine Below.alloc ?_ ?_ _) | (with_reducible refine Below.setCell ?_ ?_ _) | (with_reducible refine Below.drew ?_) | (with_reducible refine below_drewN ?_ _) | (with_reducible refine below_via ?_ (by with_reducible assumption) ?_) | omega | (simp; done) | (simp; omega)))⟩
  have d0 := decide_eq_true t0
  by_cases t1 : x.asset < 5
  rotate_left
  · have d1 := decide_eq_false t1
    have HN := Lib.hid (rightL_no (x := x) (by omega))
    go_enter Try.func31, Try.ntmps31
    go_wp2_with fail
    go_ret
    exact ⟨by rw [HN.out]; first | done | rfl, by (repeat' (first | (with_reducible exact Below.refl _ _) | (with_reducible assumption) | (with_reducible refine Below.alloc ?_ ?_ _) | (with_reducible refine Below.setCell ?_ ?_ _) | (with_reducible refine Below.drew ?_) | (with_reducible refine below_drewN ?_ _) | (with_reducible refine below_via ?_ (by with_reducible assumption) ?_) | omega | (simp; done) | (simp; omega)))⟩
  have d1 := decide_eq_true t1
  by_cases t2 : 0 ≤ x.tag
  rotate_left
  · have d2 := decide_eq_false t2
    have HN := Lib.hid (rightL_no (x := x) (by omega))
    go_enter Try.func31, Try.ntmps31
    go_wp2_with fail
    go_ret
    exact ⟨by rw [HN.out]; first | done | rfl, by (repeat' (first | (with_reducible exact Below.refl _ _) | (with_reducible assumption) | (with_reducible refine Below.alloc ?_ ?_ _) | (with_reducible refine Below.setCell ?_ ?_ _) | (with_reducible refine Below.drew ?_) | (with_reducible refine below_drewN ?_ _) | (with_reducible refine below_via ?_ (by with_reducible assumption) ?_) | omega | (simp; done) | (simp; omega)))⟩
  have d2 := decide_eq_true t2
  by_cases t3 : x.tag < 256
  rotate_left
  · have d3 := decide_eq_false t3
    have HN := Lib.hid (rightL_no (x := x) (by omega))
    go_enter Try.func31, Try.ntmps31
    go_wp2_with fail
    go_ret
    exact ⟨by rw [HN.out]; first | done | rfl, by (repeat' (first | (with_reducible exact Below.refl _ _) | (with_reducible assumption) | (with_reducible refine Below.alloc ?_ ?_ _) | (with_reducible refine Below.setCell ?_ ?_ _) | (with_reducible refine Below.drew ?_) | (with_reducible refine below_drewN ?_ _) | (with_reducible refine below_via ?_ (by with_reducible assumption) ?_) | omega | (simp; done) | (simp; omega)))⟩
  have d3 := decide_eq_true t3
  by_cases t4 : 0 < x.qty
  rotate_left
  · have d4 := decide_eq_false t4
    have HN := Lib.hid (rightL_no (x := x) (by omega))
    go_enter Try.func31, Try.ntmps31
    go_wp2_with fail
    go_ret
    exact ⟨by rw [HN.out]; first | done | rfl, by (repeat' (first | (with_reducible exact Below.refl _ _) | (with_reducible assumption) | (with_reducible refine Below.alloc ?_ ?_ _) | (with_reducible refine Below.setCell ?_ ?_ _) | (with_reducible refine Below.drew ?_) | (with_reducible refine below_drewN ?_ _) | (with_reducible refine below_via ?_ (by with_reducible assumption) ?_) | omega | (simp; done) | (simp; omega)))⟩
  have d4 := decide_eq_true t4
  have HN := Lib.hid (rightL_iff (x := x).2 ⟨by omega, by omega, by omega, by omega, by omega⟩)
  go_enter Try.func31, Try.ntmps31
  go_wp2_with fail
  go_ret
  exact ⟨by rw [HN.out]; first | done | rfl, by (repeat' (first | (with_reducible exact Below.refl _ _) | (with_reducible assumption) | (with_reducible refine Below.alloc ?_ ?_ _) | (with_reducible refine Below.setCell ?_ ?_ _) | (with_reducible refine Below.drew ?_) | (with_reducible refine below_drewN ?_ _) | (with_reducible refine below_via ?_ (by with_reducible assumption) ?_) | omega | (simp; done) | (simp; omega)))⟩
set_option maxRecDepth 100000 in
set_option maxHeartbeats 2000000 in
theorem ref18less (a b : Lot) (w : World) : Calls Try.prog 32 #[.agg #[.int .i64 a.asset, .int .i64 a.tag, .int .i64 a.qty], .agg #[.int .i64 b.asset, .int .i64 b.tag, .int .i64 b.qty]] w fun e w' => e = .returned (.bool (ltL a b)) ∧ Below w.heap.size w w' := by
  by_cases h1 : a.asset < b.asset
  · have d1 := decide_eq_true h1
    have HE := Lib.hid (ltL_iff (a := a) (b := b).2 (.inl h1))
    go_enter Try.func32, Try.ntmps32
    go_wp2_with fail
    go_ret
    exact ⟨by rw [HE.out]; rfl, by (repeat' (first | (with_reducible exact Below.refl _ _) | (with_reducible assumption) | (with_reducible refine Below.alloc ?_ ?_ _) | (with_reducible refine Below.setCell ?_ ?_ _) | (with_reducible refine Below.drew ?_) | (with_reducible refine below_drewN ?_ _) | (with_reducible refine below_via ?_ (by with_reducible assumption) ?_) | omega | (simp; done) | (simp; omega)))⟩
  · have d1 := decide_eq_false h1
    cases he : (a.asset == b.asset)
    · have hne : ¬ a.asset = b.asset := by simpa using he
      have HE := Lib.hid (ltL_no (a := a) (b := b) (by omega))
      go_enter Try.func32, Try.ntmps32
      go_wp2_with fail
      go_ret
      exact ⟨by rw [HE.out]; rfl, by (repeat' (first | (with_reducible exact Below.refl _ _) | (with_reducible assumption) | (with_reducible refine Below.alloc ?_ ?_ _) | (with_reducible refine Below.setCell ?_ ?_ _) | (with_reducible refine Below.drew ?_) | (with_reducible refine below_drewN ?_ _) | (with_reducible refine below_via ?_ (by with_reducible assumption) ?_) | omega | (simp; done) | (simp; omega)))⟩
    · have heq : a.asset = b.asset := by simpa using he
      by_cases h2 : a.tag < b.tag
      · have d2 := decide_eq_true h2
        have HE := Lib.hid (ltL_iff (a := a) (b := b).2 (.inr ⟨heq, h2⟩))
        clear heq
        go_enter Try.func32, Try.ntmps32
        go_wp2_with fail
        go_ret
        exact ⟨by rw [HE.out]; rfl, by (repeat' (first | (with_reducible exact Below.refl _ _) | (with_reducible assumption) | (with_reducible refine Below.alloc ?_ ?_ _) | (with_reducible refine Below.setCell ?_ ?_ _) | (with_reducible refine Below.drew ?_) | (with_reducible refine below_drewN ?_ _) | (with_reducible refine below_via ?_ (by with_reducible assumption) ?_) | omega | (simp; done) | (simp; omega)))⟩
      · have d2 := decide_eq_false h2
        have HE := Lib.hid (ltL_no (a := a) (b := b) (by omega))
        clear heq
        go_enter Try.func32, Try.ntmps32
        go_wp2_with fail
        go_ret
        exact ⟨by rw [HE.out]; rfl, by (repeat' (first | (with_reducible exact Below.refl _ _) | (with_reducible assumption) | (with_reducible refine Below.alloc ?_ ?_ _) | (with_reducible refine Below.setCell ?_ ?_ _) | (with_reducible refine Below.drew ?_) | (with_reducible refine below_drewN ?_ _) | (with_reducible refine below_via ?_ (by with_reducible assumption) ?_) | omega | (simp; done) | (simp; omega)))⟩
end Go.Proofs.Ytalgfpegaobacaa
