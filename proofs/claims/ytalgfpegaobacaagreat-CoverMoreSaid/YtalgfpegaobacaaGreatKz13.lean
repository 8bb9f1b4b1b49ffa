/- Joined: Cv1, ElUn, Acct1, Acct2. -/
import Derived.Test.YtalgfpegaobacaaGreatKz7
import Derived.Test.YtalgfpegaobacaaGreatKz11
import Derived.Test.YtalgfpegaobacaaGreatKz12
import Derived.Test.YtalgfpegaobacaaGreatKz6
import Derived.Test.YtalgfpegaobacaaGreatKz8
import Derived.Test.YtalgfpegaobacaaGreatKz10
import Derived.Test.YtalgfpegaobacaaGreatRows
import Derived.Outline
import Derived.WalkKit
import Derived.WalkSpells
import Derived.WalkLawsBesides
import Derived.BigQuiet
import Derived.Deep.RegionHeld3
import Derived.Deep.RegionLaw
import Derived.Handy
/- Contracts of cover.values, Value, Worth. -/
namespace Go.Proofs.YtalgfpegaobacaaGreat
open Go.RowKit
theorem elIv : Elem Tryz.prog 68 2 1 8 := elem_of Tryz.underlying68 (z := .int .i64 0) (by kernel_rfl) rfl (by omega)
theorem rowsIv (l : List Int) : ∀ r ∈ l.map encI, r.length = 1 ∧ ∀ u ∈ r, u.oneCell' = true := by
  intro r hr
  obtain ⟨m, _, rfl⟩ := List.mem_map.1 hr
  exact ⟨rfl, by simp [encI]; rfl⟩
def ValsPost (w : World) (L : List Int) (code : Int) (e : Ending) (w' : World) : Prop :=
  ∃ v, e = .returned (.tuple #[v, .int .i64 code]) ∧ Own w' w.heap.size 2 1 v (L.map encI) ∧ Below w.heap.size w w'
set_option maxRecDepth 100000 in
set_option maxHeartbeats 8000000 in
theorem valuesCount (ats : List Asset) (l : List Lot) (A B : Option Addr) (c d : Nat) (w : World) (ha : ats.length ≤ 1000000) (hl : l.length ≤ 1000000) (hin : ∀ y ∈ l, In64 y.qty) (hra : Rd w A 3 (ats.map encAsset)) (hr : Rd w B 3 (l.map encLot)) :
    Calls Tryz.prog 43 #[.slice A ats.length c, .slice B l.length d, .func (Fn.func 44) #[] #[]] w (ValsPost w (vaL countE countN ats l) (vaC countE ats l)) := by
  have HR := Lib.hid hr
  have HIN := Lib.hid hin
  have CF := Lib.hid (fun id W (h : Below w.heap.size w W) => assetFind ats id A c W (by omega) (hra.keep h))
  have ci := fun W (h : Below w.heap.size w W) => lotIs l B d W hl (hr.keep h)
  clear hr hin hra
  cases hi : isL l
  · rw [hi] at ci
    have CI := Lib.hid ci
    have HC := Lib.hid (show vaC countE ats l = 3 from by unfold vaC; rw [hi]; rfl)
    have HL := Lib.hid (show vaL countE countN ats l = [] from by unfold vaL; rw [HC.out]; rfl)
    rw [HC.out, HL.out]
    clear ci hi
    go_enter Tryz.func43, Tryz.ntmps43
    go_wp2_with (first | (go_at_call 74; (with_reducible refine (CI.out _ (by (repeat' (first | (with_reducible exact Below.refl _ _) | (with_reducible assumption) | (with_reducible refine Below.alloc ?_ ?_ _) | (with_reducible refine Below.setCell ?_ ?_ _) | (with_reducible refine Below.drew ?_) | (with_reducible refine below_drewN ?_ _) | (with_reducible refine below_via ?_ (by with_reducible assumption) ?_) | omega | (simp; done) | (simp; omega))))).mono ?_); rintro e w1 ⟨rfl, hb1⟩; obtain ⟨fc1, fg1, hc1, hf1, hz1⟩ := bget hb1; (try simp at hz1)) | fail)
    go_ret2
    exact ⟨_, rfl, Own.nil _ _ _ _, by (repeat' (first | (with_reducible exact Below.refl _ _) | (with_reducible assumption) | (with_reducible refine Below.alloc ?_ ?_ _) | (with_reducible refine Below.setCell ?_ ?_ _) | (with_reducible refine Below.drew ?_) | (with_reducible refine below_drewN ?_ _) | (with_reducible refine below_via ?_ (by with_reducible assumption) ?_) | omega | (simp; done) | (simp; omega)))⟩
  rw [hi] at ci
  have CI := Lib.hid ci
  have HC := Lib.hid (show vaC countE ats l = vC countE ats l from by unfold vaC; rw [hi]; rfl)
  have HL := Lib.hid (show vaL countE countN ats l = if vC countE ats l = 0 then vL countN ats l else [] from by unfold vaL; rw [HC.out])
  generalize vaL countE countN ats l = RL at *
  generalize vaC countE ats l = RC at *
  clear ci hi
  go_enter Tryz.func43, Tryz.ntmps43
  go_wp2_with (first | (go_at_call 74; (with_reducible refine (CI.out _ (by (repeat' (first | (with_reducible exact Below.refl _ _) | (with_reducible assumption) | (with_reducible refine Below.alloc ?_ ?_ _) | (with_reducible refine Below.setCell ?_ ?_ _) | (with_reducible refine Below.drew ?_) | (with_reducible refine below_drewN ?_ _) | (with_reducible refine below_via ?_ (by with_reducible assumption) ?_) | omega | (simp; done) | (simp; omega))))).mono ?_); rintro e w1 ⟨rfl, hb1⟩; obtain ⟨fc1, fg1, hc1, hf1, hz1⟩ := bget hb1; (try simp at hz1)) | fail)
  have Hb1 := Lib.hid hb1
  clear hc1 hf1 hb1
  go_loopw [8, 20] (fun v i wr => ∃ k : Nat, k ≤ l.length ∧ i = .int .i64 k ∧ vC countE ats l = vC countE ats (l.drop k) ∧ Own wr w.heap.size 2 1 v ((vL countN ats (l.take k)).map encI) ∧ Below w.heap.size w wr) (fun _ i _ => l.length - (intOf i).toNat)
  case atStart => exact ⟨0, Nat.zero_le _, rfl, rfl, Own.nil _ _ _ _, Hb1.out⟩
  case round =>
    obtain ⟨k, hk, rfl, hv, hown, hbl⟩ := hrel
    have HV := Lib.hid hv
    have Hown := Lib.hid hown
    have Hbl := Lib.hid hbl
    have hz := hbl.size
    clear hv hown hbl
    by_cases hlt : k < l.length
    · have kl : (k : Int) < (l.length : Int) := by omega
      have dl : decide ((k : Int) < (l.length : Int)) = true := by simpa using hlt
      obtain ⟨b, o, rfl, hb, hc⟩ := HR.out k (encLot l[k]) (by simp [hlt])
      have e0 := (Hbl.out.cell (p := ⟨b, o + k * 3 + 0, none⟩) hb).trans (hc 0 _ rfl)
      have e1 := (Hbl.out.cell (p := ⟨b, o + k * 3 + 1, none⟩) hb).trans (hc 1 _ rfl)
      have e2 := (Hbl.out.cell (p := ⟨b, o + k * 3 + 2, none⟩) hb).trans (hc 2 _ rfl)
      simp only [Nat.add_zero] at e0
      clear hc
      have hbw : b < wr.heap.size := by omega
      have hq := HIN.out l[k] (List.getElem_mem hlt)
      have HD := Lib.hid (drop_cons' hlt)
      have HM := Lib.hid (show vL countN ats (l.take (k + 1)) = vL countN ats (l.take k) ++ [countN (findAsset ats l[k].asset).1 l[k].qty] from map_snoc hlt _)
      have hvl := vL_len countN ats (l.take k)
      have htl : (l.take k).length ≤ 1000000 := by rw [List.length_take]; omega
      have cf := CF.out l[k].asset
      have cv := fun W => assetCount (findAsset ats l[k].asset).1 l[k].qty W hq
      cases hf : (findAsset ats l[k].asset).2
      · have HN := Lib.hid (show vC countE ats l = 11 from by rw [HV.out, HD.out]; exact vC_none hf)
        rw [hf] at cf
        generalize (findAsset ats l[k].asset).1 = y at *
        have CFK := Lib.hid cf
        clear cf cv hf HD hvl
        go_wp2_with (first | (go_at_call 75; (with_reducible refine (CFK.out _ (by have hbl := Hbl.out; (repeat' (first | (with_reducible exact Below.refl _ _) | (with_reducible assumption) | (with_reducible refine Below.alloc ?_ ?_ _) | (with_reducible refine Below.setCell ?_ ?_ _) | (with_reducible refine Below.drew ?_) | (with_reducible refine below_drewN ?_ _) | (with_reducible refine below_via ?_ (by with_reducible assumption) ?_) | omega | (simp; done) | (simp; omega))))).mono ?_); rintro e w2 ⟨rfl, hb2⟩; obtain ⟨fc2, fg2, hc2, hf2, hz2⟩ := bget hb2; (try simp at hz2)) | fail)
        go_ret2
        exact ⟨_, by rw [HC.out, HN.out]; rfl, by rw [HL.out, HN.out]; exact Own.nil _ _ _ _, by have hbl := Hbl.out; (repeat' (first | (with_reducible exact Below.refl _ _) | (with_reducible assumption) | (with_reducible refine Below.alloc ?_ ?_ _) | (with_reducible refine Below.setCell ?_ ?_ _) | (with_reducible refine Below.drew ?_) | (with_reducible refine below_drewN ?_ _) | (with_reducible refine below_via ?_ (by with_reducible assumption) ?_) | omega | (simp; done) | (simp; omega)))⟩
      rw [hf] at cf
      by_cases h0 : countE (findAsset ats l[k].asset).1 l[k].qty = 0
      · have HN := Lib.hid (show vC countE ats l = vC countE ats (l.drop (k + 1)) from by rw [HV.out, HD.out]; exact vC_step hf h0)
        rw [h0] at cv
        clear hf h0
        generalize countN (findAsset ats l[k].asset).1 l[k].qty = n at *
        generalize (findAsset ats l[k].asset).1 = y at *
        generalize vL countN ats (l.take k) = Z at *
        have CFK := Lib.hid cf
        have CV := Lib.hid cv
        clear cf cv HD
        have hzl : (Z.map encI).length ≤ 1000000 := by rw [List.length_map]; omega
        clear hvl htl
        go_wp2_with (first | (go_at_call 75; (with_reducible refine (CFK.out _ (by have hbl := Hbl.out; (repeat' (first | (with_reducible exact Below.refl _ _) | (with_reducible assumption) | (with_reducible refine Below.alloc ?_ ?_ _) | (with_reducible refine Below.setCell ?_ ?_ _) | (with_reducible refine Below.drew ?_) | (with_reducible refine below_drewN ?_ _) | (with_reducible refine below_via ?_ (by with_reducible assumption) ?_) | omega | (simp; done) | (simp; omega))))).mono ?_); rintro e w2 ⟨rfl, hb2⟩; obtain ⟨fc2, fg2, hc2, hf2, hz2⟩ := bget hb2; (try simp at hz2)) | (go_at_call 44; (with_reducible refine (CV.out _).mono ?_); rintro e w3 ⟨rfl, hb3⟩; obtain ⟨fc3, fg3, hc3, hf3, hz3⟩ := bget hb3; (try simp at hz3)) | (at_builtin; refine wpList_app rfl _ _ _ rfl elIv w.heap.size _ _ rfl (Hown.out.keep (by (repeat' (first | (with_reducible exact Below.refl _ _) | (with_reducible assumption) | (with_reducible refine Below.alloc ?_ ?_ _) | (with_reducible refine Below.setCell ?_ ?_ _) | (with_reducible refine Below.drew ?_) | (with_reducible refine below_drewN ?_ _) | (with_reducible refine below_via ?_ (by with_reducible assumption) ?_) | omega | (simp; done) | (simp; omega))))) (some ⟨_, 0, none⟩) 1 1 rfl [encI n] rfl (fun h => by cases h) (rd_oneN (by simp)) (rowsIv [n]) (by unfold maxLen; omega) (by omega) (by first | omega | (simp; done) | (simp; omega)) ?_; intro v4 w4 hown4 hb4; obtain ⟨fc4, fg4, hc4, hf4, hz4⟩ := bget hb4; (try simp at hz4)) | fail)
        go_roundw
        case rel => exact ⟨k + 1, by omega, by go_num, HN.out, by rw [HM.out, List.map_append]; exact hown4, by have hbl := Hbl.out; (repeat' (first | (with_reducible exact Below.refl _ _) | (with_reducible assumption) | (with_reducible refine Below.alloc ?_ ?_ _) | (with_reducible refine Below.setCell ?_ ?_ _) | (with_reducible refine Below.drew ?_) | (with_reducible refine below_drewN ?_ _) | (with_reducible refine below_via ?_ (by with_reducible assumption) ?_) | omega | (simp; done) | (simp; omega)))⟩
        case measure => simp [intOf]; omega
      · have HN := Lib.hid (show vC countE ats l = countE (findAsset ats l[k].asset).1 l[k].qty from by rw [HV.out, HD.out]; exact vC_bad hf h0)
        have n0 : (countE (findAsset ats l[k].asset).1 l[k].qty != 0) = true := by simpa using h0
        have n1 : (countE (findAsset ats l[k].asset).1 l[k].qty == 0) = false := by simpa using h0
        have HN0 := Lib.hid (show ¬ vC countE ats l = 0 from by rw [HN.out]; exact h0)
        clear hf h0
        generalize countE (findAsset ats l[k].asset).1 l[k].qty = code at *
        generalize countN (findAsset ats l[k].asset).1 l[k].qty = n at *
        generalize (findAsset ats l[k].asset).1 = y at *
        have CFK := Lib.hid cf
        have CV := Lib.hid cv
        clear cf cv HD hvl
        go_wp2_with (first | (go_at_call 75; (with_reducible refine (CFK.out _ (by have hbl := Hbl.out; (repeat' (first | (with_reducible exact Below.refl _ _) | (with_reducible assumption) | (with_reducible refine Below.alloc ?_ ?_ _) | (with_reducible refine Below.setCell ?_ ?_ _) | (with_reducible refine Below.drew ?_) | (with_reducible refine below_drewN ?_ _) | (with_reducible refine below_via ?_ (by with_reducible assumption) ?_) | omega | (simp; done) | (simp; omega))))).mono ?_); rintro e w2 ⟨rfl, hb2⟩; obtain ⟨fc2, fg2, hc2, hf2, hz2⟩ := bget hb2; (try simp at hz2)) | (go_at_call 44; (with_reducible refine (CV.out _).mono ?_); rintro e w3 ⟨rfl, hb3⟩; obtain ⟨fc3, fg3, hc3, hf3, hz3⟩ := bget hb3; (try simp at hz3)) | fail)
        go_ret2
        exact ⟨_, by rw [HC.out, HN.out]; rfl, by rw [HL.out, if_neg HN0.out]; exact Own.nil _ _ _ _, by have hbl := Hbl.out; (repeat' (first | (with_reducible exact Below.refl _ _) | (with_reducible assumption) | (with_reducible refine Below.alloc ?_ ?_ _) | (with_reducible refine Below.setCell ?_ ?_ _) | (with_reducible refine Below.drew ?_) | (with_reducible refine below_drewN ?_ _) | (with_reducible refine below_via ?_ (by with_reducible assumption) ?_) | omega | (simp; done) | (simp; omega)))⟩
    · have dl : decide ((k : Int) < (l.length : Int)) = false := by simpa using hlt
      have HN := Lib.hid (show vC countE ats l = 0 from by rw [HV.out, List.drop_eq_nil_of_le (by omega)]; rfl)
      have HT := Lib.hid (List.take_of_length_le (show l.length ≤ k by omega))
      go_wp2_with fail
      go_ret2
      exact ⟨_, by rw [HC.out, HN.out]; rfl, by rw [HL.out, if_pos HN.out, ← HT.out]; exact Hown.out, by have hbl := Hbl.out; (repeat' (first | (with_reducible exact Below.refl _ _) | (with_reducible assumption) | (with_reducible refine Below.alloc ?_ ?_ _) | (with_reducible refine Below.setCell ?_ ?_ _) | (with_reducible refine Below.drew ?_) | (with_reducible refine below_drewN ?_ _) | (with_reducible refine below_via ?_ (by with_reducible assumption) ?_) | omega | (simp; done) | (simp; omega)))⟩
set_option maxRecDepth 100000 in
set_option maxHeartbeats 8000000 in
theorem valuesWorth (ats : List Asset) (l : List Lot) (A B : Option Addr) (c d : Nat) (w : World) (ha : ats.length ≤ 1000000) (hl : l.length ≤ 1000000) (hin : ∀ y ∈ l, In64 y.qty) (hra : Rd w A 3 (ats.map encAsset)) (hr : Rd w B 3 (l.map encLot)) :
    Calls Tryz.prog 43 #[.slice A ats.length c, .slice B l.length d, .func (Fn.func 45) #[] #[]] w (ValsPost w (vaL worthE worthN ats l) (vaC worthE ats l)) := by
  have HR := Lib.hid hr
  have HIN := Lib.hid hin
  have CF := Lib.hid (fun id W (h : Below w.heap.size w W) => assetFind ats id A c W (by omega) (hra.keep h))
  have ci := fun W (h : Below w.heap.size w W) => lotIs l B d W hl (hr.keep h)
  clear hr hin hra
  cases hi : isL l
  · rw [hi] at ci
    have CI := Lib.hid ci
    have HC := Lib.hid (show vaC worthE ats l = 3 from by unfold vaC; rw [hi]; rfl)
    have HL := Lib.hid (show vaL worthE worthN ats l = [] from by unfold vaL; rw [HC.out]; rfl)
    rw [HC.out, HL.out]
    clear ci hi
    go_enter Tryz.func43, Tryz.ntmps43
    go_wp2_with (first | (go_at_call 74; (with_reducible refine (CI.out _ (by (repeat' (first | (with_reducible exact Below.refl _ _) | (with_reducible assumption) | (with_reducible refine Below.alloc ?_ ?_ _) | (with_reducible refine Below.setCell ?_ ?_ _) | (with_reducible refine Below.drew ?_) | (with_reducible refine below_drewN ?_ _) | (with_reducible refine below_via ?_ (by with_reducible assumption) ?_) | omega | (simp; done) | (simp; omega))))).mono ?_); rintro e w1 ⟨rfl, hb1⟩; obtain ⟨fc1, fg1, hc1, hf1, hz1⟩ := bget hb1; (try simp at hz1)) | fail)
    go_ret2
    exact ⟨_, rfl, Own.nil _ _ _ _, by (repeat' (first | (with_reducible exact Below.refl _ _) | (with_reducible assumption) | (with_reducible refine Below.alloc ?_ ?_ _) | (with_reducible refine Below.setCell ?_ ?_ _) | (with_reducible refine Below.drew ?_) | (with_reducible refine below_drewN ?_ _) | (with_reducible refine below_via ?_ (by with_reducible assumption) ?_) | omega | (simp; done) | (simp; omega)))⟩
  rw [hi] at ci
  have CI := Lib.hid ci
  have HC := Lib.hid (show vaC worthE ats l = vC worthE ats l from by unfold vaC; rw [hi]; rfl)
  have HL := Lib.hid (show vaL worthE worthN ats l = if vC worthE ats l = 0 then vL worthN ats l else [] from by unfold vaL; rw [HC.out])
  generalize vaL worthE worthN ats l = RL at *
  generalize vaC worthE ats l = RC at *
  clear ci hi
  go_enter Tryz.func43, Tryz.ntmps43
  go_wp2_with (first | (go_at_call 74; (with_reducible refine (CI.out _ (by (repeat' (first | (with_reducible exact Below.refl _ _) | (with_reducible assumption) | (with_reducible refine Below.alloc ?_ ?_ _) | (with_reducible refine Below.setCell ?_ ?_ _) | (with_reducible refine Below.drew ?_) | (with_reducible refine below_drewN ?_ _) | (with_reducible refine below_via ?_ (by with_reducible assumption) ?_) | omega | (simp; done) | (simp; omega))))).mono ?_); rintro e w1 ⟨rfl, hb1⟩; obtain ⟨fc1, fg1, hc1, hf1, hz1⟩ := bget hb1; (try simp at hz1)) | fail)
  have Hb1 := Lib.hid hb1
  clear hc1 hf1 hb1
  go_loopw [8, 20] (fun v i wr => ∃ k : Nat, k ≤ l.length ∧ i = .int .i64 k ∧ vC worthE ats l = vC worthE ats (l.drop k) ∧ Own wr w.heap.size 2 1 v ((vL worthN ats (l.take k)).map encI) ∧ Below w.heap.size w wr) (fun _ i _ => l.length - (intOf i).toNat)
  case atStart => exact ⟨0, Nat.zero_le _, rfl, rfl, Own.nil _ _ _ _, Hb1.out⟩
  case round =>
    obtain ⟨k, hk, rfl, hv, hown, hbl⟩ := hrel
    have HV := Lib.hid hv
    have Hown := Lib.hid hown
    have Hbl := Lib.hid hbl
    have hz := hbl.size
    clear hv hown hbl
    by_cases hlt : k < l.length
    · have kl : (k : Int) < (l.length : Int) := by omega
      have dl : decide ((k : Int) < (l.length : Int)) = true := by simpa using hlt
      obtain ⟨b, o, rfl, hb, hc⟩ := HR.out k (encLot l[k]) (by simp [hlt])
      have e0 := (Hbl.out.cell (p := ⟨b, o + k * 3 + 0, none⟩) hb).trans (hc 0 _ rfl)
      have e1 := (Hbl.out.cell (p := ⟨b, o + k * 3 + 1, none⟩) hb).trans (hc 1 _ rfl)
      have e2 := (Hbl.out.cell (p := ⟨b, o + k * 3 + 2, none⟩) hb).trans (hc 2 _ rfl)
      simp only [Nat.add_zero] at e0
      clear hc
      have hbw : b < wr.heap.size := by omega
      have hq := HIN.out l[k] (List.getElem_mem hlt)
      have HD := Lib.hid (drop_cons' hlt)
      have HM := Lib.hid (show vL worthN ats (l.take (k + 1)) = vL worthN ats (l.take k) ++ [worthN (findAsset ats l[k].asset).1 l[k].qty] from map_snoc hlt _)
      have hvl := vL_len worthN ats (l.take k)
      have htl : (l.take k).length ≤ 1000000 := by rw [List.length_take]; omega
      have cf := CF.out l[k].asset
      have cv := fun W => assetWorth (findAsset ats l[k].asset).1 l[k].qty W hq
      cases hf : (findAsset ats l[k].asset).2
      · have HN := Lib.hid (show vC worthE ats l = 11 from by rw [HV.out, HD.out]; exact vC_none hf)
        rw [hf] at cf
        generalize (findAsset ats l[k].asset).1 = y at *
        have CFK := Lib.hid cf
        clear cf cv hf HD hvl
        go_wp2_with (first | (go_at_call 75; (with_reducible refine (CFK.out _ (by have hbl := Hbl.out; (repeat' (first | (with_reducible exact Below.refl _ _) | (with_reducible assumption) | (with_reducible refine Below.alloc ?_ ?_ _) | (with_reducible refine Below.setCell ?_ ?_ _) | (with_reducible refine Below.drew ?_) | (with_reducible refine below_drewN ?_ _) | (with_reducible refine below_via ?_ (by with_reducible assumption) ?_) | omega | (simp; done) | (simp; omega))))).mono ?_); rintro e w2 ⟨rfl, hb2⟩; obtain ⟨fc2, fg2, hc2, hf2, hz2⟩ := bget hb2; (try simp at hz2)) | fail)
        go_ret2
        exact ⟨_, by rw [HC.out, HN.out]; rfl, by rw [HL.out, HN.out]; exact Own.nil _ _ _ _, by have hbl := Hbl.out; (repeat' (first | (with_reducible exact Below.refl _ _) | (with_reducible assumption) | (with_reducible refine Below.alloc ?_ ?_ _) | (with_reducible refine Below.setCell ?_ ?_ _) | (with_reducible refine Below.drew ?_) | (with_reducible refine below_drewN ?_ _) | (with_reducible refine below_via ?_ (by with_reducible assumption) ?_) | omega | (simp; done) | (simp; omega)))⟩
      rw [hf] at cf
      by_cases h0 : worthE (findAsset ats l[k].asset).1 l[k].qty = 0
      · have HN := Lib.hid (show vC worthE ats l = vC worthE ats (l.drop (k + 1)) from by rw [HV.out, HD.out]; exact vC_step hf h0)
        rw [h0] at cv
        clear hf h0
        generalize worthN (findAsset ats l[k].asset).1 l[k].qty = n at *
        generalize (findAsset ats l[k].asset).1 = y at *
        generalize vL worthN ats (l.take k) = Z at *
        have CFK := Lib.hid cf
        have CV := Lib.hid cv
        clear cf cv HD
        have hzl : (Z.map encI).length ≤ 1000000 := by rw [List.length_map]; omega
        clear hvl htl
        go_wp2_with (first | (go_at_call 75; (with_reducible refine (CFK.out _ (by have hbl := Hbl.out; (repeat' (first | (with_reducible exact Below.refl _ _) | (with_reducible assumption) | (with_reducible refine Below.alloc ?_ ?_ _) | (with_reducible refine Below.setCell ?_ ?_ _) | (with_reducible refine Below.drew ?_) | (with_reducible refine below_drewN ?_ _) | (with_reducible refine below_via ?_ (by with_reducible assumption) ?_) | omega | (simp; done) | (simp; omega))))).mono ?_); rintro e w2 ⟨rfl, hb2⟩; obtain ⟨fc2, fg2, hc2, hf2, hz2⟩ := bget hb2; (try simp at hz2)) | (go_at_call 45; (with_reducible refine (CV.out _).mono ?_); rintro e w3 ⟨rfl, hb3⟩; obtain ⟨fc3, fg3, hc3, hf3, hz3⟩ := bget hb3; (try simp at hz3)) | (at_builtin; refine wpList_app rfl _ _ _ rfl elIv w.heap.size _ _ rfl (Hown.out.keep (by (repeat' (first | (with_reducible exact Below.refl _ _) | (with_reducible assumption) | (with_reducible refine Below.alloc ?_ ?_ _) | (with_reducible refine Below.setCell ?_ ?_ _) | (with_reducible refine Below.drew ?_) | (with_reducible refine below_drewN ?_ _) | (with_reducible refine below_via ?_ (by with_reducible assumption) ?_) | omega | (simp; done) | (simp; omega))))) (some ⟨_, 0, none⟩) 1 1 rfl [encI n] rfl (fun h => by cases h) (rd_oneN (by simp)) (rowsIv [n]) (by unfold maxLen; omega) (by omega) (by first | omega | (simp; done) | (simp; omega)) ?_; intro v4 w4 hown4 hb4; obtain ⟨fc4, fg4, hc4, hf4, hz4⟩ := bget hb4; (try simp at hz4)) | fail)
        go_roundw
        case rel => exact ⟨k + 1, by omega, by go_num, HN.out, by rw [HM.out, List.map_append]; exact hown4, by have hbl := Hbl.out; (repeat' (first | (with_reducible exact Below.refl _ _) | (with_reducible assumption) | (with_reducible refine Below.alloc ?_ ?_ _) | (with_reducible refine Below.setCell ?_ ?_ _) | (with_reducible refine Below.drew ?_) | (with_reducible refine below_drewN ?_ _) | (with_reducible refine below_via ?_ (by with_reducible assumption) ?_) | omega | (simp; done) | (simp; omega)))⟩
        case measure => simp [intOf]; omega
      · have HN := Lib.hid (show vC worthE ats l = worthE (findAsset ats l[k].asset).1 l[k].qty from by rw [HV.out, HD.out]; exact vC_bad hf h0)
        have n0 : (worthE (findAsset ats l[k].asset).1 l[k].qty != 0) = true := by simpa using h0
        have n1 : (worthE (findAsset ats l[k].asset).1 l[k].qty == 0) = false := by simpa using h0
        have HN0 := Lib.hid (show ¬ vC worthE ats l = 0 from by rw [HN.out]; exact h0)
        clear hf h0
        generalize worthE (findAsset ats l[k].asset).1 l[k].qty = code at *
        generalize worthN (findAsset ats l[k].asset).1 l[k].qty = n at *
        generalize (findAsset ats l[k].asset).1 = y at *
        have CFK := Lib.hid cf
        have CV := Lib.hid cv
        clear cf cv HD hvl
        go_wp2_with (first | (go_at_call 75; (with_reducible refine (CFK.out _ (by have hbl := Hbl.out; (repeat' (first | (with_reducible exact Below.refl _ _) | (with_reducible assumption) | (with_reducible refine Below.alloc ?_ ?_ _) | (with_reducible refine Below.setCell ?_ ?_ _) | (with_reducible refine Below.drew ?_) | (with_reducible refine below_drewN ?_ _) | (with_reducible refine below_via ?_ (by with_reducible assumption) ?_) | omega | (simp; done) | (simp; omega))))).mono ?_); rintro e w2 ⟨rfl, hb2⟩; obtain ⟨fc2, fg2, hc2, hf2, hz2⟩ := bget hb2; (try simp at hz2)) | (go_at_call 45; (with_reducible refine (CV.out _).mono ?_); rintro e w3 ⟨rfl, hb3⟩; obtain ⟨fc3, fg3, hc3, hf3, hz3⟩ := bget hb3; (try simp at hz3)) | fail)
        go_ret2
        exact ⟨_, by rw [HC.out, HN.out]; rfl, by rw [HL.out, if_neg HN0.out]; exact Own.nil _ _ _ _, by have hbl := Hbl.out; (repeat' (first | (with_reducible exact Below.refl _ _) | (with_reducible assumption) | (with_reducible refine Below.alloc ?_ ?_ _) | (with_reducible refine Below.setCell ?_ ?_ _) | (with_reducible refine Below.drew ?_) | (with_reducible refine below_drewN ?_ _) | (with_reducible refine below_via ?_ (by with_reducible assumption) ?_) | omega | (simp; done) | (simp; omega)))⟩
    · have dl : decide ((k : Int) < (l.length : Int)) = false := by simpa using hlt
      have HN := Lib.hid (show vC worthE ats l = 0 from by rw [HV.out, List.drop_eq_nil_of_le (by omega)]; rfl)
      have HT := Lib.hid (List.take_of_length_le (show l.length ≤ k by omega))
      go_wp2_with fail
      go_ret2
      exact ⟨_, by rw [HC.out, HN.out]; rfl, by rw [HL.out, if_pos HN.out, ← HT.out]; exact Hown.out, by have hbl := Hbl.out; (repeat' (first | (with_reducible exact Below.refl _ _) | (with_reducible assumption) | (with_reducible refine Below.alloc ?_ ?_ _) | (with_reducible refine Below.setCell ?_ ?_ _) | (with_reducible refine Below.drew ?_) | (with_reducible refine below_drewN ?_ _) | (with_reducible refine below_via ?_ (by with_reducible assumption) ?_) | omega | (simp; done) | (simp; omega)))⟩
set_option maxRecDepth 100000 in
set_option maxHeartbeats 8000000 in
theorem coverValue (ats : List Asset) (l : List Lot) (cash : Int) (A B : Option Addr) (c d : Nat) (w : World) (ha : ats.length ≤ 1000000) (hl : l.length ≤ 1000000) (hcash : In64 cash) (hin : ∀ y ∈ l, In64 y.qty) (hra : Rd w A 3 (ats.map encAsset)) (hr : Rd w B 3 (l.map encLot)) :
    Calls Tryz.prog 19 #[.slice A ats.length c, .slice B l.length d, .int .i64 cash] w fun e w' => e = .returned (.tuple #[.int .i64 (valN ats l cash), .int .i64 (valC ats l cash)]) ∧ Below w.heap.size w w' := by
  have cv := fun W (h : Below w.heap.size w W) => valuesCount ats l A B c d W ha hl hin (hra.keep h) (hr.keep h)
  clear hra hr hin
  by_cases h0 : vaC countE ats l = 0
  · have HC := Lib.hid (show valC ats l cash = sum64C (vL countN ats l ++ [cash]) from by unfold valC; rw [if_pos h0])
    have HN := Lib.hid (show valN ats l cash = sum64N (vL countN ats l ++ [cash]) from by unfold valN; rw [if_pos h0])
    rw [HC.out, HN.out]
    rw [h0, show vaL countE countN ats l = vL countN ats l from by unfold vaL; rw [if_pos h0]] at cv
    have CS := Lib.hid (fun W A2 c2 (h : Rd W A2 1 ((vL countN ats l ++ [cash]).map encI)) => fixSum64 (vL countN ats l ++ [cash]) A2 c2 W (by rw [List.length_append, vL_len]; simp; omega) (fun z hz => by
      rcases List.mem_append.1 hz with h | h
      · exact vL64 countN64 ats l z h
      · rw [List.mem_singleton] at h; subst h; exact hcash) h)
    have hzl : ((vL countN ats l).map encI).length ≤ 1000000 := by rw [List.length_map, vL_len]; omega
    have CV := Lib.hid cv
    clear cv h0 HC HN
    generalize vL countN ats l = Z at *
    obtain ⟨Y, hY⟩ : ∃ Y, Y = Z ++ [cash] := ⟨_, rfl⟩
    have HYE := Lib.hid (show Z.map encI ++ [encI cash] = Y.map encI from by rw [hY, List.map_append]; rfl)
    rw [← hY] at CS ⊢
    clear hY
    go_enter Tryz.func19, Tryz.ntmps19
    go_wp2_with (first | (go_at_call 43; (with_reducible refine (CV.out _ (by (repeat' (first | (with_reducible exact Below.refl _ _) | (with_reducible assumption) | (with_reducible refine Below.alloc ?_ ?_ _) | (with_reducible refine Below.setCell ?_ ?_ _) | (with_reducible refine Below.drew ?_) | (with_reducible refine below_drewN ?_ _) | (with_reducible refine below_via ?_ (by with_reducible assumption) ?_) | omega | (simp; done) | (simp; omega))))).mono ?_); rintro e w1 ⟨v1, rfl, hown1, hb1⟩; have HO1 := Lib.hid hown1; clear hown1; obtain ⟨fc1, fg1, hc1, hf1, hz1⟩ := bget hb1; (try simp at hz1)) | (at_builtin; refine wpList_app rfl _ _ _ rfl elIv w.heap.size _ _ rfl ((HO1.out.mono (by first | omega | (simp; done) | (simp; omega))).keep (by (repeat' (first | (with_reducible exact Below.refl _ _) | (with_reducible assumption) | (with_reducible refine Below.alloc ?_ ?_ _) | (with_reducible refine Below.setCell ?_ ?_ _) | (with_reducible refine Below.drew ?_) | (with_reducible refine below_drewN ?_ _) | (with_reducible refine below_via ?_ (by with_reducible assumption) ?_) | omega | (simp; done) | (simp; omega))))) (some ⟨_, 0, none⟩) 1 1 rfl [encI cash] rfl (fun h => by cases h) (rd_oneN (by simp)) (rowsIv [cash]) (by unfold maxLen; omega) (by omega) (by first | omega | (simp; done) | (simp; omega)) ?_; intro v2 w2 hown2 hb2; rw [HYE.out] at hown2; obtain ⟨A2, c2, hv2, hrs2, _⟩ := hown2.rs; (rw [List.length_map] at hv2); subst hv2; have HS2 := Lib.hid hrs2.rd; clear hown2 hrs2; obtain ⟨fc2, fg2, hc2, hf2, hz2⟩ := bget hb2; (try simp at hz2)) | (go_at_call 26; (with_reducible refine (CS.out _ _ _ (HS2.out.keep (by (repeat' (first | (with_reducible exact Below.refl _ _) | (with_reducible assumption) | (with_reducible refine Below.alloc ?_ ?_ _) | (with_reducible refine Below.setCell ?_ ?_ _) | (with_reducible refine Below.drew ?_) | (with_reducible refine below_drewN ?_ _) | (with_reducible refine below_via ?_ (by with_reducible assumption) ?_) | omega | (simp; done) | (simp; omega)))))).mono ?_); rintro e w3 ⟨rfl, hb3⟩; obtain ⟨fc3, fg3, hc3, hf3, hz3⟩ := bget hb3; (try simp at hz3)) | fail)
    go_ret2
    exact ⟨rfl, by (repeat' (first | (with_reducible exact Below.refl _ _) | (with_reducible assumption) | (with_reducible refine Below.alloc ?_ ?_ _) | (with_reducible refine Below.setCell ?_ ?_ _) | (with_reducible refine Below.drew ?_) | (with_reducible refine below_drewN ?_ _) | (with_reducible refine below_via ?_ (by with_reducible assumption) ?_) | omega | (simp; done) | (simp; omega)))⟩
  · have HC := Lib.hid (show valC ats l cash = vaC countE ats l from by unfold valC; rw [if_neg h0])
    have HN := Lib.hid (show valN ats l cash = 0 from by unfold valN; rw [if_neg h0])
    rw [HC.out, HN.out]
    have n0 : (vaC countE ats l != 0) = true := by simpa using h0
    have n1 : (vaC countE ats l == 0) = false := by simpa using h0
    have CV := Lib.hid cv
    clear cv h0 HC HN
    generalize vaC countE ats l = code at *
    go_enter Tryz.func19, Tryz.ntmps19
    go_wp2_with (first | (go_at_call 43; (with_reducible refine (CV.out _ (by (repeat' (first | (with_reducible exact Below.refl _ _) | (with_reducible assumption) | (with_reducible refine Below.alloc ?_ ?_ _) | (with_reducible refine Below.setCell ?_ ?_ _) | (with_reducible refine Below.drew ?_) | (with_reducible refine below_drewN ?_ _) | (with_reducible refine below_via ?_ (by with_reducible assumption) ?_) | omega | (simp; done) | (simp; omega))))).mono ?_); rintro e w1 ⟨v1, rfl, hown1, hb1⟩; have HO1 := Lib.hid hown1; clear hown1; obtain ⟨fc1, fg1, hc1, hf1, hz1⟩ := bget hb1; (try simp at hz1)) | fail)
    go_ret2
    exact ⟨rfl, by (repeat' (first | (with_reducible exact Below.refl _ _) | (with_reducible assumption) | (with_reducible refine Below.alloc ?_ ?_ _) | (with_reducible refine Below.setCell ?_ ?_ _) | (with_reducible refine Below.drew ?_) | (with_reducible refine below_drewN ?_ _) | (with_reducible refine below_via ?_ (by with_reducible assumption) ?_) | omega | (simp; done) | (simp; omega)))⟩
set_option maxRecDepth 100000 in
set_option maxHeartbeats 8000000 in
theorem coverWorth (ats : List Asset) (l : List Lot) (A B : Option Addr) (c d : Nat) (w : World) (ha : ats.length ≤ 1000000) (hl : l.length ≤ 1000000) (hin : ∀ y ∈ l, In64 y.qty) (hra : Rd w A 3 (ats.map encAsset)) (hr : Rd w B 3 (l.map encLot)) :
    Calls Tryz.prog 20 #[.slice A ats.length c, .slice B l.length d] w fun e w' => e = .returned (.tuple #[.int .i64 (worN ats l), .int .i64 (worC ats l)]) ∧ Below w.heap.size w w' := by
  have cv := fun W (h : Below w.heap.size w W) => valuesWorth ats l A B c d W ha hl hin (hra.keep h) (hr.keep h)
  clear hra hr hin
  by_cases h0 : vaC worthE ats l = 0
  · have HC := Lib.hid (show worC ats l = sum64C (vL worthN ats l) from by unfold worC; rw [if_pos h0])
    have HN := Lib.hid (show worN ats l = sum64N (vL worthN ats l) from by unfold worN; rw [if_pos h0])
    rw [HC.out, HN.out]
    rw [h0, show vaL worthE worthN ats l = vL worthN ats l from by unfold vaL; rw [if_pos h0]] at cv
    have CS := Lib.hid (fun W A2 c2 (h : Rd W A2 1 ((vL worthN ats l).map encI)) => fixSum64 (vL worthN ats l) A2 c2 W (by rw [vL_len]; omega) (vL64 worthN64 ats l) h)
    have CV := Lib.hid cv
    clear cv h0 HC HN
    generalize vL worthN ats l = Z at *
    go_enter Tryz.func20, Tryz.ntmps20
    go_wp2_with (first | (go_at_call 43; (with_reducible refine (CV.out _ (by (repeat' (first | (with_reducible exact Below.refl _ _) | (with_reducible assumption) | (with_reducible refine Below.alloc ?_ ?_ _) | (with_reducible refine Below.setCell ?_ ?_ _) | (with_reducible refine Below.drew ?_) | (with_reducible refine below_drewN ?_ _) | (with_reducible refine below_via ?_ (by with_reducible assumption) ?_) | omega | (simp; done) | (simp; omega))))).mono ?_); rintro e w1 ⟨v1, rfl, hown1, hb1⟩; obtain ⟨A2, c2, hv2, hrs2, _⟩ := hown1.rs; (rw [List.length_map] at hv2); subst hv2; have HS2 := Lib.hid hrs2.rd; clear hown1 hrs2; obtain ⟨fc1, fg1, hc1, hf1, hz1⟩ := bget hb1; (try simp at hz1)) | (go_at_call 26; (with_reducible refine (CS.out _ _ _ (HS2.out.keep (by (repeat' (first | (with_reducible exact Below.refl _ _) | (with_reducible assumption) | (with_reducible refine Below.alloc ?_ ?_ _) | (with_reducible refine Below.setCell ?_ ?_ _) | (with_reducible refine Below.drew ?_) | (with_reducible refine below_drewN ?_ _) | (with_reducible refine below_via ?_ (by with_reducible assumption) ?_) | omega | (simp; done) | (simp; omega)))))).mono ?_); rintro e w3 ⟨rfl, hb3⟩; obtain ⟨fc3, fg3, hc3, hf3, hz3⟩ := bget hb3; (try simp at hz3)) | fail)
    go_ret2
    exact ⟨rfl, by (repeat' (first | (with_reducible exact Below.refl _ _) | (with_reducible assumption) | (with_reducible refine Below.alloc ?_ ?_ _) | (with_reducible refine Below.setCell ?_ ?_ _) | (with_reducible refine Below.drew ?_) | (with_reducible refine below_drewN ?_ _) | (with_reducible refine below_via ?_ (by with_reducible assumption) ?_) | omega | (simp; done) | (simp; omega)))⟩
  · have HC := Lib.hid (show worC ats l = vaC worthE ats l from by unfold worC; rw [if_neg h0])
    have HN := Lib.hid (show worN ats l = 0 from by unfold worN; rw [if_neg h0])
    rw [HC.out, HN.out]
    have n0 : (vaC worthE ats l != 0) = true := by simpa using h0
    have n1 : (vaC worthE ats l == 0) = false := by simpa using h0
    have CV := Lib.hid cv
    clear cv h0 HC HN
    generalize vaC worthE ats l = code at *
    go_enter Tryz.func20, Tryz.ntmps20
    go_wp2_with (first | (go_at_call 43; (with_reducible refine (CV.out _ (by (repeat' (first | (with_reducible exact Below.refl _ _) | (with_reducible assumption) | (with_reducible refine Below.alloc ?_ ?_ _) | (with_reducible refine Below.setCell ?_ ?_ _) | (with_reducible refine Below.drew ?_) | (with_reducible refine below_drewN ?_ _) | (with_reducible refine below_via ?_ (by with_reducible assumption) ?_) | omega | (simp; done) | (simp; omega))))).mono ?_); rintro e w1 ⟨v1, rfl, hown1, hb1⟩; have HO1 := Lib.hid hown1; clear hown1; obtain ⟨fc1, fg1, hc1, hf1, hz1⟩ := bget hb1; (try simp at hz1)) | fail)
    go_ret2
    exact ⟨rfl, by (repeat' (first | (with_reducible exact Below.refl _ _) | (with_reducible assumption) | (with_reducible refine Below.alloc ?_ ?_ _) | (with_reducible refine Below.setCell ?_ ?_ _) | (with_reducible refine Below.drew ?_) | (with_reducible refine below_drewN ?_ _) | (with_reducible refine below_via ?_ (by with_reducible assumption) ?_) | omega | (simp; done) | (simp; omega)))⟩
end Go.Proofs.YtalgfpegaobacaaGreat

/- Units as elements of a row. -/
namespace Go.Proofs.YtalgfpegaobacaaGreat
open Go.RowKit
theorem elUn : Elem Tryz.prog 37 41 2 16 := elem_of Tryz.underlying37 (z := .agg #[.int .i64 0, .int .i64 0]) (by kernel_rfl) rfl (by omega)
end Go.Proofs.YtalgfpegaobacaaGreat

/- Accounts: contracts of acct.most, Check, Units, Has, Less. -/
namespace Go.Proofs.YtalgfpegaobacaaGreat
open Go.RowKit
theorem rd_lit {w : World} {b : Nat} {u v : Value} (hb : b < w.heap.size) (h0 : w.cell? ⟨b, 0, none⟩ = some u) (h1 : w.cell? ⟨b, 1, none⟩ = some v) : Rs w 2 [[u, v]] (some ⟨b, 0, none⟩) 1 := by
  refine ⟨fun i r hr => ?_, by simp, by unfold maxLen; omega, fun h => by cases h⟩
  match i, hr with
  | 0, hr =>
    simp at hr
    subst hr
    refine ⟨b, 0, rfl, hb, fun j z hz => ?_⟩
    match j with
    | 0 => simp at hz; subst hz; simpa using h0
    | 1 => simp at hz; subst hz; simpa using h1
    | j + 2 => simp at hz
set_option maxRecDepth 100000 in
set_option maxHeartbeats 8000000 in
theorem acctUnits (x : Acct) (A : Option Addr) (c : Nat) (w : World) (hl : x.clients.length ≤ 1048576) (hr : Rd w A 1 (x.clients.map encI)) :
    Calls Tryz.prog 52 #[.agg #[.int .i64 x.id, .int .i64 x.member, .int .i64 x.kind, .slice A x.clients.length c]] w fun e w' => ∃ v, e = .returned v ∧ IsSl 2 encUn w' v (unitsA x) ∧ Below w.heap.size w w' := by
  have HR := Lib.hid hr
  clear hr
  by_cases hk1 : x.kind = 1
  · have b1 : (x.kind == 1) = true := by simpa using hk1
    have HU := Lib.hid (show unitsA x = [⟨x.id, 0⟩] from if_pos hk1)
    clear hk1
    go_enter Tryz.func52, Tryz.ntmps52
    go_wp2_with (fail)
    go_ret
    refine ⟨_, rfl, ?_, by (repeat' (first | (with_reducible exact Below.refl _ _) | (with_reducible assumption) | (with_reducible refine Below.alloc ?_ ?_ _) | (with_reducible refine Below.setCell ?_ ?_ _) | (with_reducible refine Below.drew ?_) | (with_reducible refine below_drewN ?_ _) | (with_reducible refine below_via ?_ (by with_reducible assumption) ?_) | omega | (simp; done) | (simp; omega)))⟩
    rw [HU.out]
    exact ⟨_, _, rfl, rd_lit (by simp) (by simp [go_sem]) (by simp [go_sem])⟩
  · have b1 : (x.kind == 1) = false := by simpa using hk1
    have HU := Lib.hid (show unitsA x = x.clients.map (fun c => ⟨x.id, c⟩) from if_neg hk1)
    clear hk1
    go_enter Tryz.func52, Tryz.ntmps52
    go_wp2_with (fail)
    go_loopw [3, 16] (fun v i wr => ∃ k : Nat, k ≤ x.clients.length ∧ i = .int .i64 k ∧ Own wr (w.heap.size + 1) 41 2 v (((x.clients.take k).map (fun c => (⟨x.id, c⟩ : Un))).map encUn) ∧ Below w.heap.size w wr ∧ w.heap.size < wr.heap.size ∧ wr.cell? ⟨w.heap.size, 0, none⟩ = some (.int .i64 x.id)) (fun _ i _ => x.clients.length - (intOf i).toNat)
    case atStart => exact ⟨0, Nat.zero_le _, rfl, Own.nil _ _ _ _, by (repeat' (first | (with_reducible exact Below.refl _ _) | (with_reducible assumption) | (with_reducible refine Below.alloc ?_ ?_ _) | (with_reducible refine Below.setCell ?_ ?_ _) | (with_reducible refine Below.drew ?_) | (with_reducible refine below_drewN ?_ _) | (with_reducible refine below_via ?_ (by with_reducible assumption) ?_) | omega | (simp; done) | (simp; omega))), by simp, by simp [go_sem]⟩
    case round =>
      obtain ⟨k, hk, rfl, hown, hbl, hsz, h0⟩ := hrel
      have Hown := Lib.hid hown
      have Hbl := Lib.hid hbl
      have hz := hbl.size
      clear hown hbl
      by_cases hlt : k < x.clients.length
      · have kl : (k : Int) < (x.clients.length : Int) := by omega
        have dl : decide ((k : Int) < (x.clients.length : Int)) = true := by simpa using hlt
        obtain ⟨b, o, rfl, hb, hc⟩ := HR.out k (encI x.clients[k]) (by simp [hlt])
        have e0 := (Hbl.out.cell (p := ⟨b, o + k * 1 + 0, none⟩) hb).trans (hc 0 _ rfl)
        simp only [Nat.add_zero, Nat.mul_one] at e0
        have HS := Lib.hid (map_snoc hlt (fun c => (⟨x.id, c⟩ : Un)))
        clear hc
        go_wp2_with (first | (at_builtin; refine wpList_app rfl _ _ _ rfl elUn (w.heap.size + 1) _ _ rfl (Hown.out.alloc _) (some ⟨_, 0, none⟩) 1 1 rfl [encUn ⟨x.id, x.clients[k]⟩] rfl (fun h => by cases h) (rd_oneN (by simp)) (rowsUn [⟨x.id, x.clients[k]⟩]) (by unfold maxLen; first | (simp; done) | omega | (simp; omega)) (by first | (simp; done) | omega | (simp; omega)) (by first | omega | (simp; done) | (simp; omega)) ?_; intro v3 w3 hown3 hb3) | fail)
        go_roundw
        case rel => exact ⟨k + 1, by omega, by go_num, by rw [HS.out, List.map_append]; exact hown3, (Hbl.out.alloc hz _).trans (hb3.mono (by omega)), by have := hb3.size; simp at this; omega, by rw [hb3.cell (p := ⟨w.heap.size, 0, none⟩) (by simp)]; simp [go_sem, h0, hsz]⟩
        case measure => simp [intOf]; omega
      · have dl : decide ((k : Int) < (x.clients.length : Int)) = false := by simpa using hlt
        have HT := Lib.hid (show x.clients.take k = x.clients from List.take_of_length_le (by omega))
        go_wp2_with (fail)
        go_ret
        refine ⟨_, rfl, ?_, Hbl.out⟩
        rw [HU.out]
        have := Hown.out
        rw [HT.out] at this
        exact this.isSl
end Go.Proofs.YtalgfpegaobacaaGreat

/- Accounts: contracts of acct.Has, slices.Index, BinarySearch of whole numbers, Clone, Insert. -/
namespace Go.Proofs.YtalgfpegaobacaaGreat
open Go.RowKit
theorem un_test {x u : Un} : x = u ∨ ((x.acc == u.acc) = false) ∨ ((x.cli == u.cli) = false) := by
  by_cases h : x = u
  · exact .inl h
  · exact .inr (neqUn h)
set_option maxRecDepth 100000 in
set_option maxHeartbeats 4000000 in
theorem unIndex (l : List Un) (u : Un) (A : Option Addr) (c : Nat) (w : World) (hl : l.length ≤ 1099511627776) (hr : Rd w A 2 (l.map encUn)) :
    Calls Tryz.prog 81 #[.slice A l.length c, .agg #[.int .i64 u.acc, .int .i64 u.cli]] w fun e w' => e = .returned (.int .i64 (idxOf (fun x : Un => decide (u = x)) l)) ∧ Below w.heap.size w w' := by
  have HR := Lib.hid hr
  clear hr
  go_enter Tryz.func81, Tryz.ntmps81
  go_wp2_with fail
  go_loopw [8] (fun i wr => ∃ k : Nat, k ≤ l.length ∧ i = .int .i64 k ∧ Below w.heap.size w wr ∧ w.heap.size < wr.heap.size ∧ (wr.cell? ⟨w.heap.size, 0, none⟩ = some (.int .i64 u.acc) ∧ wr.cell? ⟨w.heap.size, 1, none⟩ = some (.int .i64 u.cli)) ∧ ∀ j (_ : j < l.length), j < k → (fun x : Un => decide (u = x)) l[j] = false) (fun i _ => l.length - (intOf i).toNat)
  case atStart => exact ⟨0, Nat.zero_le _, rfl, by (repeat' (first | (with_reducible exact Below.refl _ _) | (with_reducible assumption) | (with_reducible refine Below.alloc ?_ ?_ _) | (with_reducible refine Below.setCell ?_ ?_ _) | (with_reducible refine Below.drew ?_) | (with_reducible refine below_drewN ?_ _) | (with_reducible refine below_via ?_ (by with_reducible assumption) ?_) | omega | (simp; done) | (simp; omega))), by simp, by simp [go_sem], fun j _ h => absurd h (by omega)⟩
  case round =>
    obtain ⟨k, hk, rfl, hbl, hsz, ⟨g0, g1⟩, hno⟩ := hrel
    have Hbl := Lib.hid hbl
    have Hno := Lib.hid hno
    have hz := hbl.size
    clear hbl hno
    by_cases hlt : k < l.length
    · have kl : (k : Int) < (l.length : Int) := by omega
      have dl : decide ((k : Int) < (l.length : Int)) = true := by simpa using hlt
      obtain ⟨b, o, rfl, hb, hc⟩ := HR.out k (encUn l[k]) (by simp [hlt])
      have c0 := (Hbl.out.cell (p := ⟨b, o + k * 2 + 0, none⟩) hb).trans (hc 0 _ rfl)
      have c1 := (Hbl.out.cell (p := ⟨b, o + k * 2 + 1, none⟩) hb).trans (hc 1 _ rfl)
      simp only [Nat.add_zero] at c0
      clear hc
      rcases un_test (x := u) (u := l[k]) with he | he | he
      · have hi := idx_hit (p := fun x : Un => decide (u = x)) hlt (by simpa using he) Hno.out
        have Hi := Lib.hid hi
        rw [← he] at c0 c1
        clear hi he
        go_wp2_with fail
        go_quiet (fail)
        go_wp2_with fail
        go_ret
        exact ⟨by rw [Hi.out]; rfl, by have hbl := Hbl.out; (repeat' (first | (with_reducible exact Below.refl _ _) | (with_reducible assumption) | (with_reducible refine Below.alloc ?_ ?_ _) | (with_reducible refine Below.setCell ?_ ?_ _) | (with_reducible refine Below.drew ?_) | (with_reducible refine below_drewN ?_ _) | (with_reducible refine below_via ?_ (by with_reducible assumption) ?_) | omega | (simp; done) | (simp; omega)))⟩
      all_goals
        have Hm := Lib.hid (decide_eq_false (show ¬ u = l[k] from by intro e; rw [e] at he; simp at he))
        go_wp2_with fail
        go_quiet (fail)
        go_wp2_with fail
        go_roundw
        case rel => exact ⟨k + 1, by omega, by go_num, by have hbl := Hbl.out; (repeat' (first | (with_reducible exact Below.refl _ _) | (with_reducible assumption) | (with_reducible refine Below.alloc ?_ ?_ _) | (with_reducible refine Below.setCell ?_ ?_ _) | (with_reducible refine Below.drew ?_) | (with_reducible refine below_drewN ?_ _) | (with_reducible refine below_via ?_ (by with_reducible assumption) ?_) | omega | (simp; done) | (simp; omega))), by simpa using hsz, by simp [go_sem, g0, g1], fun j hj h => by
          rcases Nat.lt_or_ge j k with h1 | h1
          · exact Hno.out j hj h1
          · obtain rfl : j = k := by omega
            exact Hm.out⟩
        case measure => simp [intOf]; omega
    · have dl : decide ((k : Int) < (l.length : Int)) = false := by simpa using hlt
      have hi := idx_miss (p := fun x : Un => decide (u = x)) (l := l) (fun j hj => Hno.out j hj (by omega))
      have Hi := Lib.hid hi
      clear hi
      go_wp2_with fail
      go_ret
      exact ⟨by rw [Hi.out]; rfl, Hbl.out⟩
theorem idx_un (l : List Un) (u : Un) : decide (0 ≤ idxOf (fun x : Un => decide (u = x)) l) = decide (u ∈ l) := by
  unfold idxOf
  cases h : l.findIdx? (fun x : Un => decide (u = x)) with
  | none =>
    rw [List.findIdx?_eq_none_iff] at h
    have : ¬ u ∈ l := fun hu => by have := h u hu; simp at this
    simp [this]
  | some k =>
    rw [List.findIdx?_eq_some_iff_getElem] at h
    obtain ⟨hk, h1, _⟩ := h
    have : u ∈ l := by have e : u = l[k] := by simpa using h1
                       rw [e]; exact List.getElem_mem hk
    simp [this]
set_option maxRecDepth 100000 in
set_option maxHeartbeats 1000000 in
theorem unContains (l : List Un) (u : Un) (A : Option Addr) (c : Nat) (w : World) (hl : l.length ≤ 1099511627776) (hr : Rd w A 2 (l.map encUn)) :
    Calls Tryz.prog 49 #[.slice A l.length c, .agg #[.int .i64 u.acc, .int .i64 u.cli]] w fun e w' => e = .returned (.bool (decide (u ∈ l))) ∧ Below w.heap.size w w' := by
  have HR := Lib.hid hr
  have HI := Lib.hid (idx_un l u)
  clear hr
  go_enter Tryz.func49, Tryz.ntmps49
  go_wp2_with (go_at_call 81; (with_reducible refine (unIndex l u A c _ hl (HR.out.keep (by (repeat' (first | (with_reducible exact Below.refl _ _) | (with_reducible assumption) | (with_reducible refine Below.alloc ?_ ?_ _) | (with_reducible refine Below.setCell ?_ ?_ _) | (with_reducible refine Below.drew ?_) | (with_reducible refine below_drewN ?_ _) | (with_reducible refine below_via ?_ (by with_reducible assumption) ?_) | omega | (simp; done) | (simp; omega)))))).mono ?_); rintro e w1 ⟨rfl, hb1⟩; obtain ⟨fc1, fg1, hc1, hf1, hz1⟩ := bget hb1; try simp at hz1)
  go_ret
  exact ⟨by rw [← HI.out]; rfl, by (repeat' (first | (with_reducible exact Below.refl _ _) | (with_reducible assumption) | (with_reducible refine Below.alloc ?_ ?_ _) | (with_reducible refine Below.setCell ?_ ?_ _) | (with_reducible refine Below.drew ?_) | (with_reducible refine below_drewN ?_ _) | (with_reducible refine below_via ?_ (by with_reducible assumption) ?_) | omega | (simp; done) | (simp; omega)))⟩
end Go.Proofs.YtalgfpegaobacaaGreat
