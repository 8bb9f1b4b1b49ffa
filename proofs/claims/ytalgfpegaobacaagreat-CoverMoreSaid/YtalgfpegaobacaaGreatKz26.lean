/- Joined: Pur3, Ref15a. -/
import Derived.Test.YtalgfpegaobacaaGreatKz25
import Derived.Test.YtalgfpegaobacaaGreatKz5
import Derived.Test.YtalgfpegaobacaaGreatKz8
import Derived.Test.YtalgfpegaobacaaGreatKz13
/- Purses: contract of the reference's Pay. -/
namespace Go.Proofs.YtalgfpegaobacaaGreat
open Go.RowKit
theorem isBig_nilP {w : World} : IsBig w 0 false none [] 0 := ⟨fun i r hr => by simp at hr, bit_nil, top_nil, rfl, by simp, by simp, rfl⟩
theorem sumPu_snoc {l : List Flow} {k : Nat} (h : k < l.length) (u : Un) : sumPu (l.take (k + 1)) u = sumPu (l.take k) u + (if l[k].unit = u then l[k].amount else 0) := by
  rw [List.take_succ_eq_append_getElem h, sumPu_app]
  by_cases hk : l[k].unit = u
  · rw [if_pos hk, sumPu_hit hk]
    show _ + (l[k].amount + 0) = _
    omega
  · rw [if_neg hk, sumPu_miss hk]; rfl
set_option maxRecDepth 100000 in
set_option maxHeartbeats 64000000 in
theorem ref17Pay (L fs : List Flow) (A B : Option Addr) (c d : Nat) (w : World) (hL : L.length ≤ 400) (hf : fs.length ≤ 100) (h64 : ∀ x ∈ L ++ fs, In64 x.amount) (hr : Rs w 3 (L.map encFlow) A c) (hrf : Rs w 3 (fs.map encFlow) B d) :
    Calls Tryz.prog 11 #[.slice A L.length c, .slice B fs.length d] w fun e w' => ∃ v, e = .returned (.tuple #[v, .int .i64 (payC L fs)]) ∧ Own w' w.heap.size 50 3 v ((payL L fs).map encFlow) ∧ Below w.heap.size w w' := by
  have HR := Lib.hid hr
  have HF := Lib.hid hrf
  have H64 := Lib.hid h64
  have ci := fun W (h : Below w.heap.size w W) => ref17Is L A c W (by omega) (hr.rd.keep h)
  have HP := Lib.hid (show payL L fs = if payC L fs = 0 then rowsPu (L ++ fs) (unitsP (L ++ fs)) else [] from rfl)
  have hpc : payC L fs = if isPu L then firstC (payF (L ++ fs)) (unitsP (L ++ fs)) else 3 := rfl
  have hyl : (L ++ fs).length ≤ 500 := by rw [List.length_append]; omega
  have hul := unitsP_len (L ++ fs)
  have HYE := Lib.hid (show L.map encFlow ++ fs.map encFlow = (L ++ fs).map encFlow from (List.map_append).symm)
  generalize payL L fs = RL at *
  generalize payC L fs = RC at *
  clear hr hrf h64
  cases hi : isPu L
  · rw [hi] at ci hpc
    have CI := Lib.hid ci
    have HC := Lib.hid (show RC = 3 from hpc)
    clear ci hi hpc
    go_enter Tryz.func11, Tryz.ntmps11
    go_wp2_with (first | (go_at_call 31; (with_reducible refine (CI.out _ (by (repeat' (first | (with_reducible exact Below.refl _ _) | (with_reducible assumption) | (with_reducible refine Below.alloc ?_ ?_ _) | (with_reducible refine Below.setCell ?_ ?_ _) | (with_reducible refine Below.drew ?_) | (with_reducible refine below_drewN ?_ _) | (with_reducible refine below_via ?_ (by with_reducible assumption) ?_) | omega | (simp; done) | (simp; omega))))).mono ?_); rintro e w1 ⟨rfl, hb1⟩; obtain ⟨fc1, fg1, hc1, hf1, hz1⟩ := bget hb1; (try simp at hz1)) | fail)
    go_ret2
    exact ⟨_, by rw [HC.out]; rfl, by rw [HP.out, HC.out]; exact Own.nil _ _ _ _, by (repeat' (first | (with_reducible exact Below.refl _ _) | (with_reducible assumption) | (with_reducible refine Below.alloc ?_ ?_ _) | (with_reducible refine Below.setCell ?_ ?_ _) | (with_reducible refine Below.drew ?_) | (with_reducible refine below_drewN ?_ _) | (with_reducible refine below_via ?_ (by with_reducible assumption) ?_) | omega | (simp; done) | (simp; omega)))⟩
  rw [hi, if_pos rfl] at hpc
  rw [hi] at ci
  have CI := Lib.hid ci
  have HC := Lib.hid hpc
  have CU := Lib.hid (fun A1 c1 W (h : Rd W A1 3 ((L ++ fs).map encFlow)) => ref17Units (L ++ fs) A1 c1 W (by omega) h)
  clear ci hi hpc
  generalize hYe : L ++ fs = Y at *
  clear hYe
  generalize unitsP Y = us at *
  go_enter Tryz.func11, Tryz.ntmps11
  go_wp2_with (first | (go_at_call 31; (with_reducible refine (CI.out _ (by (repeat' (first | (with_reducible exact Below.refl _ _) | (with_reducible assumption) | (with_reducible refine Below.alloc ?_ ?_ _) | (with_reducible refine Below.setCell ?_ ?_ _) | (with_reducible refine Below.drew ?_) | (with_reducible refine below_drewN ?_ _) | (with_reducible refine below_via ?_ (by with_reducible assumption) ?_) | omega | (simp; done) | (simp; omega))))).mono ?_); rintro e w1 ⟨rfl, hb1⟩; obtain ⟨fc1, fg1, hc1, hf1, hz1⟩ := bget hb1; (try simp at hz1)) | (at_builtin; refine wpList_app rfl _ _ _ rfl elFlow w.heap.size _ [] rfl (Own.nil _ _ _ _) A L.length c rfl (L.map encFlow) (by simp) HR.out.nil (HR.out.rd.keep (by (repeat' (first | (with_reducible exact Below.refl _ _) | (with_reducible assumption) | (with_reducible refine Below.alloc ?_ ?_ _) | (with_reducible refine Below.setCell ?_ ?_ _) | (with_reducible refine Below.drew ?_) | (with_reducible refine below_drewN ?_ _) | (with_reducible refine below_via ?_ (by with_reducible assumption) ?_) | omega | (simp; done) | (simp; omega))))) (rowsFlow _) (by unfold maxLen; simp; omega) (by simp; omega) (by first | omega | (simp; done) | (simp; omega)) ?_; intro v2 w2 hown2 hb2; (rw [List.nil_append] at hown2); obtain ⟨fc2, fg2, hc2, hf2, hz2⟩ := bget hb2; (try simp at hz2)) | (at_builtin; refine wpList_app rfl _ _ _ rfl elFlow w.heap.size _ _ rfl hown2 B fs.length d rfl (fs.map encFlow) (by simp) HF.out.nil (HF.out.rd.keep (by (repeat' (first | (with_reducible exact Below.refl _ _) | (with_reducible assumption) | (with_reducible refine Below.alloc ?_ ?_ _) | (with_reducible refine Below.setCell ?_ ?_ _) | (with_reducible refine Below.drew ?_) | (with_reducible refine below_drewN ?_ _) | (with_reducible refine below_via ?_ (by with_reducible assumption) ?_) | omega | (simp; done) | (simp; omega))))) (rowsFlow _) (by unfold maxLen; simp; omega) (by simp; omega) (by first | omega | (simp; done) | (simp; omega)) ?_; intro v3 w3 hown3 hb3; (rw [HYE.out] at hown3); obtain ⟨A3, c3, hv3, hrs3, _⟩ := hown3.rs; (rw [List.length_map] at hv3); subst hv3; have H3 := Lib.hid hrs3; clear hown3 hrs3; obtain ⟨fc3, fg3, hc3, hf3, hz3⟩ := bget hb3; (try simp at hz3)) | (go_at_call 32; (with_reducible refine (CU.out _ _ _ (H3.out.rd.keep (by (repeat' (first | (with_reducible exact Below.refl _ _) | (with_reducible assumption) | (with_reducible refine Below.alloc ?_ ?_ _) | (with_reducible refine Below.setCell ?_ ?_ _) | (with_reducible refine Below.drew ?_) | (with_reducible refine below_drewN ?_ _) | (with_reducible refine below_via ?_ (by with_reducible assumption) ?_) | omega | (simp; done) | (simp; omega)))))).mono ?_); rintro e w4 ⟨A4, c4, rfl, hrs4, hb4⟩; have H4 := Lib.hid hrs4; clear hrs4; obtain ⟨fc4, fg4, hc4, hf4, hz4⟩ := bget hb4; (try simp at hz4)) | fail)
  have HY := Lib.hid (H3.out.keep hb4)
  have Hw4 := Lib.hid (show Below w.heap.size w w4 by (repeat' (first | (with_reducible exact Below.refl _ _) | (with_reducible assumption) | (with_reducible refine Below.alloc ?_ ?_ _) | (with_reducible refine Below.setCell ?_ ?_ _) | (with_reducible refine Below.drew ?_) | (with_reducible refine below_drewN ?_ _) | (with_reducible refine below_via ?_ (by with_reducible assumption) ?_) | omega | (simp; done) | (simp; omega))))
  have hw4 := Hw4.out.size
  clear hc1 hf1 hb1 hc2 hf2 hb2 hc3 hf3 hb3 hc4 hf4 hb4 hown2
  generalize w4 = wo at *
  go_loopw [7, 9] (fun v i wr => ∃ k : Nat, k ≤ us.length ∧ i = .int .i64 k ∧ firstC (payF Y) us = firstC (payF Y) (us.drop k) ∧ Own wr wo.heap.size 50 3 v ((rowsPu Y (us.take k)).map encFlow) ∧ Below wo.heap.size wo wr) (fun _ i _ => us.length - (intOf i).toNat)
  case atStart => exact ⟨0, Nat.zero_le _, rfl, rfl, Own.nil _ _ _ _, Below.refl _ _⟩
  case round =>
    obtain ⟨i, hi, rfl, hv, hown, hbl⟩ := hrel
    have HV := Lib.hid hv
    have Hown := Lib.hid hown
    have Hbl1 := Lib.hid hbl
    have hz1 := hbl.size
    clear hv hown hbl
    by_cases hlt1 : i < us.length
    · have kl : (i : Int) < (us.length : Int) := by omega
      have dl : decide ((i : Int) < (us.length : Int)) = true := by simpa using hlt1
      obtain ⟨b2, o2, rfl, hb2, hc2⟩ := H4.out.rd i (encUn us[i]) (by simp [hlt1])
      have HUC := Lib.hid (And.intro (hc2 0 _ rfl) (hc2 1 _ rfl))
      clear hc2
      have HD := Lib.hid (drop_cons' hlt1)
      have HSN := Lib.hid (rowsPu_snoc Y hlt1)
      have hrl := rowsPu_len Y (us.take i)
      rw [List.length_take] at hrl
      generalize us[i] = u at *
      go_wp2_with fail
      have hwz : (wr.alloc (.cells #[.bool false, .slice none 0 0] 81)).heap.size = wr.heap.size + 1 := by simp
      have Hwo := Lib.hid (show Below wr.heap.size wr (wr.alloc (.cells #[.bool false, .slice none 0 0] 81)) by (repeat' (first | (with_reducible exact Below.refl _ _) | (with_reducible assumption) | (with_reducible refine Below.alloc ?_ ?_ _) | (with_reducible refine Below.setCell ?_ ?_ _) | (with_reducible refine Below.drew ?_) | (with_reducible refine below_drewN ?_ _) | (with_reducible refine below_via ?_ (by with_reducible assumption) ?_) | omega | (simp; done) | (simp; omega))))
      have HK := Lib.hid (Blk.new wr 81 #[.bool false, .slice none 0 0])
      generalize hwqe : wr.alloc (.cells #[.bool false, .slice none 0 0] 81) = wq at *
      have hgq : wr.heap.size < wq.heap.size := by omega
      clear hwqe hwz
      generalize hgue : wr.heap.size = g at *
      have hgu := Nat.le_of_eq hgue
      have hgv := Nat.le_of_eq hgue.symm
      clear hgue
      go_loopw [11] (fun j w2 => ∃ (k : Nat) (s5 : Bool) (A5 : Option Addr) (l5 : List Int) (c5 : Nat), k ≤ Y.length ∧ j = .int .i64 k ∧ IsBig w2 (sumPu (Y.take k) u) s5 A5 l5 c5 ∧ l5.length ≤ 65 + k ∧ Blk w2 g 81 #[.bool s5, .slice A5 l5.length c5] ∧ Below g wq w2) (fun j _ => Y.length - (intOf j).toNat)
      case atStart => exact ⟨0, false, none, [], 0, Nat.zero_le _, rfl, isBig_nilP, by simp, HK.out, Below.refl _ _⟩
      case round =>
        obtain ⟨k, s5, A5, l5, c5, hk, rfl, hB5, hl5, hbk, hbl⟩ := hrel
        have hz := hbl.size
        have b0 := hbk.cell 0
        have b1 := hbk.cell 1
        have z0 := hbk.frozen 0
        have z1 := hbk.frozen 1
        have ug := hbk.lt
        simp [go_sem] at b0 b1
        have HB5 := Lib.hid hB5
        have Hbk := Lib.hid hbk
        have HGW := Lib.hid (Hwo.out.trans hbl)
        have HGQ := Lib.hid hbl
        have HWY := Lib.hid (Hbl1.out.trans ((Hwo.out.trans hbl).mono hz1))
        have c0 := (HWY.out.cell (p := ⟨b2, o2 + i * 2 + 0, none⟩) hb2).trans HUC.out.1
        have c1 := (HWY.out.cell (p := ⟨b2, o2 + i * 2 + 1, none⟩) hb2).trans HUC.out.2
        simp only [Nat.add_zero] at c0
        have hb2w : b2 < wr.heap.size := by omega
        clear hB5 hbk hbl
        by_cases hlt : k < Y.length
        · have dl2 : decide ((k : Int) < (Y.length : Int)) = true := by simpa using hlt
          have kl2 : (k : Int) < (Y.length : Int) := by omega
          obtain ⟨b, o, rfl, hb, hc⟩ := HY.out.rd k (encFlow Y[k]) (by simp [hlt])
          have hbw : b < wr.heap.size := by omega
          have e0 := (HWY.out.cell (p := ⟨b, o + k * 3 + 0, none⟩) hb).trans (hc 0 _ rfl)
          have e1 := (HWY.out.cell (p := ⟨b, o + k * 3 + 1, none⟩) hb).trans (hc 1 _ rfl)
          have e2 := (HWY.out.cell (p := ⟨b, o + k * 3 + 2, none⟩) hb).trans (hc 2 _ rfl)
          simp only [Nat.add_zero] at e0
          clear hc
          have hq := H64.out Y[k] (List.getElem_mem hlt)
          have hsn := sumPu_snoc hlt u
          generalize sumPu (Y.take k) u = sm at *
          rcases un_tF (x := Y[k].unit) (u := u) with h | h
          · have HS := Lib.hid (show sumPu (Y.take (k + 1)) u = sm + Y[k].amount from by rw [hsn, if_pos h])
            rw [h] at e0 e1
            clear hsn h
            go_wp2_with fail
            go_quiet (fail)
            go_wp2_with fail
            go_region_with (first | (go_at_call 34; (with_reducible refine (bigOf Y[k].amount _ hq).mono ?_); rintro e w7 ⟨s7, A7, l7, c7, rfl, hB7, hl7, hb7⟩; have HB7 := Lib.hid hB7; clear hB7; obtain ⟨fc7, fg7, hc7, hf7, hz7⟩ := bget hb7; (try simp at hz7)) | (go_at_call 33; (with_reducible refine (bigAdd sm Y[k].amount s5 s7 l5 l7 A5 A7 c5 c7 (65 + k) _ (by omega) (by omega) (by omega) (HB5.out.keep (by (repeat' (first | (with_reducible exact Below.refl _ _) | (with_reducible assumption) | (with_reducible refine Below.alloc ?_ ?_ _) | (with_reducible refine Below.setCell ?_ ?_ _) | (with_reducible refine Below.drew ?_) | (with_reducible refine below_drewN ?_ _) | (with_reducible refine below_via ?_ (by with_reducible assumption) ?_) | omega | (simp; done) | (simp; omega))))) (HB7.out.keep (by (repeat' (first | (with_reducible exact Below.refl _ _) | (with_reducible assumption) | (with_reducible refine Below.alloc ?_ ?_ _) | (with_reducible refine Below.setCell ?_ ?_ _) | (with_reducible refine Below.drew ?_) | (with_reducible refine below_drewN ?_ _) | (with_reducible refine below_via ?_ (by with_reducible assumption) ?_) | omega | (simp; done) | (simp; omega)))))).mono ?_); rintro e w8 ⟨s8, A8, l8, c8, rfl, hB8, hl8, hb8⟩; have HB8 := Lib.hid hB8; clear hB8; obtain ⟨fc8, fg8, hc8, hf8, hz8⟩ := bget hb8; (try simp at hz8)) | fail)
            all_goals
              go_wp2_with fail
              go_roundw
              case rel =>
                have h8 : Below wr.heap.size wr w8 := by (repeat' (first | (with_reducible exact Below.refl _ _) | (with_reducible assumption) | (with_reducible refine Below.alloc ?_ ?_ _) | (with_reducible refine Below.setCell ?_ ?_ _) | (with_reducible refine Below.drew ?_) | (with_reducible refine below_drewN ?_ _) | (with_reducible refine below_via ?_ (by with_reducible assumption) ?_) | omega | (simp; done) | (simp; omega)))
                have t0 : w8.cell? ⟨g, 0, none⟩ = some (.bool s5) := (h8.cell (p := ⟨g, 0, none⟩) ug).trans b0
                have t1 : w8.cell? ⟨g, 1, none⟩ = some (.slice A5 l5.length c5) := (h8.cell (p := ⟨g, 1, none⟩) ug).trans b1
                refine ⟨k + 1, s8, A8, l8, c8, by omega, by go_num, ?_, by omega, ?_, ?_⟩
                · rw [HS.out]
                  exact (HB8.out.far t0 (by simp) _).far ((World.cell?_setCell_other _ _ _ _ (by simp)).trans t1) (by simp) _
                · have h5 := ((Hbk.out.below h8 ug).set 0 (.bool s8)).set 1 (.slice A8 l8.length c8)
                  simpa using h5
                · have h := HGQ.out
                  (repeat' (first | (with_reducible exact Below.refl _ _) | (with_reducible assumption) | (with_reducible refine Below.alloc ?_ ?_ _) | (with_reducible refine Below.setCell ?_ ?_ _) | (with_reducible refine Below.drew ?_) | (with_reducible refine below_drewN ?_ _) | (with_reducible refine below_via ?_ (by with_reducible assumption) ?_) | omega | (simp; done) | (simp; omega)))
              case measure => (simp [intOf]; omega)
          · have HS := Lib.hid (show sumPu (Y.take (k + 1)) u = sm from by rw [hsn, if_neg (un_dF h)]; omega)
            clear hsn
            rcases h with h | h
            all_goals
              go_wp2_with fail
              go_quiet (fail)
              go_wp2_with fail
              go_roundw
              case rel => exact ⟨k + 1, s5, A5, l5, c5, by omega, by go_num, by rw [HS.out]; exact HB5.out.keep (by (repeat' (first | (with_reducible exact Below.refl _ _) | (with_reducible assumption) | (with_reducible refine Below.alloc ?_ ?_ _) | (with_reducible refine Below.setCell ?_ ?_ _) | (with_reducible refine Below.drew ?_) | (with_reducible refine below_drewN ?_ _) | (with_reducible refine below_via ?_ (by with_reducible assumption) ?_) | omega | (simp; done) | (simp; omega)))), by omega, Hbk.out.below (B := wr.heap.size) (by (repeat' (first | (with_reducible exact Below.refl _ _) | (with_reducible assumption) | (with_reducible refine Below.alloc ?_ ?_ _) | (with_reducible refine Below.setCell ?_ ?_ _) | (with_reducible refine Below.drew ?_) | (with_reducible refine below_drewN ?_ _) | (with_reducible refine below_via ?_ (by with_reducible assumption) ?_) | omega | (simp; done) | (simp; omega)))) ug, by have h := HGQ.out; (repeat' (first | (with_reducible exact Below.refl _ _) | (with_reducible assumption) | (with_reducible refine Below.alloc ?_ ?_ _) | (with_reducible refine Below.setCell ?_ ?_ _) | (with_reducible refine Below.drew ?_) | (with_reducible refine below_drewN ?_ _) | (with_reducible refine below_via ?_ (by with_reducible assumption) ?_) | omega | (simp; done) | (simp; omega)))⟩
              case measure => simp [intOf]; omega
        · have dl2 : decide ((k : Int) < (Y.length : Int)) = false := by simpa using hlt
          have hke : Y.take k = Y := List.take_of_length_le (by omega)
          rw [hke] at HB5
          have HPF := Lib.hid (show payF Y u = if in64 (sumPu Y u) then 0 else 7 from rfl)
          have HRP := Lib.hid (show rowPu Y u = if sumPu Y u = 0 then [] else [⟨u, sumPu Y u⟩] from rfl)
          clear hke
          generalize sumPu Y u = S at *
          cases h64 : in64 S
          · have HFT := Lib.hid h64
            have h7 : payF Y u = 7 := by rw [HPF.out, h64]; rfl
            have HZ := Lib.hid (show RC = 7 from by rw [HC.out, HV.out, HD.out, firstC_stop (by rw [h7]; decide), h7])
            clear h64 h7
            go_wp2_with (first | (go_at_call 35; (with_reducible refine (bigFits S s5 l5 A5 c5 1000 _ (by omega) (by omega) (HB5.out.keep (by (repeat' (first | (with_reducible exact Below.refl _ _) | (with_reducible assumption) | (with_reducible refine Below.alloc ?_ ?_ _) | (with_reducible refine Below.setCell ?_ ?_ _) | (with_reducible refine Below.drew ?_) | (with_reducible refine below_drewN ?_ _) | (with_reducible refine below_via ?_ (by with_reducible assumption) ?_) | omega | (simp; done) | (simp; omega)))))).mono ?_); rw [HFT.out]; rintro e w7 ⟨rfl, hb7⟩; obtain ⟨fc7, fg7, hc7, hf7, hz7⟩ := bget hb7; (try simp at hz7)) | fail)
            go_ret2
            exact ⟨_, by rw [HZ.out]; rfl, by rw [HP.out, HZ.out]; exact Own.nil _ _ _ _, by have h1 := HWY.out; have h2 := Hw4.out; (repeat' (first | (with_reducible exact Below.refl _ _) | (with_reducible assumption) | (with_reducible refine Below.alloc ?_ ?_ _) | (with_reducible refine Below.setCell ?_ ?_ _) | (with_reducible refine Below.drew ?_) | (with_reducible refine below_drewN ?_ _) | (with_reducible refine below_via ?_ (by with_reducible assumption) ?_) | omega | (simp; done) | (simp; omega)))⟩
          · have HFT := Lib.hid h64
            have h64i := in64_iff.1 h64
            have h7 : payF Y u = 0 := by rw [HPF.out, h64]; rfl
            have HN := Lib.hid (show firstC (payF Y) us = firstC (payF Y) (us.drop (i + 1)) from by rw [HV.out, HD.out, firstC_step h7])
            clear h64 h7
            by_cases hs0 : S = 0
            · have HRN := Lib.hid (show rowsPu Y (us.take (i + 1)) = rowsPu Y (us.take i) from by rw [HSN.out, HRP.out, if_pos hs0, List.append_nil])
              have d0 : (S != 0) = false := by simpa using hs0
              clear hs0
              go_wp2_with (first | (go_at_call 35; (with_reducible refine (bigFits S s5 l5 A5 c5 1000 _ (by omega) (by omega) (HB5.out.keep (by (repeat' (first | (with_reducible exact Below.refl _ _) | (with_reducible assumption) | (with_reducible refine Below.alloc ?_ ?_ _) | (with_reducible refine Below.setCell ?_ ?_ _) | (with_reducible refine Below.drew ?_) | (with_reducible refine below_drewN ?_ _) | (with_reducible refine below_via ?_ (by with_reducible assumption) ?_) | omega | (simp; done) | (simp; omega)))))).mono ?_); rw [HFT.out]; rintro e w7 ⟨rfl, hb7⟩; obtain ⟨fc7, fg7, hc7, hf7, hz7⟩ := bget hb7; (try simp at hz7)) | (go_at_call 36; (with_reducible refine (bigInt S s5 l5 A5 c5 _ (by omega) h64i (HB5.out.keep (by (repeat' (first | (with_reducible exact Below.refl _ _) | (with_reducible assumption) | (with_reducible refine Below.alloc ?_ ?_ _) | (with_reducible refine Below.setCell ?_ ?_ _) | (with_reducible refine Below.drew ?_) | (with_reducible refine below_drewN ?_ _) | (with_reducible refine below_via ?_ (by with_reducible assumption) ?_) | omega | (simp; done) | (simp; omega)))))).mono ?_); rintro e w8 ⟨rfl, hb8⟩; obtain ⟨fc8, fg8, hc8, hf8, hz8⟩ := bget hb8; (try simp at hz8)) | fail)
              go_roundw
              case rel => exact ⟨i + 1, by omega, by go_num, HN.out, by rw [HRN.out]; exact Hown.out.keep (by have h1 := HGW.out.mono hgu; (repeat' (first | (with_reducible exact Below.refl _ _) | (with_reducible assumption) | (with_reducible refine Below.alloc ?_ ?_ _) | (with_reducible refine Below.setCell ?_ ?_ _) | (with_reducible refine Below.drew ?_) | (with_reducible refine below_drewN ?_ _) | (with_reducible refine below_via ?_ (by with_reducible assumption) ?_) | omega | (simp; done) | (simp; omega)))), by have h1 := HWY.out; (repeat' (first | (with_reducible exact Below.refl _ _) | (with_reducible assumption) | (with_reducible refine Below.alloc ?_ ?_ _) | (with_reducible refine Below.setCell ?_ ?_ _) | (with_reducible refine Below.drew ?_) | (with_reducible refine below_drewN ?_ _) | (with_reducible refine below_via ?_ (by with_reducible assumption) ?_) | omega | (simp; done) | (simp; omega)))⟩
              case measure => simp [intOf]; omega
            · have HRN := Lib.hid (show (rowsPu Y (us.take (i + 1))).map encFlow = (rowsPu Y (us.take i)).map encFlow ++ [encFlow ⟨u, S⟩] from by rw [HSN.out, HRP.out, if_neg hs0, List.map_append]; rfl)
              have d0 : (S != 0) = true := by simpa using hs0
              clear hs0
              have HO2 := Lib.hid (Hown.out.keep (HGW.out.mono hgu))
              generalize rowsPu Y (us.take i) = Z at *
              go_wp2_with (first | (go_at_call 35; (with_reducible refine (bigFits S s5 l5 A5 c5 1000 _ (by omega) (by omega) (HB5.out.keep (by (repeat' (first | (with_reducible exact Below.refl _ _) | (with_reducible assumption) | (with_reducible refine Below.alloc ?_ ?_ _) | (with_reducible refine Below.setCell ?_ ?_ _) | (with_reducible refine Below.drew ?_) | (with_reducible refine below_drewN ?_ _) | (with_reducible refine below_via ?_ (by with_reducible assumption) ?_) | omega | (simp; done) | (simp; omega)))))).mono ?_); rw [HFT.out]; rintro e w7 ⟨rfl, hb7⟩; obtain ⟨fc7, fg7, hc7, hf7, hz7⟩ := bget hb7; (try simp at hz7)) | (go_at_call 36; (with_reducible refine (bigInt S s5 l5 A5 c5 _ (by omega) h64i (HB5.out.keep (by (repeat' (first | (with_reducible exact Below.refl _ _) | (with_reducible assumption) | (with_reducible refine Below.alloc ?_ ?_ _) | (with_reducible refine Below.setCell ?_ ?_ _) | (with_reducible refine Below.drew ?_) | (with_reducible refine below_drewN ?_ _) | (with_reducible refine below_via ?_ (by with_reducible assumption) ?_) | omega | (simp; done) | (simp; omega)))))).mono ?_); rintro e w8 ⟨rfl, hb8⟩; obtain ⟨fc8, fg8, hc8, hf8, hz8⟩ := bget hb8; (try simp at hz8)) | fail)
              go_region_held3 (fun w' => (w'.cell? ⟨b2, o2 + i * 2, none⟩ = some (.int .i64 u.acc) ∧ w'.cell? ⟨b2, o2 + i * 2 + 1, none⟩ = some (.int .i64 u.cli)) ∧ w'.cell? ⟨g, 0, none⟩ = some (.bool s5) ∧ w'.cell? ⟨g, 1, none⟩ = some (.slice A5 l5.length c5)) (first | (simp [go_sem]; done) | (repeat' (first | (with_reducible assumption) | (with_reducible refine And.intro ?_ ?_) | (with_reducible refine cell_drew ?_) | (with_reducible refine cell_via (by with_reducible assumption) ?_ ?_) | (simp [*]; done) | (simp [go_sem]; done) | (with_reducible refine cell_alloc ?_ ?_) | (with_reducible refine cell_set_far ?_ ?_) | omega | (simp; omega)))) (first | (go_at_call 36; (with_reducible refine (bigInt S s5 l5 A5 c5 _ (by omega) h64i (HB5.out.keep (by (repeat' (first | (with_reducible exact Below.refl _ _) | (with_reducible assumption) | (with_reducible refine Below.alloc ?_ ?_ _) | (with_reducible refine Below.setCell ?_ ?_ _) | (with_reducible refine Below.drew ?_) | (with_reducible refine below_drewN ?_ _) | (with_reducible refine below_via ?_ (by with_reducible assumption) ?_) | omega | (simp; done) | (simp; omega)))))).mono ?_); rintro e w9 ⟨rfl, hb9⟩; obtain ⟨fc9, fg9, hc9, hf9, hz9⟩ := bget hb9; (try simp at hz9)) | (refine step_appG rfl _ _ _ rfl elFlow wo.heap.size _ _ rfl (HO2.out.keep (by (repeat' (first | (with_reducible exact Below.refl _ _) | (with_reducible assumption) | (with_reducible refine Below.alloc ?_ ?_ _) | (with_reducible refine Below.setCell ?_ ?_ _) | (with_reducible refine Below.drew ?_) | (with_reducible refine below_drewN ?_ _) | (with_reducible refine below_via ?_ (by with_reducible assumption) ?_) | omega | (simp; done) | (simp; omega))))) ⟨_, 0, none⟩ 1 1 rfl [encFlow ⟨u, S⟩] rfl (rd_oneN (by simp)) (rowsFlow [⟨u, S⟩]) (by unfold maxLen; simp; omega) (by simp; omega) (by first | omega | (simp; done) | (simp; omega)) ?_; intro v10 w10 hown10 hb10 hg10; have q0 : w10.cell? ⟨g, 0, none⟩ = some (.bool s5) := (grown_at hg10 (g := g) (by simp; omega) (fun e => absurd (Hown.out.block _ e).2 (by omega)) 0).trans (by simp [go_sem, *]); have q1 : w10.cell? ⟨g, 1, none⟩ = some (.slice A5 l5.length c5) := (grown_at hg10 (g := g) (by simp; omega) (fun e => absurd (Hown.out.block _ e).2 (by omega)) 1).trans (by simp [go_sem, *]); obtain ⟨fc10, fg10, hc10, hf10, hz10⟩ := bget hb10; (try simp at hz10)) | fail)
              go_wp2_with fail
              go_roundw
              case rel => exact ⟨i + 1, by omega, by go_num, HN.out, by rw [HRN.out]; exact hown10, by have h1 := HWY.out; (repeat' (first | (with_reducible exact Below.refl _ _) | (with_reducible assumption) | (with_reducible refine Below.alloc ?_ ?_ _) | (with_reducible refine Below.setCell ?_ ?_ _) | (with_reducible refine Below.drew ?_) | (with_reducible refine below_drewN ?_ _) | (with_reducible refine below_via ?_ (by with_reducible assumption) ?_) | omega | (simp; done) | (simp; omega)))⟩
              case measure => simp [intOf]; omega
    · have dl : decide ((i : Int) < (us.length : Int)) = false := by simpa using hlt1
      have HZ := Lib.hid (show RC = 0 from by rw [HC.out, HV.out, List.drop_eq_nil_of_le (by omega)]; rfl)
      have HT := Lib.hid (List.take_of_length_le (show us.length ≤ i by omega))
      go_wp2_with fail
      go_ret2
      exact ⟨_, by rw [HZ.out]; rfl, by rw [HP.out, if_pos HZ.out, ← HT.out]; exact Hown.out.mono (by omega), by have h1 := Hbl1.out; have h2 := Hw4.out; (repeat' (first | (with_reducible exact Below.refl _ _) | (with_reducible assumption) | (with_reducible refine Below.alloc ?_ ?_ _) | (with_reducible refine Below.setCell ?_ ?_ _) | (with_reducible refine Below.drew ?_) | (with_reducible refine below_drewN ?_ _) | (with_reducible refine below_via ?_ (by with_reducible assumption) ?_) | omega | (simp; done) | (simp; omega)))⟩
end Go.Proofs.YtalgfpegaobacaaGreat

/- Accounts: contracts of the reference's Is, Units, Has. -/
namespace Go.Proofs.YtalgfpegaobacaaGreat
open Go.RowKit
set_option maxRecDepth 100000 in
set_option maxHeartbeats 8000000 in
theorem ref15Units (x : Acct) (A : Option Addr) (c : Nat) (w : World) (hl : x.clients.length ≤ 1048576) (hr : Rd w A 1 (x.clients.map encI)) :
    Calls Tryz.prog 7 #[.agg #[.int .i64 x.id, .int .i64 x.member, .int .i64 x.kind, .slice A x.clients.length c]] w fun e w' => ∃ v, e = .returned v ∧ IsSl 2 encUn w' v (unitsA x) ∧ Below w.heap.size w w' := by
  have HR := Lib.hid hr
  clear hr
  by_cases hk1 : x.kind = 1
  · have b1 : (x.kind == 1) = true := by simpa using hk1
    have HU := Lib.hid (show unitsA x = [⟨x.id, 0⟩] from if_pos hk1)
    clear hk1
    go_enter Tryz.func7, Tryz.ntmps7
    go_wp2_with (first | (at_builtin; refine wpList_app rfl _ _ _ rfl elUn (w.heap.size + 1) _ _ rfl ((Own.nil _ _ _ _).alloc _) (some ⟨_, 0, none⟩) 1 1 rfl [encUn ⟨x.id, 0⟩] rfl (fun h => by cases h) (rd_oneN (by simp)) (rowsUn [⟨x.id, 0⟩]) (by unfold maxLen; first | (simp; done) | omega | (simp; omega)) (by first | (simp; done) | omega | (simp; omega)) (by first | omega | (simp; done) | (simp; omega)) ?_; intro v3 w3 hown3 hb3) | fail)
    go_ret
    refine ⟨_, rfl, ?_, by (repeat' (first | (with_reducible exact Below.refl _ _) | (with_reducible assumption) | (with_reducible refine Below.alloc ?_ ?_ _) | (with_reducible refine Below.setCell ?_ ?_ _) | (with_reducible refine Below.drew ?_) | (with_reducible refine below_drewN ?_ _) | (with_reducible refine below_via ?_ (by with_reducible assumption) ?_) | omega | (simp; done) | (simp; omega)))⟩
    rw [HU.out]
    exact hown3.isSl
  · have b1 : (x.kind == 1) = false := by simpa using hk1
    have HU := Lib.hid (show unitsA x = x.clients.map (fun c => ⟨x.id, c⟩) from if_neg hk1)
    clear hk1
    go_enter Tryz.func7, Tryz.ntmps7
    go_wp2_with (fail)
    go_loopw [3, 4] (fun v i wr => ∃ k : Nat, k ≤ x.clients.length ∧ i = .int .i64 k ∧ Own wr (w.heap.size + 1) 41 2 v (((x.clients.take k).map (fun c => (⟨x.id, c⟩ : Un))).map encUn) ∧ Below w.heap.size w wr ∧ w.heap.size < wr.heap.size ∧ (wr.cell? ⟨w.heap.size, 0, none⟩ = some (.int .i64 x.id) ∧ wr.cell? ⟨w.heap.size, 3, none⟩ = some (.slice A x.clients.length c))) (fun _ i _ => x.clients.length - (intOf i).toNat)
    case atStart => exact ⟨0, Nat.zero_le _, rfl, Own.nil _ _ _ _, by (repeat' (first | (with_reducible exact Below.refl _ _) | (with_reducible assumption) | (with_reducible refine Below.alloc ?_ ?_ _) | (with_reducible refine Below.setCell ?_ ?_ _) | (with_reducible refine Below.drew ?_) | (with_reducible refine below_drewN ?_ _) | (with_reducible refine below_via ?_ (by with_reducible assumption) ?_) | omega | (simp; done) | (simp; omega))), by simp, by simp [go_sem]⟩
    case round =>
      obtain ⟨k, hk, rfl, hown, hbl, hsz, h0, h3⟩ := hrel
      have Hown := Lib.hid hown
      have Hbl := Lib.hid hbl
      have hz := hbl.size
      clear hown hbl
      by_cases hlt : k < x.clients.length
      · have kl : (k : Int) < (x.clients.length : Int) := by omega
        have dl : decide ((k : Int) < (x.clients.length : Int)) = true := by simpa using hlt
        obtain ⟨b, o, rfl, hb, hc⟩ := HR.out k (encI x.clients[k]) (by simp [hlt])
        have e0 := (Hbl.out.cell (p := ⟨b, o + k * 1 + 0, none⟩) hb).trans (hc 0 _ rfl)
        simp only [Nat.add_zero, Nat.mul_one] at e0
        have HS := Lib.hid (map_snoc hlt (fun c => (⟨x.id, c⟩ : Un)))
        clear hc
        go_wp2_with fail
        go_region_held3 (fun w' => (w'.cell? ⟨w.heap.size, 0, none⟩ = some (.int .i64 x.id) ∧ w'.cell? ⟨w.heap.size, 3, none⟩ = some (.slice (some ⟨b, o, none⟩) x.clients.length c)) ∧ w'.cell? ⟨b, o + k, none⟩ = some (.int .i64 x.clients[k])) (first | (simp [go_sem]; done) | (repeat' (first | (with_reducible assumption) | (with_reducible refine And.intro ?_ ?_) | (with_reducible refine cell_drew ?_) | (with_reducible refine cell_via (by with_reducible assumption) ?_ ?_) | (simp [*]; done) | (simp [go_sem]; done) | (with_reducible refine cell_alloc ?_ ?_) | (with_reducible refine cell_set_far ?_ ?_) | omega | (simp; omega)))) (first | (refine step_app rfl _ _ _ rfl elUn (w.heap.size + 1) _ _ rfl (by first | exact Hown.out.drew.alloc _ | exact (Hown.out.alloc _).drew | exact Hown.out.alloc _) _ 1 1 rfl [encUn ⟨x.id, x.clients[k]⟩] rfl (fun h => by cases h) (by first | exact rd_one | exact rd_one.drew) (rowsUn [⟨x.id, x.clients[k]⟩]) (by unfold maxLen; simp; omega) (by simp; omega) (by first | omega | (simp; done) | (simp; omega)) ?_; intro v3 w3 hown3 hb3) | fail)
        go_wp2_with fail
        go_roundw
        case rel => exact ⟨k + 1, by omega, by go_num, by rw [HS.out, List.map_append]; exact hown3, by have hbl := Hbl.out; (repeat' (first | (with_reducible exact Below.refl _ _) | (with_reducible assumption) | (with_reducible refine Below.alloc ?_ ?_ _) | (with_reducible refine Below.setCell ?_ ?_ _) | (with_reducible refine Below.drew ?_) | (with_reducible refine below_drewN ?_ _) | (with_reducible refine below_via ?_ (by with_reducible assumption) ?_) | omega | (simp; done) | (simp; omega))), by have := hb3.size; simp at this; omega, by rw [hb3.cell (p := ⟨w.heap.size, 0, none⟩) (by simp)]; simp [go_sem, h0, hsz], by rw [hb3.cell (p := ⟨w.heap.size, 3, none⟩) (by simp)]; simp [go_sem, h3, hsz]⟩
        case measure => simp [intOf]; omega
      · have dl : decide ((k : Int) < (x.clients.length : Int)) = false := by simpa using hlt
        have HT := Lib.hid (show x.clients.take k = x.clients from List.take_of_length_le (by omega))
        go_wp2_with (fail)
        go_ret
        refine ⟨_, rfl, ?_, Hbl.out⟩
        rw [HU.out]
        have := Hown.out
        rw [HT.out] at this
        exact this.isSl
end Go.Proofs.YtalgfpegaobacaaGreat
