/- Joined: Ned3, Ref19. -/
import Derived.Test.YtiidplinmempcaaJb13
import Derived.Test.YtiidplinmempcaaJz4
import Derived.Test.YtiidplinmempcaaJb9
import Derived.Test.YtiidplinmempcaaJb3
/- Margin units: contract of need.All; the law's lives. -/
namespace Go.Proofs.Ytiidplinmempcaa
open Go.RowKit
theorem fixSum64 (l : List Int) (A : Option Addr) (c : Nat) (w : World) (hl : l.length ≤ 1099511627776) (hin : ∀ n ∈ l, In64 n) (hr : Rd w A 1 (l.map encI)) :
    Calls Try.prog 139 #[.slice A l.length c] w fun e w' => e = .returned (.tuple #[.int .i64 (sum64N l), .int .i64 (sum64C l)]) ∧ Below w.heap.size w w' := by
  unfold sum64N sum64C
  by_cases h : in64 l.sum = true
  · rw [if_pos h, if_pos h]; exact fixSumYes l A c w hl hin hr (in64_iff.1 h)
  · rw [if_neg h, if_neg h]; exact fixSumNo l A c w hl hin hr (in64_no (by simpa using h))
set_option maxRecDepth 100000 in
set_option maxHeartbeats 8000000 in
theorem needAll (t : List InstV) (l : List PosV) (x : AcctV) (A B : Option Addr) (c d : Nat) (w : World) (ht : t.length ≤ 1000000) (hl : l.length ≤ 1000000) (hxl : x.clients.val.length ≤ 1000000) (h64 : L64 (l.map lgPosV))
    (hrt : Rd w A 5 (t.map encInstV)) (hgt : ∀ x ∈ t, x.moves.val.length ≤ 1048576 ∧ GoodI w x) (hr : Rd w B 3 (l.map encPosV)) (hg : ∀ x ∈ l, GoodPosV w x) (hx : GoodA w x) :
    Calls Try.prog 106 #[.slice A t.length c, .slice B l.length d, .agg #[.int .i64 x.id, .int .i64 x.member, .int .i64 x.kind, .slice x.clients.A x.clients.val.length x.clients.c]] w fun e w' => e = .returned (.tuple #[.int .i64 (nallN t (l.map lgPosV) (lgA x)), .int .i64 (nallC t (l.map lgPosV) (lgA x))]) ∧ Below w.heap.size w w' := by
  have HX := Lib.hid hx
  have hul := unitsN_len (lgA x)
  have hul2 : (lgA x).clients.length ≤ 1000000 := hxl
  have CF := Lib.hid (fun u W (h : Below w.heap.size w W) => needOf t l x u A B c d W ht hl hxl h64 (hrt.keep h) (fun x hx => ⟨(hgt x hx).1, (hgt x hx).2.keep h⟩) (hr.keep h) (fun x hx => (hg x hx).keep h) (hx.keep h))
  have HC := Lib.hid (show nallC t (l.map lgPosV) (lgA x) = if firstC (nofC t (l.map lgPosV) (lgA x)) (unitsN (lgA x)) = 0 then sum64C ((unitsN (lgA x)).map (nofN t (l.map lgPosV) (lgA x))) else firstC (nofC t (l.map lgPosV) (lgA x)) (unitsN (lgA x)) from rfl)
  have HN := Lib.hid (show nallN t (l.map lgPosV) (lgA x) = if firstC (nofC t (l.map lgPosV) (lgA x)) (unitsN (lgA x)) = 0 then sum64N ((unitsN (lgA x)).map (nofN t (l.map lgPosV) (lgA x))) else 0 from rfl)
  have H64 := Lib.hid (fun u => (nofN_pos t (l.map lgPosV) (lgA x) u).2)
  have CU := Lib.hid (fun W h => needUnits x W hxl h)
  clear hrt hgt hr hg hx h64
  generalize nallC t (l.map lgPosV) (lgA x) = RC at *
  generalize nallN t (l.map lgPosV) (lgA x) = RN at *
  generalize nofC t (l.map lgPosV) (lgA x) = fC at *
  generalize nofN t (l.map lgPosV) (lgA x) = fN at *
  generalize unitsN (lgA x) = us at *
  go_enter Try.func106, Try.ntmps106
  go_wp2_with (first | (go_at_call 53; (with_reducible refine (CU.out _ (HX.out.keep (by (repeat' (first | (with_reducible exact Below.refl _ _) | (with_reducible assumption) | (with_reducible refine Below.alloc ?_ ?_ _) | (with_reducible refine Below.setCell ?_ ?_ _) | (with_reducible refine Below.drew ?_) | (with_reducible refine below_drewN ?_ _) | (with_reducible refine below_via ?_ (by with_reducible assumption) ?_) | omega | (simp; done) | (simp; omega)))))).mono ?_); rintro e w1 ⟨A1, c1, rfl, hrs1, hb1⟩; have HS1 := Lib.hid hrs1.rd; clear hrs1; obtain ⟨fc1, fg1, hc1, hf1, hz1⟩ := bget hb1; (try simp at hz1)) | fail)
  have b0 : w1.cell? ⟨w.heap.size, 0, none⟩ = some (.int .i64 x.id) := by simp [hc1, go_sem]
  have b1 : w1.cell? ⟨w.heap.size, 1, none⟩ = some (.int .i64 x.member) := by simp [hc1, go_sem]
  have b2 : w1.cell? ⟨w.heap.size, 2, none⟩ = some (.int .i64 x.kind) := by simp [hc1, go_sem]
  have b3 : w1.cell? ⟨w.heap.size, 3, none⟩ = some (.slice x.clients.A x.clients.val.length x.clients.c) := by simp [hc1, go_sem]
  have HB := Lib.hid (And.intro b0 (And.intro b1 (And.intro b2 b3)))
  have Hw1 := Lib.hid (show Below w.heap.size w w1 by (repeat' (first | (with_reducible exact Below.refl _ _) | (with_reducible assumption) | (with_reducible refine Below.alloc ?_ ?_ _) | (with_reducible refine Below.setCell ?_ ?_ _) | (with_reducible refine Below.drew ?_) | (with_reducible refine below_drewN ?_ _) | (with_reducible refine below_via ?_ (by with_reducible assumption) ?_) | omega | (simp; done) | (simp; omega))))
  clear b0 b1 b2 b3 hc1 hf1 hb1
  go_loopw [8, 16] (fun v i wr => ∃ k : Nat, k ≤ us.length ∧ i = .int .i64 k ∧ firstC fC us = firstC fC (us.drop k) ∧ Own wr w1.heap.size 2 1 v (((us.take k).map fN).map encI) ∧ Below w1.heap.size w1 wr) (fun _ i _ => us.length - (intOf i).toNat)
  case atStart => exact ⟨0, Nat.zero_le _, rfl, rfl, Own.nil _ _ _ _, Below.refl _ _⟩
  case round =>
    obtain ⟨k, hk, rfl, hv, hown, hbl⟩ := hrel
    have HV := Lib.hid hv
    have Hown := Lib.hid hown
    have Hbl := Lib.hid hbl
    have hz := hbl.size
    have b0 := (hbl.cell (p := ⟨w.heap.size, 0, none⟩) (by simp; omega)).trans HB.out.1
    have b1 := (hbl.cell (p := ⟨w.heap.size, 1, none⟩) (by simp; omega)).trans HB.out.2.1
    have b2 := (hbl.cell (p := ⟨w.heap.size, 2, none⟩) (by simp; omega)).trans HB.out.2.2.1
    have b3 := (hbl.cell (p := ⟨w.heap.size, 3, none⟩) (by simp; omega)).trans HB.out.2.2.2
    have Hwr := Lib.hid (Hw1.out.trans (hbl.mono (by omega)))
    clear hv hown hbl
    by_cases hlt : k < us.length
    · have kl : (k : Int) < (us.length : Int) := by omega
      have dl : decide ((k : Int) < (us.length : Int)) = true := by simpa using hlt
      obtain ⟨b, o, rfl, hb, hc⟩ := HS1.out k (encUn us[k]) (by simp [hlt])
      have e0 := (Hbl.out.cell (p := ⟨b, o + k * 2 + 0, none⟩) hb).trans (hc 0 _ rfl)
      have e1 := (Hbl.out.cell (p := ⟨b, o + k * 2 + 1, none⟩) hb).trans (hc 1 _ rfl)
      simp only [Nat.add_zero] at e0
      clear hc
      have hbw : b < wr.heap.size := by omega
      have HD := Lib.hid (drop_cons' hlt)
      have HM := Lib.hid (show ((us.take (k + 1)).map fN).map encI = ((us.take k).map fN).map encI ++ [encI (fN us[k])] from by rw [map_snoc hlt]; simp)
      have hlk : (((us.take k).map fN).map encI).length ≤ 1000001 := by simp; omega
      have cf := CF.out us[k]
      by_cases h0 : fC us[k] = 0
      · have HN0 := Lib.hid (show firstC fC us = firstC fC (us.drop (k + 1)) from by rw [HV.out, HD.out]; exact firstC_step h0)
        rw [h0] at cf
        have CFK := Lib.hid cf
        clear cf h0
        generalize fN us[k] = q at *
        go_wp2_with (first | (go_at_call 143; (with_reducible refine (CFK.out _ (by have hwr := Hwr.out; (repeat' (first | (with_reducible exact Below.refl _ _) | (with_reducible assumption) | (with_reducible refine Below.alloc ?_ ?_ _) | (with_reducible refine Below.setCell ?_ ?_ _) | (with_reducible refine Below.drew ?_) | (with_reducible refine below_drewN ?_ _) | (with_reducible refine below_via ?_ (by with_reducible assumption) ?_) | omega | (simp; done) | (simp; omega))))).mono ?_); rintro e w2 ⟨rfl, hb2⟩; obtain ⟨fc2, fg2, hc2, hf2, hz2⟩ := bget hb2; (try simp at hz2)) | (at_builtin; refine wpList_app rfl _ _ _ rfl elI w1.heap.size _ _ rfl (Hown.out.keep (by (repeat' (first | (with_reducible exact Below.refl _ _) | (with_reducible assumption) | (with_reducible refine Below.alloc ?_ ?_ _) | (with_reducible refine Below.setCell ?_ ?_ _) | (with_reducible refine Below.drew ?_) | (with_reducible refine below_drewN ?_ _) | (with_reducible refine below_via ?_ (by with_reducible assumption) ?_) | omega | (simp; done) | (simp; omega))))) (some ⟨_, 0, none⟩) 1 1 rfl [encI q] rfl (fun h => by cases h) (rd_oneN (by simp)) (rowsI [q]) (by unfold maxLen; simp only [List.length_map] at hlk ⊢; omega) (by simp only [List.length_map] at hlk ⊢; omega) (by first | omega | (simp; done) | (simp; omega)) ?_; intro v3 w3 hown3 hb3; obtain ⟨fc3, fg3, hc3, hf3, hz3⟩ := bget hb3; (try simp at hz3)) | fail)
        go_roundw
        case rel => exact ⟨k + 1, by omega, by go_num, HN0.out, by rw [HM.out]; exact hown3, by have hbl := Hbl.out; (repeat' (first | (with_reducible exact Below.refl _ _) | (with_reducible assumption) | (with_reducible refine Below.alloc ?_ ?_ _) | (with_reducible refine Below.setCell ?_ ?_ _) | (with_reducible refine Below.drew ?_) | (with_reducible refine below_drewN ?_ _) | (with_reducible refine below_via ?_ (by with_reducible assumption) ?_) | omega | (simp; done) | (simp; omega)))⟩
        case measure => simp [intOf]; omega
      · have hne : (fC us[k] != 0) = true := by simpa using h0
        have hne2 : (fC us[k] == 0) = false := by simpa using h0
        have HF := Lib.hid (show firstC fC us = fC us[k] from by rw [HV.out, HD.out]; exact firstC_stop h0)
        have HC2 := Lib.hid (show RC = fC us[k] from by rw [HC.out, HF.out, if_neg h0])
        have HN2 := Lib.hid (show RN = 0 from by rw [HN.out, HF.out, if_neg h0])
        have CFK := Lib.hid cf
        clear cf h0
        generalize fN us[k] = q at *
        generalize fC us[k] = code at *
        go_wp2_with (first | (go_at_call 143; (with_reducible refine (CFK.out _ (by have hwr := Hwr.out; (repeat' (first | (with_reducible exact Below.refl _ _) | (with_reducible assumption) | (with_reducible refine Below.alloc ?_ ?_ _) | (with_reducible refine Below.setCell ?_ ?_ _) | (with_reducible refine Below.drew ?_) | (with_reducible refine below_drewN ?_ _) | (with_reducible refine below_via ?_ (by with_reducible assumption) ?_) | omega | (simp; done) | (simp; omega))))).mono ?_); rintro e w2 ⟨rfl, hb2⟩; obtain ⟨fc2, fg2, hc2, hf2, hz2⟩ := bget hb2; (try simp at hz2)) | fail)
        go_ret2
        exact ⟨by rw [HC2.out, HN2.out]; rfl, by have hwr := Hwr.out; (repeat' (first | (with_reducible exact Below.refl _ _) | (with_reducible assumption) | (with_reducible refine Below.alloc ?_ ?_ _) | (with_reducible refine Below.setCell ?_ ?_ _) | (with_reducible refine Below.drew ?_) | (with_reducible refine below_drewN ?_ _) | (with_reducible refine below_via ?_ (by with_reducible assumption) ?_) | omega | (simp; done) | (simp; omega)))⟩
    · have dl : decide ((k : Int) < (us.length : Int)) = false := by simpa using hlt
      have HF := Lib.hid (show firstC fC us = 0 from by rw [HV.out, List.drop_eq_nil_of_le (by omega)]; rfl)
      have HC2 := Lib.hid (show RC = sum64C (us.map fN) from by rw [HC.out, HF.out, if_pos rfl])
      have HN2 := Lib.hid (show RN = sum64N (us.map fN) from by rw [HN.out, HF.out, if_pos rfl])
      have ho := Hown.out
      rw [List.take_of_length_le (show us.length ≤ k by omega)] at ho
      obtain ⟨A2, c2, hv2, hrs2, _⟩ := ho.rs
      rw [List.length_map] at hv2
      have cs := fixSum64 (us.map fN) A2 c2 wr (by rw [List.length_map]; omega) (fun n hn => by
        obtain ⟨u, _, rfl⟩ := List.mem_map.1 hn
        exact H64.out u) hrs2.rd
      generalize us.map fN = ls at *
      subst hv2
      have CS := Lib.hid cs
      clear ho hrs2 cs
      go_wp2_with (first | (go_at_call 139; (with_reducible refine (CS.out).mono ?_); rintro e w4 ⟨rfl, hb4⟩; obtain ⟨fc4, fg4, hc4, hf4, hz4⟩ := bget hb4; (try simp at hz4)) | fail)
      go_ret2
      exact ⟨by rw [HC2.out, HN2.out]; rfl, by have hwr := Hwr.out; (repeat' (first | (with_reducible exact Below.refl _ _) | (with_reducible assumption) | (with_reducible refine Below.alloc ?_ ?_ _) | (with_reducible refine Below.setCell ?_ ?_ _) | (with_reducible refine Below.drew ?_) | (with_reducible refine below_drewN ?_ _) | (with_reducible refine below_via ?_ (by with_reducible assumption) ?_) | omega | (simp; done) | (simp; omega)))⟩
def liveP : List (Row Leg) := [⟨⟨1, 1⟩, [⟨1, 4⟩]⟩, ⟨⟨1, 2⟩, [⟨1, -4⟩]⟩]
theorem live_net : netC liveP [⟨1, 1⟩] = 0 ∧ netL liveP [⟨1, 1⟩] = [⟨1, 4⟩] ∧ netC liveP [⟨1, 2⟩] = 0 ∧ netL liveP [⟨1, 2⟩] = [⟨1, -4⟩] ∧ netC liveP [⟨1, 1⟩, ⟨1, 2⟩] = 0 ∧ netL liveP [⟨1, 1⟩, ⟨1, 2⟩] = [] ∧ isK isV liveP = true ∧ unitsN ⟨1, 1, 3, [1, 2]⟩ = [⟨1, 1⟩, ⟨1, 2⟩] ∧ partsN ⟨1, 1, 3, [1, 2]⟩ ⟨1, 1⟩ = [⟨1, 1⟩] ∧ partsN ⟨1, 1, 3, [1, 2]⟩ ⟨1, 2⟩ = [⟨1, 2⟩] ∧ unitsN ⟨1, 1, 2, [1, 2]⟩ = [⟨1, 0⟩] ∧ partsN ⟨1, 1, 2, [1, 2]⟩ ⟨1, 0⟩ = [⟨1, 1⟩, ⟨1, 2⟩] := by
  refine ⟨by kernel_rfl, by kernel_rfl, by kernel_rfl, by kernel_rfl, by kernel_rfl, by kernel_rfl, by kernel_rfl, by kernel_rfl, by kernel_rfl, by kernel_rfl, by kernel_rfl, by kernel_rfl⟩
theorem margin_none (t : List InstV) : marginN t [] = 0 ∧ marginC t [] = 0 := by
  have h0 : lossC t [] = 0 := rfl
  have h1 : ∀ s, lossN t [] s = 0 := fun s => rfl
  have h2 := most_zero h1 8
  unfold marginN marginC
  rw [h0, if_pos rfl, if_pos rfl, h2]
  exact ⟨rfl, rfl⟩
theorem live_need (A : Option Addr) (c : Nat) : nallN [liveV A c] liveP ⟨1, 1, 3, [1, 2]⟩ = 200 ∧ nallC [liveV A c] liveP ⟨1, 1, 3, [1, 2]⟩ = 0 ∧ nallN [liveV A c] liveP ⟨1, 1, 2, [1, 2]⟩ = 0 ∧ nallC [liveV A c] liveP ⟨1, 1, 2, [1, 2]⟩ = 0 := by
  obtain ⟨m1, m2, m3, m4, _, _⟩ := live_margin A c
  obtain ⟨n1, n2⟩ := margin_none [liveV A c]
  obtain ⟨a1, a2, a3, a4, a5, a6, a7, a8, a9, a10, a11, a12⟩ := live_net
  have f1 : nofC [liveV A c] liveP ⟨1, 1, 3, [1, 2]⟩ ⟨1, 1⟩ = 0 ∧ nofN [liveV A c] liveP ⟨1, 1, 3, [1, 2]⟩ ⟨1, 1⟩ = 120 := by
    unfold nofC nofN
    rw [a7, a8, a9, a1, a2, m1, m2]
    decide
  have f2 : nofC [liveV A c] liveP ⟨1, 1, 3, [1, 2]⟩ ⟨1, 2⟩ = 0 ∧ nofN [liveV A c] liveP ⟨1, 1, 3, [1, 2]⟩ ⟨1, 2⟩ = 80 := by
    unfold nofC nofN
    rw [a7, a8, a10, a3, a4, m3, m4]
    decide
  have f3 : nofC [liveV A c] liveP ⟨1, 1, 2, [1, 2]⟩ ⟨1, 0⟩ = 0 ∧ nofN [liveV A c] liveP ⟨1, 1, 2, [1, 2]⟩ ⟨1, 0⟩ = 0 := by
    unfold nofC nofN
    rw [a7, a11, a12, a5, a6, n1, n2]
    decide
  have g1 : firstC (nofC [liveV A c] liveP ⟨1, 1, 3, [1, 2]⟩) [⟨1, 1⟩, ⟨1, 2⟩] = 0 := by rw [firstC_step f1.1, firstC_step f2.1]; rfl
  have g2 : firstC (nofC [liveV A c] liveP ⟨1, 1, 2, [1, 2]⟩) [⟨1, 0⟩] = 0 := by rw [firstC_step f3.1]; rfl
  unfold nallN nallC
  rw [a8, a11, g1, g2]
  simp only [List.map_cons, List.map_nil, f1.2, f2.2, f3.2, if_true]
  decide
end Go.Proofs.Ytiidplinmempcaa

/- Books: contract of the reference's Shift. -/
namespace Go.Proofs.Ytiidplinmempcaa
open Go.RowKit
set_option maxRecDepth 100000 in
set_option maxHeartbeats 32000000 in
theorem ref19Shift (l : List PosV) (u : Un) (legs : List Leg) (A B : Option Addr) (c d : Nat) (w : World) (hl : l.length ≤ 2000) (hgl : legs.length ≤ 1000000) (h64 : L64 (l.map lgPosV)) (hg64 : Legs64 legs) (hr : Rd w A 3 (l.map encPosV)) (hg : ∀ x ∈ l, GoodPosV w x) (hrg : Rs w 2 (legs.map encLeg) B d) :
    Calls Try.prog 42 #[.slice A l.length c, .agg #[.int .i64 u.acc, .int .i64 u.cli], .slice B legs.length d] w (BookPost w (shL (l.map lgPosV) u legs) (shC (l.map lgPosV) u legs)) := by
  have ci := fun W (h : Below w.heap.size w W) => refPosVIs l A c W (by omega) (hr.keep h) (fun x hx => (hg x hx).keep h)
  have hib : isPosV l = isK isV (l.map lgPosV) := rfl
  rw [hib] at ci
  cases hi : isK isV (l.map lgPosV)
  · have HC : shC (l.map lgPosV) u legs = 3 := by unfold shC; rw [hi]; rfl
    have HLn : shL (l.map lgPosV) u legs = [] := sh_no (by rw [HC]; decide)
    rw [hi] at ci
    rw [HC, HLn]
    have CI := Lib.hid ci
    clear ci hi HC HLn hr hg hrg h64 hg64 hib
    go_enter Try.func42, Try.ntmps42
    go_wp2_with (first | (go_at_call 37; (with_reducible refine (CI.out _ (by (repeat' (first | (with_reducible exact Below.refl _ _) | (with_reducible assumption) | (with_reducible refine Below.alloc ?_ ?_ _) | (with_reducible refine Below.setCell ?_ ?_ _) | (with_reducible refine Below.drew ?_) | (with_reducible refine below_drewN ?_ _) | (with_reducible refine below_via ?_ (by with_reducible assumption) ?_) | omega | (simp; done) | (simp; omega))))).mono ?_); rintro e w1 ⟨rfl, hb1⟩; obtain ⟨fc1, fg1, hc1, hf1, hz1⟩ := bget hb1; (try simp at hz1)) | fail)
    go_ret2
    exact ⟨_, [], rfl, rfl, Own.nil _ _ _ _, fun y hy => absurd hy (by simp), by (repeat' (first | (with_reducible exact Below.refl _ _) | (with_reducible assumption) | (with_reducible refine Below.alloc ?_ ?_ _) | (with_reducible refine Below.setCell ?_ ?_ _) | (with_reducible refine Below.drew ?_) | (with_reducible refine below_drewN ?_ _) | (with_reducible refine below_via ?_ (by with_reducible assumption) ?_) | omega | (simp; done) | (simp; omega)))⟩
  rw [hi] at ci
  have CI := Lib.hid ci
  have hs := (isK_facts hi).1
  have CF := Lib.hid (fun W (h : Below w.heap.size w W) => refPosVOf l u A c W (by omega) (hr.keep h) (fun x hx => (hg x hx).keep h))
  have hol := of_len hg u
  have O64 := Lib.hid (of64 h64 u)
  have G64 := Lib.hid hg64
  have HG := Lib.hid (fun W (h : Below w.heap.size w W) => hrg.keep h)
  have hsc : shC (l.map lgPosV) u legs = addC [ofK (l.map lgPosV) u, legs] := by unfold shC; rw [hi]; rfl
  have hsl := fun h => (sh_ok (l := l.map lgPosV) (u := u) (legs := legs) h).2.2
  have hsn := fun h => sh_no (l := l.map lgPosV) (u := u) (legs := legs) h
  have hN8 := addL_len [ofK (l.map lgPosV) u, legs]
  have hwi := fun N : List Leg => shG_with hs u N
  have HRR := Lib.hid hr
  have HGG := Lib.hid hg
  generalize shC (l.map lgPosV) u legs = code at *
  generalize shL (l.map lgPosV) u legs = R at *
  generalize ofK (l.map lgPosV) u = O at *
  clear ci hi hr hg hrg h64 hg64 hib
  obtain ⟨N, hN⟩ : ∃ N, addL [O, legs] = N := ⟨_, rfl⟩
  rw [hN] at hN8 hsl
  have HSN := Lib.hid hN
  have HSC := Lib.hid hsc.symm
  clear hN hsc
  cases h0 : (code == 0)
  · have HRN := Lib.hid (hsn (by simpa using h0))
    have e1 : (code != 0) = true := by simp only [bne, h0]; rfl
    clear hsl hsn hwi
    go_enter Try.func42, Try.ntmps42
    go_wp2_with (first | (go_at_call 37; (with_reducible refine (CI.out _ (by (repeat' (first | (with_reducible exact Below.refl _ _) | (with_reducible assumption) | (with_reducible refine Below.alloc ?_ ?_ _) | (with_reducible refine Below.setCell ?_ ?_ _) | (with_reducible refine Below.drew ?_) | (with_reducible refine below_drewN ?_ _) | (with_reducible refine below_via ?_ (by with_reducible assumption) ?_) | omega | (simp; done) | (simp; omega))))).mono ?_); rintro e w1 ⟨rfl, hb1⟩; obtain ⟨fc1, fg1, hc1, hf1, hz1⟩ := bget hb1; (try simp at hz1)) | (go_at_call 40; (with_reducible refine (CF.out _ (by (repeat' (first | (with_reducible exact Below.refl _ _) | (with_reducible assumption) | (with_reducible refine Below.alloc ?_ ?_ _) | (with_reducible refine Below.setCell ?_ ?_ _) | (with_reducible refine Below.drew ?_) | (with_reducible refine below_drewN ?_ _) | (with_reducible refine below_via ?_ (by with_reducible assumption) ?_) | omega | (simp; done) | (simp; omega))))).mono ?_); rintro e w2 ⟨A2, c2, rfl, hrs2, hb2⟩; have H2 := Lib.hid hrs2; clear hrs2; obtain ⟨fc2, fg2, hc2, hf2, hz2⟩ := bget hb2; (try simp at hz2)) | (go_at_call 23; (with_reducible refine (ref11Add2 O legs _ _ (.slice A2 O.length c2) (.slice B legs.length d) (by omega) (by omega) O64.out G64.out ?_ ?_ ?_ ?_ ?_).mono ?_); (focus (exact isl (H2.out.keep (by (repeat' (first | (with_reducible exact Below.refl _ _) | (with_reducible assumption) | (with_reducible refine Below.alloc ?_ ?_ _) | (with_reducible refine Below.setCell ?_ ?_ _) | (with_reducible refine Below.drew ?_) | (with_reducible refine below_drewN ?_ _) | (with_reducible refine below_via ?_ (by with_reducible assumption) ?_) | omega | (simp; done) | (simp; omega))))))); (focus (exact isl (HG.out _ (by (repeat' (first | (with_reducible exact Below.refl _ _) | (with_reducible assumption) | (with_reducible refine Below.alloc ?_ ?_ _) | (with_reducible refine Below.setCell ?_ ?_ _) | (with_reducible refine Below.drew ?_) | (with_reducible refine below_drewN ?_ _) | (with_reducible refine below_via ?_ (by with_reducible assumption) ?_) | omega | (simp; done) | (simp; omega))))))); (focus (simp; done)); (focus (first | (simp [go_sem]; done) | (simp [go_sem, ↓IntWalk.iteOmega]; done))); (focus (first | (simp [go_sem]; done) | (simp [go_sem, ↓IntWalk.iteOmega]; done))); rintro e w3 ⟨v3, rfl, hown3, hb3⟩; obtain ⟨A3, c3, hv3, hrs3, hfm3⟩ := hown3.rs; (rw [List.length_map] at hv3); subst hv3; (rw [HSC.out]); (rw [HSN.out] at hrs3); (rw [HSN.out]); have H3 := Lib.hid hrs3; clear hown3 hrs3 hfm3; obtain ⟨fc3, fg3, hc3, hf3, hz3⟩ := bget hb3; (try simp at hz3)) | fail)
    go_ret2
    exact ⟨_, [], rfl, by rw [HRN.out]; rfl, Own.nil _ _ _ _, fun y hy => absurd hy (by simp), by (repeat' (first | (with_reducible exact Below.refl _ _) | (with_reducible assumption) | (with_reducible refine Below.alloc ?_ ?_ _) | (with_reducible refine Below.setCell ?_ ?_ _) | (with_reducible refine Below.drew ?_) | (with_reducible refine below_drewN ?_ _) | (with_reducible refine below_via ?_ (by with_reducible assumption) ?_) | omega | (simp; done) | (simp; omega)))⟩
  have e1 : (code != 0) = false := by simp only [bne, h0]; rfl
  have hz : code = 0 := by simpa using h0
  have HRW := Lib.hid ((hsl hz).trans (hwi N).symm)
  subst hz
  clear hsl hsn h0 hwi
  have hem : N.isEmpty = ((N.length : Int) == 0) := by cases N <;> rfl
  rw [hem] at HRW
  go_enter Try.func42, Try.ntmps42
  go_wp2_with (first | (go_at_call 37; (with_reducible refine (CI.out _ (by (repeat' (first | (with_reducible exact Below.refl _ _) | (with_reducible assumption) | (with_reducible refine Below.alloc ?_ ?_ _) | (with_reducible refine Below.setCell ?_ ?_ _) | (with_reducible refine Below.drew ?_) | (with_reducible refine below_drewN ?_ _) | (with_reducible refine below_via ?_ (by with_reducible assumption) ?_) | omega | (simp; done) | (simp; omega))))).mono ?_); rintro e w1 ⟨rfl, hb1⟩; obtain ⟨fc1, fg1, hc1, hf1, hz1⟩ := bget hb1; (try simp at hz1)) | (go_at_call 40; (with_reducible refine (CF.out _ (by (repeat' (first | (with_reducible exact Below.refl _ _) | (with_reducible assumption) | (with_reducible refine Below.alloc ?_ ?_ _) | (with_reducible refine Below.setCell ?_ ?_ _) | (with_reducible refine Below.drew ?_) | (with_reducible refine below_drewN ?_ _) | (with_reducible refine below_via ?_ (by with_reducible assumption) ?_) | omega | (simp; done) | (simp; omega))))).mono ?_); rintro e w2 ⟨A2, c2, rfl, hrs2, hb2⟩; have H2 := Lib.hid hrs2; clear hrs2; obtain ⟨fc2, fg2, hc2, hf2, hz2⟩ := bget hb2; (try simp at hz2)) | (go_at_call 23; (with_reducible refine (ref11Add2 O legs _ _ (.slice A2 O.length c2) (.slice B legs.length d) (by omega) (by omega) O64.out G64.out ?_ ?_ ?_ ?_ ?_).mono ?_); (focus (exact isl (H2.out.keep (by (repeat' (first | (with_reducible exact Below.refl _ _) | (with_reducible assumption) | (with_reducible refine Below.alloc ?_ ?_ _) | (with_reducible refine Below.setCell ?_ ?_ _) | (with_reducible refine Below.drew ?_) | (with_reducible refine below_drewN ?_ _) | (with_reducible refine below_via ?_ (by with_reducible assumption) ?_) | omega | (simp; done) | (simp; omega))))))); (focus (exact isl (HG.out _ (by (repeat' (first | (with_reducible exact Below.refl _ _) | (with_reducible assumption) | (with_reducible refine Below.alloc ?_ ?_ _) | (with_reducible refine Below.setCell ?_ ?_ _) | (with_reducible refine Below.drew ?_) | (with_reducible refine below_drewN ?_ _) | (with_reducible refine below_via ?_ (by with_reducible assumption) ?_) | omega | (simp; done) | (simp; omega))))))); (focus (simp; done)); (focus (first | (simp [go_sem]; done) | (simp [go_sem, ↓IntWalk.iteOmega]; done))); (focus (first | (simp [go_sem]; done) | (simp [go_sem, ↓IntWalk.iteOmega]; done))); rintro e w3 ⟨v3, rfl, hown3, hb3⟩; obtain ⟨A3, c3, hv3, hrs3, hfm3⟩ := hown3.rs; (rw [List.length_map] at hv3); subst hv3; (rw [HSC.out]); (rw [HSN.out] at hrs3); (rw [HSN.out]); have H3 := Lib.hid hrs3; clear hown3 hrs3 hfm3; obtain ⟨fc3, fg3, hc3, hf3, hz3⟩ := bget hb3; (try simp at hz3)) | fail)
  have Hb03 := Lib.hid (show Below w.heap.size w w3 from by (repeat' (first | (with_reducible exact Below.refl _ _) | (with_reducible assumption) | (with_reducible refine Below.alloc ?_ ?_ _) | (with_reducible refine Below.setCell ?_ ?_ _) | (with_reducible refine Below.drew ?_) | (with_reducible refine below_drewN ?_ _) | (with_reducible refine below_via ?_ (by with_reducible assumption) ?_) | omega | (simp; done) | (simp; omega))))
  have x0 : w3.cell? ⟨w.heap.size, 0, none⟩ = some (.int .i64 u.acc) := by simp [hc3, hc2, hc1, go_sem, ↓IntWalk.iteOmega]
  have x1 : w3.cell? ⟨w.heap.size, 1, none⟩ = some (.int .i64 u.cli) := by simp [hc3, hc2, hc1, go_sem, ↓IntWalk.iteOmega]
  have hsz : w.heap.size < w3.heap.size := by omega
  have HRO := Lib.hid (HRR.out.keep Hb03.out)
  have HGO := Lib.hid (fun x hx => (HGG.out x hx).keep Hb03.out)
  have HNG := Lib.hid (show GoodPosV w3 ⟨u, ⟨A3, c3, N⟩⟩ from ⟨by simp only; omega, H3.out⟩)
  have HX := Lib.hid (And.intro x0 x1)
  clear x0 x1 hc1 hf1 hc2 hf2 hc3 hf3 hb1 hb2 hb3 H3 HRR HGG H2
  obtain ⟨wo, hwo⟩ : ∃ wo : World, wo = w3 := ⟨_, rfl⟩
  subst hwo
  go_loopw [10, 11, 12] (fun v dn i wr => ∃ (k : Nat) (ys : List PosV) (done : Bool), k ≤ l.length ∧ i = .int .i64 k ∧ dn = .bool done ∧ ys.map lgPosV ++ shG u N done ((l.drop k).map lgPosV) = R ∧ ys.length ≤ 2 * k ∧ Own wr wo.heap.size 140 3 v (ys.map encPosV) ∧ (∀ y ∈ ys, GoodPosV wo y) ∧ Below wo.heap.size wo wr) (fun _ _ i _ => l.length - (intOf i).toNat)
  case atStart => exact ⟨0, [], _, Nat.zero_le _, rfl, rfl, by rw [HRW.out]; rfl, Nat.zero_le _, Own.nil _ _ _ _, fun y hy => absurd hy (by simp), by (repeat' (first | (with_reducible exact Below.refl _ _) | (with_reducible assumption) | (with_reducible refine Below.alloc ?_ ?_ _) | (with_reducible refine Below.setCell ?_ ?_ _) | (with_reducible refine Below.drew ?_) | (with_reducible refine below_drewN ?_ _) | (with_reducible refine below_via ?_ (by with_reducible assumption) ?_) | omega | (simp; done) | (simp; omega)))⟩
  case round =>
    clear HRW
    obtain ⟨k, ys, done, hk, rfl, rfl, hw, hyl, hown, hgd, hbl⟩ := hrel
    have HW := Lib.hid hw
    have Hown := Lib.hid hown
    have Hgd := Lib.hid hgd
    have Hbl := Lib.hid hbl
    have hzr := hbl.size
    have g0 := (hbl.cell (p := ⟨w.heap.size, 0, none⟩) hsz).trans HX.out.1
    have g1 := (hbl.cell (p := ⟨w.heap.size, 1, none⟩) hsz).trans HX.out.2
    clear hw hown hgd hbl
    by_cases hlt : k < l.length
    · have kl : (k : Int) < (l.length : Int) := by omega
      have dl : decide ((k : Int) < (l.length : Int)) = true := by simpa using hlt
      have hd := Lib.hid (lg_atPosV hlt)
      have HGX := Lib.hid (HGO.out l[k] (List.getElem_mem hlt))
      obtain ⟨b, o, rfl, hb, hc⟩ := HRO.out k (encPosV l[k]) (by simp [hlt])
      have e0 := (Hbl.out.cell (p := ⟨b, o + k * 3 + 0, none⟩) hb).trans (hc 0 _ rfl)
      have e1 := (Hbl.out.cell (p := ⟨b, o + k * 3 + 1, none⟩) hb).trans (hc 1 _ rfl)
      have e2 := (Hbl.out.cell (p := ⟨b, o + k * 3 + 2, none⟩) hb).trans (hc 2 _ rfl)
      simp only [Nat.add_zero] at e0
      clear hc
      have hbw : b < wr.heap.size := by omega
      cases done
      · cases hlo : lessU l[k].unit u
        · have CO := Lib.hid (fun W => hlo ▸ ref15Less l[k].unit u W)
          rcases un_tPosV (x := l[k].unit) (u := u) with h | h
          · have HU := Lib.hid h
            rw [h] at CO e0 e1
            have HLO := Lib.hid hlo
            clear h hlo
            go_wp2_with fail
            go_region_held3 (fun w' => (w'.cell? ⟨b, o + k * 3, none⟩ = some (.int .i64 u.acc) ∧ w'.cell? ⟨b, o + k * 3 + 1, none⟩ = some (.int .i64 u.cli)) ∧ (w'.cell? ⟨w.heap.size, 0, none⟩ = some (.int .i64 u.acc) ∧ w'.cell? ⟨w.heap.size, 1, none⟩ = some (.int .i64 u.cli))) (first | (simp [go_sem]; done) | (repeat' (first | (with_reducible assumption) | (with_reducible refine And.intro ?_ ?_) | (with_reducible refine cell_drew ?_) | (with_reducible refine cell_via (by with_reducible assumption) ?_ ?_) | (simp [*]; done) | (simp [go_sem]; done) | (with_reducible refine cell_alloc ?_ ?_) | (with_reducible refine cell_set_far ?_ ?_) | omega | (simp; omega)))) (first | (go_at_call 94; (with_reducible refine (CO.out _).mono ?_); rintro e w1 ⟨rfl, hb1⟩; obtain ⟨fc1, fg1, hc1, hf1, hz1⟩ := bget hb1; (try simp at hz1)) | fail)
            go_wp2_with (at_builtin; refine wpList_app rfl _ _ _ rfl elPosV wo.heap.size _ _ rfl (Hown.out.keep (by (repeat' (first | (with_reducible exact Below.refl _ _) | (with_reducible assumption) | (with_reducible refine Below.alloc ?_ ?_ _) | (with_reducible refine Below.setCell ?_ ?_ _) | (with_reducible refine Below.drew ?_) | (with_reducible refine below_drewN ?_ _) | (with_reducible refine below_via ?_ (by with_reducible assumption) ?_) | omega | (simp; done) | (simp; omega))))) (some ⟨_, 0, none⟩) 1 1 rfl [[.int .i64 u.acc, .int .i64 u.cli, .slice A3 N.length c3]] rfl (fun h => by cases h) (rd_oneN (by simp)) (row3PosV _ _ _ _ _) (by unfold maxLen; simp; omega) (by simp; omega) (by first | omega | (simp; done) | (simp; omega)) ?_; intro v5 w5 hown5 hb5; have HO5 := Lib.hid hown5; clear hown5; obtain ⟨fc5, fg5, hc5, hf5, hz5⟩ := bget hb5; (try simp at hz5))
            go_quiet (fail)
            go_wp2_with fail
            go_roundw
            case rel =>
              refine ⟨k + 1, ys ++ [⟨u, ⟨A3, c3, N⟩⟩], true, by omega, by go_num, rfl, ?_, ?_, ?_, ?_, by have hbl := Hbl.out; (repeat' (first | (with_reducible exact Below.refl _ _) | (with_reducible assumption) | (with_reducible refine Below.alloc ?_ ?_ _) | (with_reducible refine Below.setCell ?_ ?_ _) | (with_reducible refine Below.drew ?_) | (with_reducible refine below_drewN ?_ _) | (with_reducible refine below_via ?_ (by with_reducible assumption) ?_) | omega | (simp; done) | (simp; omega)))⟩
              · rw [← HW.out, hd.out, shG_4 (x := lgPosV l[k]) HU.out HLO.out]; first | done | (simp [List.map_append, lgPosV]; done)
              · (try simp only [List.length_append, List.length_cons, List.length_nil]); omega
              · (try rw [List.map_append]); exact HO5.out.keep (by (repeat' (first | (with_reducible exact Below.refl _ _) | (with_reducible assumption) | (with_reducible refine Below.alloc ?_ ?_ _) | (with_reducible refine Below.setCell ?_ ?_ _) | (with_reducible refine Below.drew ?_) | (with_reducible refine below_drewN ?_ _) | (with_reducible refine below_via ?_ (by with_reducible assumption) ?_) | omega | (simp; done) | (simp; omega))))
              · intro y hy
                (try simp only [List.mem_append, List.mem_cons, List.not_mem_nil, or_false] at hy)
                (rcases hy with hy | rfl; exact Hgd.out y hy; exact HNG.out)
            case measure => simp [intOf]; omega
          · have HU := Lib.hid (un_dPosV h)
            have HLO := Lib.hid hlo
            clear hlo
            rcases h with h | h
            all_goals
              go_wp2_with fail
              go_region_held3 (fun w' => (w'.cell? ⟨b, o + k * 3, none⟩ = some (.int .i64 l[k].unit.acc) ∧ w'.cell? ⟨b, o + k * 3 + 1, none⟩ = some (.int .i64 l[k].unit.cli)) ∧ (w'.cell? ⟨w.heap.size, 0, none⟩ = some (.int .i64 u.acc) ∧ w'.cell? ⟨w.heap.size, 1, none⟩ = some (.int .i64 u.cli))) (first | (simp [go_sem]; done) | (repeat' (first | (with_reducible assumption) | (with_reducible refine And.intro ?_ ?_) | (with_reducible refine cell_drew ?_) | (with_reducible refine cell_via (by with_reducible assumption) ?_ ?_) | (simp [*]; done) | (simp [go_sem]; done) | (with_reducible refine cell_alloc ?_ ?_) | (with_reducible refine cell_set_far ?_ ?_) | omega | (simp; omega)))) (first | (go_at_call 94; (with_reducible refine (CO.out _).mono ?_); rintro e w1 ⟨rfl, hb1⟩; obtain ⟨fc1, fg1, hc1, hf1, hz1⟩ := bget hb1; (try simp at hz1)) | fail)
              go_wp2_with (at_builtin; refine wpList_app rfl _ _ _ rfl elPosV wo.heap.size _ _ rfl (Hown.out.keep (by (repeat' (first | (with_reducible exact Below.refl _ _) | (with_reducible assumption) | (with_reducible refine Below.alloc ?_ ?_ _) | (with_reducible refine Below.setCell ?_ ?_ _) | (with_reducible refine Below.drew ?_) | (with_reducible refine below_drewN ?_ _) | (with_reducible refine below_via ?_ (by with_reducible assumption) ?_) | omega | (simp; done) | (simp; omega))))) (some ⟨_, 0, none⟩) 1 1 rfl [[.int .i64 u.acc, .int .i64 u.cli, .slice A3 N.length c3]] rfl (fun h => by cases h) (rd_oneN (by simp)) (row3PosV _ _ _ _ _) (by unfold maxLen; simp; omega) (by simp; omega) (by first | omega | (simp; done) | (simp; omega)) ?_; intro v5 w5 hown5 hb5; have HO5 := Lib.hid hown5; clear hown5; obtain ⟨fc5, fg5, hc5, hf5, hz5⟩ := bget hb5; (try simp at hz5))
              go_quiet (fail)
              go_wp2_with (at_builtin; refine wpList_app rfl _ _ _ rfl elPosV wo.heap.size _ _ rfl (HO5.out.keep (by (repeat' (first | (with_reducible exact Below.refl _ _) | (with_reducible assumption) | (with_reducible refine Below.alloc ?_ ?_ _) | (with_reducible refine Below.setCell ?_ ?_ _) | (with_reducible refine Below.drew ?_) | (with_reducible refine below_drewN ?_ _) | (with_reducible refine below_via ?_ (by with_reducible assumption) ?_) | omega | (simp; done) | (simp; omega))))) (some ⟨_, 0, none⟩) 1 1 rfl [[.int .i64 l[k].unit.acc, .int .i64 l[k].unit.cli, .slice l[k].legs.A l[k].legs.val.length l[k].legs.c]] rfl (fun h => by cases h) (rd_oneN (by simp)) (row3PosV _ _ _ _ _) (by unfold maxLen; simp; omega) (by simp; omega) (by first | omega | (simp; done) | (simp; omega)) ?_; intro v6 w6 hown6 hb6; have HO6 := Lib.hid hown6; clear hown6; obtain ⟨fc6, fg6, hc6, hf6, hz6⟩ := bget hb6; (try simp at hz6))
              go_roundw
              case rel =>
                refine ⟨k + 1, ys ++ [⟨u, ⟨A3, c3, N⟩⟩, l[k]], true, by omega, by go_num, rfl, ?_, ?_, ?_, ?_, by have hbl := Hbl.out; (repeat' (first | (with_reducible exact Below.refl _ _) | (with_reducible assumption) | (with_reducible refine Below.alloc ?_ ?_ _) | (with_reducible refine Below.setCell ?_ ?_ _) | (with_reducible refine Below.drew ?_) | (with_reducible refine below_drewN ?_ _) | (with_reducible refine below_via ?_ (by with_reducible assumption) ?_) | omega | (simp; done) | (simp; omega)))⟩
                · rw [← HW.out, hd.out, shG_5 (x := lgPosV l[k]) HU.out HLO.out]; first | done | (simp [List.map_append, lgPosV]; done)
                · (try simp only [List.length_append, List.length_cons, List.length_nil]); omega
                · (try rw [List.map_append]); (have h6 := HO6.out; rw [List.append_assoc] at h6; exact h6)
                · intro y hy
                  (try simp only [List.mem_append, List.mem_cons, List.not_mem_nil, or_false] at hy)
                  (rcases hy with hy | rfl | rfl; exact Hgd.out y hy; exact HNG.out; exact HGX.out)
              case measure => simp [intOf]; omega
        · have CO := Lib.hid (fun W => hlo ▸ ref15Less l[k].unit u W)
          have HLO := Lib.hid hlo
          have HU := Lib.hid (lessU_ne hlo)
          have hh : ((l[k].unit.acc == u.acc) = false) ∨ ((l[k].unit.cli == u.cli) = false) := neqUn (lessU_ne hlo)
          clear hlo
          rcases hh with h | h
          all_goals
            go_wp2_with fail
            go_region_held3 (fun w' => (w'.cell? ⟨b, o + k * 3, none⟩ = some (.int .i64 l[k].unit.acc) ∧ w'.cell? ⟨b, o + k * 3 + 1, none⟩ = some (.int .i64 l[k].unit.cli)) ∧ (w'.cell? ⟨w.heap.size, 0, none⟩ = some (.int .i64 u.acc) ∧ w'.cell? ⟨w.heap.size, 1, none⟩ = some (.int .i64 u.cli))) (first | (simp [go_sem]; done) | (repeat' (first | (with_reducible assumption) | (with_reducible refine And.intro ?_ ?_) | (with_reducible refine cell_drew ?_) | (with_reducible refine cell_via (by with_reducible assumption) ?_ ?_) | (simp [*]; done) | (simp [go_sem]; done) | (with_reducible refine cell_alloc ?_ ?_) | (with_reducible refine cell_set_far ?_ ?_) | omega | (simp; omega)))) (first | (go_at_call 94; (with_reducible refine (CO.out _).mono ?_); rintro e w1 ⟨rfl, hb1⟩; obtain ⟨fc1, fg1, hc1, hf1, hz1⟩ := bget hb1; (try simp at hz1)) | fail)
            go_wp2_with fail
            go_quiet (fail)
            go_wp2_with (at_builtin; refine wpList_app rfl _ _ _ rfl elPosV wo.heap.size _ _ rfl (Hown.out.keep (by (repeat' (first | (with_reducible exact Below.refl _ _) | (with_reducible assumption) | (with_reducible refine Below.alloc ?_ ?_ _) | (with_reducible refine Below.setCell ?_ ?_ _) | (with_reducible refine Below.drew ?_) | (with_reducible refine below_drewN ?_ _) | (with_reducible refine below_via ?_ (by with_reducible assumption) ?_) | omega | (simp; done) | (simp; omega))))) (some ⟨_, 0, none⟩) 1 1 rfl [[.int .i64 l[k].unit.acc, .int .i64 l[k].unit.cli, .slice l[k].legs.A l[k].legs.val.length l[k].legs.c]] rfl (fun h => by cases h) (rd_oneN (by simp)) (row3PosV _ _ _ _ _) (by unfold maxLen; simp; omega) (by simp; omega) (by first | omega | (simp; done) | (simp; omega)) ?_; intro v6 w6 hown6 hb6; have HO6 := Lib.hid hown6; clear hown6; obtain ⟨fc6, fg6, hc6, hf6, hz6⟩ := bget hb6; (try simp at hz6))
            go_roundw
            case rel =>
              refine ⟨k + 1, ys ++ [l[k]], false, by omega, by go_num, rfl, ?_, ?_, ?_, ?_, by have hbl := Hbl.out; (repeat' (first | (with_reducible exact Below.refl _ _) | (with_reducible assumption) | (with_reducible refine Below.alloc ?_ ?_ _) | (with_reducible refine Below.setCell ?_ ?_ _) | (with_reducible refine Below.drew ?_) | (with_reducible refine below_drewN ?_ _) | (with_reducible refine below_via ?_ (by with_reducible assumption) ?_) | omega | (simp; done) | (simp; omega)))⟩
              · rw [← HW.out, hd.out, shG_3 (x := lgPosV l[k]) HU.out HLO.out]; first | done | (simp [List.map_append, lgPosV]; done)
              · (try simp only [List.length_append, List.length_cons, List.length_nil]); omega
              · (try rw [List.map_append]); exact HO6.out
              · intro y hy
                (try simp only [List.mem_append, List.mem_cons, List.not_mem_nil, or_false] at hy)
                (rcases hy with hy | rfl; exact Hgd.out y hy; exact HGX.out)
            case measure => simp [intOf]; omega
      · rcases un_tPosV (x := l[k].unit) (u := u) with h | h
        · have HU := Lib.hid h
          rw [h] at e0 e1
          clear h
          go_wp2_with fail
          refine wp_region_held_drew (S := (fun w' => (w'.cell? ⟨w.heap.size, 0, none⟩ = some (.int .i64 u.acc) ∧ w'.cell? ⟨w.heap.size, 1, none⟩ = some (.int .i64 u.cli)))) (by kernel_rfl) ?_ (fun hHeld => ?_)
          · (first | (simp [go_sem]; done) | (repeat' (first | (with_reducible assumption) | (with_reducible refine And.intro ?_ ?_) | (with_reducible refine cell_drew ?_) | (with_reducible refine cell_via (by with_reducible assumption) ?_ ?_) | (simp [*]; done) | (simp [go_sem]; done) | (with_reducible refine cell_alloc ?_ ?_) | (with_reducible refine cell_set_far ?_ ?_) | omega | (simp; omega))))
          refine wpAnyH_take (i := 0) (v := ?_) rfl (by kernel_rfl) (by kernel_rfl) (by kernel_rfl) (fun _ _ _ h => h) (Or.inl ⟨by rfl, ?_⟩) (by assumption) ?_
          rotate_left
          focus (intro w hSw; (try dsimp only at hSw); go_simp; (try with_reducible rfl))
          (try simp only [Act.put, List.getElem_toArray, List.getElem_cons_zero, List.setIfInBounds_toArray, List.set_cons_zero, List.set_cons_succ])
          refine wpAnyH_take (i := 1) (v := ?_) rfl (by kernel_rfl) (by kernel_rfl) (by kernel_rfl) (fun _ _ _ h => h) (Or.inl ⟨by rfl, ?_⟩) (by assumption) ?_
          rotate_left
          focus (intro w hSw; (try dsimp only at hSw); go_simp; (try with_reducible rfl))
          (try simp only [Act.put, List.getElem_toArray, List.getElem_cons_succ, List.getElem_cons_zero, List.setIfInBounds_toArray, List.set_cons_zero, List.set_cons_succ])
          refine wpAnyH_take (i := 2) (v := ?_) rfl (by kernel_rfl) (by kernel_rfl) (by kernel_rfl) (fun _ _ _ h => h) (Or.inl ⟨by rfl, ?_⟩) (by assumption) ?_
          rotate_left
          focus (intro w hSw; (try dsimp only at hSw); go_simp; (try with_reducible rfl))
          (try simp only [Act.put, List.getElem_toArray, List.getElem_cons_succ, List.getElem_cons_zero, List.setIfInBounds_toArray, List.set_cons_zero, List.set_cons_succ])
          refine wpAnyH_take (i := 3) (v := undef) rfl (by kernel_rfl) (by kernel_rfl) (by kernel_rfl) (fun _ _ _ h => h) (Or.inr ⟨by rfl, rfl⟩) (by assumption) ?_
          (try simp only [Act.put, List.getElem_toArray, List.getElem_cons_succ, List.getElem_cons_zero, List.setIfInBounds_toArray, List.set_cons_zero, List.set_cons_succ])
          refine wpAnyH_take (i := 4) (v := undef) rfl (by kernel_rfl) (by kernel_rfl) (by kernel_rfl) (fun _ _ _ h => h) (Or.inr ⟨by rfl, rfl⟩) (by assumption) ?_
          (try simp only [Act.put, List.getElem_toArray, List.getElem_cons_succ, List.getElem_cons_zero, List.setIfInBounds_toArray, List.set_cons_zero, List.set_cons_succ])
          refine wpAnyH_take (i := 5) (v := undef) rfl (by kernel_rfl) (by kernel_rfl) (by kernel_rfl) (fun _ _ _ h => h) (Or.inr ⟨by rfl, rfl⟩) (by assumption) ?_
          (try simp only [Act.put, List.getElem_toArray, List.getElem_cons_succ, List.getElem_cons_zero, List.setIfInBounds_toArray, List.set_cons_zero, List.set_cons_succ])
          refine wpAnyH_take (i := 6) (v := undef) rfl (by kernel_rfl) (by kernel_rfl) (by kernel_rfl) (fun _ _ _ h => h) (Or.inr ⟨by rfl, rfl⟩) (by assumption) ?_
          (try simp only [Act.put, List.getElem_toArray, List.getElem_cons_succ, List.getElem_cons_zero, List.setIfInBounds_toArray, List.set_cons_zero, List.set_cons_succ])
          refine wpAnyH_take (i := 7) (v := undef) rfl (by kernel_rfl) (by kernel_rfl) (by kernel_rfl) (fun _ _ _ h => h) (Or.inr ⟨by rfl, rfl⟩) (by assumption) ?_
          (try simp only [Act.put, List.getElem_toArray, List.getElem_cons_succ, List.getElem_cons_zero, List.setIfInBounds_toArray, List.set_cons_zero, List.set_cons_succ])
          refine wpAnyH_take (i := 8) (v := undef) rfl (by kernel_rfl) (by kernel_rfl) (by kernel_rfl) (fun _ _ _ h => h) (Or.inr ⟨by rfl, rfl⟩) (by assumption) ?_
          (try simp only [Act.put, List.getElem_toArray, List.getElem_cons_succ, List.getElem_cons_zero, List.setIfInBounds_toArray, List.set_cons_zero, List.set_cons_succ])
          refine wpAnyH_take (i := 9) (v := undef) rfl (by kernel_rfl) (by kernel_rfl) (by kernel_rfl) (fun _ _ _ h => h) (Or.inr ⟨by rfl, rfl⟩) (by assumption) ?_
          (try simp only [Act.put, List.getElem_toArray, List.getElem_cons_succ, List.getElem_cons_zero, List.setIfInBounds_toArray, List.set_cons_zero, List.set_cons_succ])
          refine wpAnyH_take (i := 10) (v := undef) rfl (by kernel_rfl) (by kernel_rfl) (by kernel_rfl) (fun _ _ _ h => h) (Or.inr ⟨by rfl, rfl⟩) (by assumption) ?_
          (try simp only [Act.put, List.getElem_toArray, List.getElem_cons_succ, List.getElem_cons_zero, List.setIfInBounds_toArray, List.set_cons_zero, List.set_cons_succ])
          refine wpAnyH_take (i := 11) (v := ?_) rfl (by kernel_rfl) (by kernel_rfl) (by kernel_rfl) (fun _ _ _ h => h) (Or.inl ⟨by rfl, ?_⟩) (by assumption) ?_
          rotate_left
          focus (intro w hSw; (try dsimp only at hSw); go_simp; (try with_reducible rfl))
          (try simp only [Act.put, List.getElem_toArray, List.getElem_cons_succ, List.getElem_cons_zero, List.setIfInBounds_toArray, List.set_cons_zero, List.set_cons_succ])
          refine wpAnyH_done (by kernel_rfl) ?_ _
          go_wp2_with fail
          go_quiet (fail)
          go_wp2_with fail
          go_roundw
          case rel =>
            refine ⟨k + 1, ys, true, by omega, by go_num, rfl, ?_, ?_, ?_, ?_, by have hbl := Hbl.out; (repeat' (first | (with_reducible exact Below.refl _ _) | (with_reducible assumption) | (with_reducible refine Below.alloc ?_ ?_ _) | (with_reducible refine Below.setCell ?_ ?_ _) | (with_reducible refine Below.drew ?_) | (with_reducible refine below_drewN ?_ _) | (with_reducible refine below_via ?_ (by with_reducible assumption) ?_) | omega | (simp; done) | (simp; omega)))⟩
            · rw [← HW.out, hd.out, shG_1 (x := lgPosV l[k]) HU.out]; first | done | (simp [List.map_append, lgPosV]; done)
            · (try simp only [List.length_append, List.length_cons, List.length_nil]); omega
            · (try rw [List.map_append]); exact Hown.out.keep (by (repeat' (first | (with_reducible exact Below.refl _ _) | (with_reducible assumption) | (with_reducible refine Below.alloc ?_ ?_ _) | (with_reducible refine Below.setCell ?_ ?_ _) | (with_reducible refine Below.drew ?_) | (with_reducible refine below_drewN ?_ _) | (with_reducible refine below_via ?_ (by with_reducible assumption) ?_) | omega | (simp; done) | (simp; omega))))
            · intro y hy
              (try simp only [List.mem_append, List.mem_cons, List.not_mem_nil, or_false] at hy)
              exact Hgd.out y hy
          case measure => simp [intOf]; omega
        · have HU := Lib.hid (un_dPosV h)
          rcases h with h | h
          all_goals
            go_wp2_with fail
            refine wp_region_held_drew (S := (fun w' => (w'.cell? ⟨w.heap.size, 0, none⟩ = some (.int .i64 u.acc) ∧ w'.cell? ⟨w.heap.size, 1, none⟩ = some (.int .i64 u.cli)))) (by kernel_rfl) ?_ (fun hHeld => ?_)
            · (first | (simp [go_sem]; done) | (repeat' (first | (with_reducible assumption) | (with_reducible refine And.intro ?_ ?_) | (with_reducible refine cell_drew ?_) | (with_reducible refine cell_via (by with_reducible assumption) ?_ ?_) | (simp [*]; done) | (simp [go_sem]; done) | (with_reducible refine cell_alloc ?_ ?_) | (with_reducible refine cell_set_far ?_ ?_) | omega | (simp; omega))))
            refine wpAnyH_take (i := 0) (v := ?_) rfl (by kernel_rfl) (by kernel_rfl) (by kernel_rfl) (fun _ _ _ h => h) (Or.inl ⟨by rfl, ?_⟩) (by assumption) ?_
            rotate_left
            focus (intro w hSw; (try dsimp only at hSw); go_simp; (try with_reducible rfl))
            (try simp only [Act.put, List.getElem_toArray, List.getElem_cons_zero, List.setIfInBounds_toArray, List.set_cons_zero, List.set_cons_succ])
            refine wpAnyH_take (i := 1) (v := ?_) rfl (by kernel_rfl) (by kernel_rfl) (by kernel_rfl) (fun _ _ _ h => h) (Or.inl ⟨by rfl, ?_⟩) (by assumption) ?_
            rotate_left
            focus (intro w hSw; (try dsimp only at hSw); go_simp; (try with_reducible rfl))
            (try simp only [Act.put, List.getElem_toArray, List.getElem_cons_succ, List.getElem_cons_zero, List.setIfInBounds_toArray, List.set_cons_zero, List.set_cons_succ])
            refine wpAnyH_take (i := 2) (v := ?_) rfl (by kernel_rfl) (by kernel_rfl) (by kernel_rfl) (fun _ _ _ h => h) (Or.inl ⟨by rfl, ?_⟩) (by assumption) ?_
            rotate_left
            focus (intro w hSw; (try dsimp only at hSw); go_simp; (try with_reducible rfl))
            (try simp only [Act.put, List.getElem_toArray, List.getElem_cons_succ, List.getElem_cons_zero, List.setIfInBounds_toArray, List.set_cons_zero, List.set_cons_succ])
            refine wpAnyH_take (i := 3) (v := undef) rfl (by kernel_rfl) (by kernel_rfl) (by kernel_rfl) (fun _ _ _ h => h) (Or.inr ⟨by rfl, rfl⟩) (by assumption) ?_
            (try simp only [Act.put, List.getElem_toArray, List.getElem_cons_succ, List.getElem_cons_zero, List.setIfInBounds_toArray, List.set_cons_zero, List.set_cons_succ])
            refine wpAnyH_take (i := 4) (v := undef) rfl (by kernel_rfl) (by kernel_rfl) (by kernel_rfl) (fun _ _ _ h => h) (Or.inr ⟨by rfl, rfl⟩) (by assumption) ?_
            (try simp only [Act.put, List.getElem_toArray, List.getElem_cons_succ, List.getElem_cons_zero, List.setIfInBounds_toArray, List.set_cons_zero, List.set_cons_succ])
            refine wpAnyH_take (i := 5) (v := undef) rfl (by kernel_rfl) (by kernel_rfl) (by kernel_rfl) (fun _ _ _ h => h) (Or.inr ⟨by rfl, rfl⟩) (by assumption) ?_
            (try simp only [Act.put, List.getElem_toArray, List.getElem_cons_succ, List.getElem_cons_zero, List.setIfInBounds_toArray, List.set_cons_zero, List.set_cons_succ])
            refine wpAnyH_take (i := 6) (v := undef) rfl (by kernel_rfl) (by kernel_rfl) (by kernel_rfl) (fun _ _ _ h => h) (Or.inr ⟨by rfl, rfl⟩) (by assumption) ?_
            (try simp only [Act.put, List.getElem_toArray, List.getElem_cons_succ, List.getElem_cons_zero, List.setIfInBounds_toArray, List.set_cons_zero, List.set_cons_succ])
            refine wpAnyH_take (i := 7) (v := undef) rfl (by kernel_rfl) (by kernel_rfl) (by kernel_rfl) (fun _ _ _ h => h) (Or.inr ⟨by rfl, rfl⟩) (by assumption) ?_
            (try simp only [Act.put, List.getElem_toArray, List.getElem_cons_succ, List.getElem_cons_zero, List.setIfInBounds_toArray, List.set_cons_zero, List.set_cons_succ])
            refine wpAnyH_take (i := 8) (v := undef) rfl (by kernel_rfl) (by kernel_rfl) (by kernel_rfl) (fun _ _ _ h => h) (Or.inr ⟨by rfl, rfl⟩) (by assumption) ?_
            (try simp only [Act.put, List.getElem_toArray, List.getElem_cons_succ, List.getElem_cons_zero, List.setIfInBounds_toArray, List.set_cons_zero, List.set_cons_succ])
            refine wpAnyH_take (i := 9) (v := undef) rfl (by kernel_rfl) (by kernel_rfl) (by kernel_rfl) (fun _ _ _ h => h) (Or.inr ⟨by rfl, rfl⟩) (by assumption) ?_
            (try simp only [Act.put, List.getElem_toArray, List.getElem_cons_succ, List.getElem_cons_zero, List.setIfInBounds_toArray, List.set_cons_zero, List.set_cons_succ])
            refine wpAnyH_take (i := 10) (v := undef) rfl (by kernel_rfl) (by kernel_rfl) (by kernel_rfl) (fun _ _ _ h => h) (Or.inr ⟨by rfl, rfl⟩) (by assumption) ?_
            (try simp only [Act.put, List.getElem_toArray, List.getElem_cons_succ, List.getElem_cons_zero, List.setIfInBounds_toArray, List.set_cons_zero, List.set_cons_succ])
            refine wpAnyH_take (i := 11) (v := ?_) rfl (by kernel_rfl) (by kernel_rfl) (by kernel_rfl) (fun _ _ _ h => h) (Or.inl ⟨by rfl, ?_⟩) (by assumption) ?_
            rotate_left
            focus (intro w hSw; (try dsimp only at hSw); go_simp; (try with_reducible rfl))
            (try simp only [Act.put, List.getElem_toArray, List.getElem_cons_succ, List.getElem_cons_zero, List.setIfInBounds_toArray, List.set_cons_zero, List.set_cons_succ])
            refine wpAnyH_done (by kernel_rfl) ?_ _
            go_wp2_with fail
            go_quiet (fail)
            go_wp2_with (at_builtin; refine wpList_app rfl _ _ _ rfl elPosV wo.heap.size _ _ rfl (Hown.out.keep (by (repeat' (first | (with_reducible exact Below.refl _ _) | (with_reducible assumption) | (with_reducible refine Below.alloc ?_ ?_ _) | (with_reducible refine Below.setCell ?_ ?_ _) | (with_reducible refine Below.drew ?_) | (with_reducible refine below_drewN ?_ _) | (with_reducible refine below_via ?_ (by with_reducible assumption) ?_) | omega | (simp; done) | (simp; omega))))) (some ⟨_, 0, none⟩) 1 1 rfl [[.int .i64 l[k].unit.acc, .int .i64 l[k].unit.cli, .slice l[k].legs.A l[k].legs.val.length l[k].legs.c]] rfl (fun h => by cases h) (rd_oneN (by simp)) (row3PosV _ _ _ _ _) (by unfold maxLen; simp; omega) (by simp; omega) (by first | omega | (simp; done) | (simp; omega)) ?_; intro v6 w6 hown6 hb6; have HO6 := Lib.hid hown6; clear hown6; obtain ⟨fc6, fg6, hc6, hf6, hz6⟩ := bget hb6; (try simp at hz6))
            go_roundw
            case rel =>
              refine ⟨k + 1, ys ++ [l[k]], true, by omega, by go_num, rfl, ?_, ?_, ?_, ?_, by have hbl := Hbl.out; (repeat' (first | (with_reducible exact Below.refl _ _) | (with_reducible assumption) | (with_reducible refine Below.alloc ?_ ?_ _) | (with_reducible refine Below.setCell ?_ ?_ _) | (with_reducible refine Below.drew ?_) | (with_reducible refine below_drewN ?_ _) | (with_reducible refine below_via ?_ (by with_reducible assumption) ?_) | omega | (simp; done) | (simp; omega)))⟩
              · rw [← HW.out, hd.out, shG_2 (x := lgPosV l[k]) HU.out]; first | done | (simp [List.map_append, lgPosV]; done)
              · (try simp only [List.length_append, List.length_cons, List.length_nil]); omega
              · (try rw [List.map_append]); exact HO6.out
              · intro y hy
                (try simp only [List.mem_append, List.mem_cons, List.not_mem_nil, or_false] at hy)
                (rcases hy with hy | rfl; exact Hgd.out y hy; exact HGX.out)
            case measure => simp [intOf]; omega
    · have dl : decide ((k : Int) < (l.length : Int)) = false := by simpa using hlt
      have HD := Lib.hid (drop_all (l := l) (k := k) (by omega))
      cases done
      · go_wp2_with (at_builtin; refine wpList_app rfl _ _ _ rfl elPosV wo.heap.size _ _ rfl (Hown.out.keep (by (repeat' (first | (with_reducible exact Below.refl _ _) | (with_reducible assumption) | (with_reducible refine Below.alloc ?_ ?_ _) | (with_reducible refine Below.setCell ?_ ?_ _) | (with_reducible refine Below.drew ?_) | (with_reducible refine below_drewN ?_ _) | (with_reducible refine below_via ?_ (by with_reducible assumption) ?_) | omega | (simp; done) | (simp; omega))))) (some ⟨_, 0, none⟩) 1 1 rfl [[.int .i64 u.acc, .int .i64 u.cli, .slice A3 N.length c3]] rfl (fun h => by cases h) (rd_oneN (by simp)) (row3PosV _ _ _ _ _) (by unfold maxLen; simp; omega) (by simp; omega) (by first | omega | (simp; done) | (simp; omega)) ?_; intro v5 w5 hown5 hb5; have HO5 := Lib.hid hown5; clear hown5; obtain ⟨fc5, fg5, hc5, hf5, hz5⟩ := bget hb5; (try simp at hz5))
        go_ret2
        have h5 : Below wo.heap.size wo w5 := by have hbl := Hbl.out; (repeat' (first | (with_reducible exact Below.refl _ _) | (with_reducible assumption) | (with_reducible refine Below.alloc ?_ ?_ _) | (with_reducible refine Below.setCell ?_ ?_ _) | (with_reducible refine Below.drew ?_) | (with_reducible refine below_drewN ?_ _) | (with_reducible refine below_via ?_ (by with_reducible assumption) ?_) | omega | (simp; done) | (simp; omega)))
        refine ⟨_, ys ++ [⟨u, ⟨A3, c3, N⟩⟩], rfl, ?_, ?_, fun y hy => ?_, Hb03.out.trans (h5.mono Hb03.out.size)⟩
        · rw [← HW.out, HD.out, List.map_append]; first | done | rfl
        · rw [List.map_append]; exact HO5.out.mono Hb03.out.size
        · simp only [List.mem_append, List.mem_cons, List.not_mem_nil, or_false] at hy
          rcases hy with hy | rfl
          · exact (Hgd.out y hy).keep h5
          · exact HNG.out.keep h5
      · go_wp2_with fail
        go_ret2
        have h5 := Hbl.out
        refine ⟨_, ys, rfl, ?_, Hown.out.mono Hb03.out.size, fun y hy => (Hgd.out y hy).keep h5, Hb03.out.trans (h5.mono Hb03.out.size)⟩
        rw [← HW.out, HD.out]; simp [shG]
end Go.Proofs.Ytiidplinmempcaa
