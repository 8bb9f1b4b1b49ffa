/- Joined: Ref27, LotF, CvM, Frame, Open, AssetOpen, LotOpen. -/
import Derived.Test.YtalgfpegaobacaaJz9
import Derived.Test.YtalgfpegaobacaaJz11
import Derived.Test.YtalgfpegaobacaaJz12
import Derived.Test.YtalgfpegaobacaaJz10
import Derived.Test.YtalgfpegaobacaaJz1
import Derived.Test.YtalgfpegaobacaaJz5
import Derived.Deep.CutRange
import Derived.Deep.DeepCutAuto
import Derived.Test.YtalgfpegaobacaaChecked
import Derived.ProofKit
import Derived.Lib.SmallJoins
import Derived.Deep.Slices
/- Contract of the reference's Sum (27). -/
namespace Go.Proofs.Ytalgfpegaobacaa
open Go.RowKit
/-- Behind the worth: where it lies, the asset's cells. -/
def R27Cut (wr : World) (g12 : Nat) (y : Asset) (n : Int) (p : Value) (wx : World) : Prop :=
  ∃ g s A l c, p = .pointer (some ⟨g, 0, none⟩) ∧ wr.heap.size ≤ g ∧ g ≠ g12 ∧ Blk wx g 46 #[.bool s, .slice A (List.length l) c] ∧ IsBig wx n s A l c ∧ l.length ≤ 400 ∧ (g12 < wx.heap.size ∧ wx.cell? ⟨g12, 0, none⟩ = some (.int .i64 y.id) ∧ wx.cell? ⟨g12, 1, none⟩ = some (.int .i64 y.price) ∧ wx.cell? ⟨g12, 2, none⟩ = some (.int .i64 y.hair)) ∧ Below wr.heap.size wr wx
set_option maxRecDepth 100000 in
set_option maxHeartbeats 64000000 in
theorem ref27Sum (bo : Bool) (ats : List Asset) (l : List Lot) (cash : Int) (A B : Option Addr) (c d : Nat) (w : World) (ha : ats.length ≤ 1000000) (hok : ∀ a ∈ ats, okA a) (hl : l.length ≤ 40) (hcash : In64 cash) (hin : ∀ y ∈ l, In64 y.qty) (hra : Rd w A 3 (ats.map encAsset)) (hr : Rd w B 3 (l.map encLot)) :
    Calls Try.prog 7 #[.slice A ats.length c, .slice B l.length d, .int .i64 cash, .bool bo] w fun e w' => e = .returned (.tuple #[.int .i64 (rsNv bo ats l cash), .int .i64 (rsCv bo ats l cash)]) ∧ Below w.heap.size w w' := by
  have HR := Lib.hid hr
  have HIN := Lib.hid hin
  have HOK := Lib.hid hok
  have CF := Lib.hid (fun id W (h : Below w.heap.size w W) => ref12Find ats id A c W (by omega) (hra.keep h))
  have ci := fun W (h : Below w.heap.size w W) => ref18Is l B d W (by omega) (hr.keep h)
  have HC := Lib.hid (show rsCv bo ats l cash = if vaC worthE ats l = 0 then (if in64 (cash + refS bo ats l) then 0 else 7) else vaC worthE ats l from rfl)
  have HN := Lib.hid (show rsNv bo ats l cash = if vaC worthE ats l = 0 then (if in64 (cash + refS bo ats l) then cash + refS bo ats l else 0) else 0 from rfl)
  generalize rsCv bo ats l cash = RC at *
  generalize rsNv bo ats l cash = RN at *
  clear hr hin hra hok
  cases hi : isL l
  · rw [hi] at ci
    have CI := Lib.hid ci
    have HV := Lib.hid (show vaC worthE ats l = 3 from by unfold vaC; rw [hi]; rfl)
    clear ci hi
    go_enter Try.func7, Try.ntmps7
    go_wp2_with (first | (go_at_call 14; (with_reducible refine (CI.out _ (by (repeat' (first | (with_reducible exact Below.refl _ _) | (with_reducible assumption) | (with_reducible refine Below.alloc ?_ ?_ _) | (with_reducible refine Below.setCell ?_ ?_ _) | (with_reducible refine Below.drew ?_) | (with_reducible refine below_drewN ?_ _) | (with_reducible refine below_via ?_ (by with_reducible assumption) ?_) | omega | (simp; done) | (simp; omega))))).mono ?_); rintro e w1 ⟨rfl, hb1⟩; obtain ⟨fc1, fg1, hc1, hf1, hz1⟩ := bget hb1; (try simp at hz1)) | fail)
    go_ret2
    exact ⟨by rw [HC.out, HN.out, HV.out]; rfl, by (repeat' (first | (with_reducible exact Below.refl _ _) | (with_reducible assumption) | (with_reducible refine Below.alloc ?_ ?_ _) | (with_reducible refine Below.setCell ?_ ?_ _) | (with_reducible refine Below.drew ?_) | (with_reducible refine below_drewN ?_ _) | (with_reducible refine below_via ?_ (by with_reducible assumption) ?_) | omega | (simp; done) | (simp; omega)))⟩
  rw [hi] at ci
  have CI := Lib.hid ci
  have HVA := Lib.hid (show vaC worthE ats l = vC worthE ats l from by unfold vaC; rw [hi]; rfl)
  have HPOS := Lib.hid (fun x (hx : x ∈ l) => (rightL_iff.1 ((isL_sort hi).2.1 x hx)).2.2.2.2)
  clear ci hi
  go_enter Try.func7, Try.ntmps7
  go_wp2_with (first | (go_at_call 14; (with_reducible refine (CI.out _ (by (repeat' (first | (with_reducible exact Below.refl _ _) | (with_reducible assumption) | (with_reducible refine Below.alloc ?_ ?_ _) | (with_reducible refine Below.setCell ?_ ?_ _) | (with_reducible refine Below.drew ?_) | (with_reducible refine below_drewN ?_ _) | (with_reducible refine below_via ?_ (by with_reducible assumption) ?_) | omega | (simp; done) | (simp; omega))))).mono ?_); rintro e w1 ⟨rfl, hb1⟩; obtain ⟨fc1, fg1, hc1, hf1, hz1⟩ := bget hb1; (try simp at hz1)) | (go_at_call 15; (with_reducible refine (bigOf cash _ hcash).mono ?_); rintro e w2 ⟨s2, A2, l2, c2, rfl, hB2, hl2, hb2⟩; have HB2 := Lib.hid hB2; clear hB2; obtain ⟨fc2, fg2, hc2, hf2, hz2⟩ := bget hb2; (try simp at hz2)) | fail)
  have Hw2 := Lib.hid (show Below w.heap.size w w2 by (repeat' (first | (with_reducible exact Below.refl _ _) | (with_reducible assumption) | (with_reducible refine Below.alloc ?_ ?_ _) | (with_reducible refine Below.setCell ?_ ?_ _) | (with_reducible refine Below.drew ?_) | (with_reducible refine below_drewN ?_ _) | (with_reducible refine below_via ?_ (by with_reducible assumption) ?_) | omega | (simp; done) | (simp; omega))))
  have hzw2 : w.heap.size ≤ w2.heap.size := by omega
  clear hc1 hf1 hb1 hc2 hf2 hb2
  go_loopw [11] (fun i wr => ∃ (k : Nat) (s5 : Bool) (A5 : Option Addr) (l5 : List Int) (c5 : Nat), k ≤ l.length ∧ i = .int .i64 k ∧ vC worthE ats l = vC worthE ats (l.drop k) ∧ IsBig wr (cash + refS bo ats (l.take k)) s5 A5 l5 c5 ∧ l5.length ≤ 400 + k ∧ Blk wr w2.heap.size 46 #[.bool s5, .slice A5 l5.length c5] ∧ Below w2.heap.size w2 wr) (fun i _ => l.length - (intOf i).toNat)
  case atStart => exact ⟨0, s2, A2, l2, c2, Nat.zero_le _, rfl, rfl, by
    rw [show cash + refS bo ats (l.take 0) = cash from by simp [refS]]
    refine (HB2.out.keep ?_)
    (repeat' (first | (with_reducible exact Below.refl _ _) | (with_reducible assumption) | (with_reducible refine Below.alloc ?_ ?_ _) | (with_reducible refine Below.setCell ?_ ?_ _) | (with_reducible refine Below.drew ?_) | (with_reducible refine below_drewN ?_ _) | (with_reducible refine below_via ?_ (by with_reducible assumption) ?_) | omega | (simp; done) | (simp; omega))), by omega, Blk.here rfl, by (repeat' (first | (with_reducible exact Below.refl _ _) | (with_reducible assumption) | (with_reducible refine Below.alloc ?_ ?_ _) | (with_reducible refine Below.setCell ?_ ?_ _) | (with_reducible refine Below.drew ?_) | (with_reducible refine below_drewN ?_ _) | (with_reducible refine below_via ?_ (by with_reducible assumption) ?_) | omega | (simp; done) | (simp; omega)))⟩
  case round =>
    obtain ⟨k, s5, A5, l5, c5, hk, rfl, hv, hB5, hl5, hbk, hbl⟩ := hrel
    have hz := hbl.size
    have b0 := hbk.cell 0
    have b1 := hbk.cell 1
    have z0 := hbk.frozen 0
    have z1 := hbk.frozen 1
    have ug := hbk.lt
    simp [go_sem] at b0 b1
    have HV := Lib.hid hv
    have HB5 := Lib.hid hB5
    have Hbk := Lib.hid hbk
    have Hbl := Lib.hid hbl
    clear hv hB5 hbk hbl
    by_cases hlt : k < l.length
    · have dl : decide ((k : Int) < (l.length : Int)) = true := by simpa using hlt
      have kl : (k : Int) < (l.length : Int) := by omega
      obtain ⟨b, o, rfl, hb, hc⟩ := HR.out k (encLot l[k]) (by simp [hlt])
      have e0 := ((Hw2.out.trans (Hbl.out.mono hzw2)).cell (p := ⟨b, o + k * 3 + 0, none⟩) hb).trans (hc 0 _ rfl)
      have e2 := ((Hw2.out.trans (Hbl.out.mono hzw2)).cell (p := ⟨b, o + k * 3 + 2, none⟩) hb).trans (hc 2 _ rfl)
      simp only [Nat.add_zero] at e0
      clear hc
      have hbw : b < wr.heap.size := by omega
      have hbw2 : b < w2.heap.size := by omega
      have hq := HIN.out l[k] (List.getElem_mem hlt)
      have hqp := HPOS.out l[k] (List.getElem_mem hlt)
      have HD := Lib.hid (drop_cons' hlt)
      have HSN := Lib.hid (refS_snoc (b := bo) (ats := ats) hlt)
      have cf := CF.out l[k].asset
      cases hf : (findAsset ats l[k].asset).2
      · have HZ := Lib.hid (show vaC worthE ats l = 11 from by rw [HVA.out, HV.out, HD.out]; exact vC_none hf)
        rw [hf] at cf
        generalize (findAsset ats l[k].asset).1 = y at *
        have CFK := Lib.hid cf
        clear cf hf HD
        go_wp2_with (first | (go_at_call 16; (with_reducible refine (CFK.out _ (by have hbl := Hbl.out; have hw2 := Hw2.out; (repeat' (first | (with_reducible exact Below.refl _ _) | (with_reducible assumption) | (with_reducible refine Below.alloc ?_ ?_ _) | (with_reducible refine Below.setCell ?_ ?_ _) | (with_reducible refine Below.drew ?_) | (with_reducible refine below_drewN ?_ _) | (with_reducible refine below_via ?_ (by with_reducible assumption) ?_) | omega | (simp; done) | (simp; omega))))).mono ?_); rintro e w3 ⟨rfl, hb3⟩; obtain ⟨fc3, fg3, hc3, hf3, hz3⟩ := bget hb3; (try simp at hz3)) | fail)
        go_ret2
        exact ⟨by rw [HC.out, HN.out, HZ.out]; rfl, by have hbl := Hbl.out; have hw2 := Hw2.out; (repeat' (first | (with_reducible exact Below.refl _ _) | (with_reducible assumption) | (with_reducible refine Below.alloc ?_ ?_ _) | (with_reducible refine Below.setCell ?_ ?_ _) | (with_reducible refine Below.drew ?_) | (with_reducible refine below_drewN ?_ _) | (with_reducible refine below_via ?_ (by with_reducible assumption) ?_) | omega | (simp; done) | (simp; omega)))⟩
      have hy := find_ok HOK.out hf
      have HT := Lib.hid (show refT bo ats l[k] = if bo then countA (findAsset ats l[k].asset).1 l[k].qty else l[k].qty * (findAsset ats l[k].asset).1.price from rfl)
      have hw := fun (h0 : okE (l[k].qty * (findAsset ats l[k].asset).1.price) = 0) => vC_step (E := worthE) (t := l.drop (k + 1)) hf (show worthE _ _ = 0 from by unfold worthE; rw [if_pos hy]; exact h0)
      have hwb := fun (h0 : okE (l[k].qty * (findAsset ats l[k].asset).1.price) = 7) => vC_bad (E := worthE) (t := l.drop (k + 1)) hf (show worthE _ _ ≠ 0 from by unfold worthE; rw [if_pos hy, h0]; decide)
      have hwv := fun (h0 : okE (l[k].qty * (findAsset ats l[k].asset).1.price) = 7) => (show worthE (findAsset ats l[k].asset).1 l[k].qty = 7 from by unfold worthE; rw [if_pos hy]; exact h0)
      rw [hf] at cf
      clear hf
      generalize (findAsset ats l[k].asset).1 = y at *
      have hpr : In64 y.price := (okA_in hy).1
      have CFK := Lib.hid cf
      have HW := Lib.hid hw
      have HWB := Lib.hid hwb
      have HWV := Lib.hid hwv
      have HY := Lib.hid hy
      clear cf hw hwb hwv hy
      obtain ⟨pr, hprd⟩ : ∃ pr, pr = l[k].qty * y.price := ⟨_, rfl⟩
      have HPR := Lib.hid hprd.symm
      clear hprd
      go_upto_region 10 with (first | (go_at_call 16; (with_reducible refine (CFK.out _ (by have hbl := Hbl.out; have hw2 := Hw2.out; (repeat' (first | (with_reducible exact Below.refl _ _) | (with_reducible assumption) | (with_reducible refine Below.alloc ?_ ?_ _) | (with_reducible refine Below.setCell ?_ ?_ _) | (with_reducible refine Below.drew ?_) | (with_reducible refine below_drewN ?_ _) | (with_reducible refine below_via ?_ (by with_reducible assumption) ?_) | omega | (simp; done) | (simp; omega))))).mono ?_); rintro e w3 ⟨rfl, hb3⟩; obtain ⟨fc3, fg3, hc3, hf3, hz3⟩ := bget hb3; (try simp at hz3)) | fail)
      go_cut [14] from 38 to 44 (R27Cut wr w3.heap.size y pr)
      case first =>
        go_region_held3 (fun w' => (w'.cell? ⟨w3.heap.size, 0, none⟩ = some (.int .i64 y.id) ∧ w'.cell? ⟨w3.heap.size, 1, none⟩ = some (.int .i64 y.price) ∧ w'.cell? ⟨w3.heap.size, 2, none⟩ = some (.int .i64 y.hair)) ∧ w'.cell? ⟨b, o + k * 3 + 2, none⟩ = some (.int .i64 l[k].qty)) (first | (simp [go_sem]; done) | (repeat' (first | (with_reducible assumption) | (with_reducible refine And.intro ?_ ?_) | (with_reducible refine cell_drew ?_) | (with_reducible refine cell_via (by with_reducible assumption) ?_ ?_) | (simp [*]; done) | (simp [go_sem]; done) | (with_reducible refine cell_alloc ?_ ?_) | (with_reducible refine cell_set_far ?_ ?_) | omega | (simp; omega)))) (first | (go_at_call 17; (with_reducible refine (ref12Worth y l[k].qty _ hq hpr).mono ?_); rintro e w6 ⟨s6, A6, l6, c6, rfl, hB6, hl6, hb6⟩; have HB6 := Lib.hid hB6; clear hB6; obtain ⟨fc6, fg6, hc6, hf6, hz6⟩ := bget hb6; (try simp at hz6)) | fail)
        all_goals
          go_wp2_with fail
          go_meet
          refine ⟨_, s6, A6, l6, c6, rfl, (by first | omega | (simp; done) | (simp; omega)), by first | omega | (simp <;> omega), ?_, ?_, by omega, ⟨(by first | omega | (simp; done) | (simp; omega)), ?_, ?_, ?_⟩, by (repeat' (first | (with_reducible exact Below.refl _ _) | (with_reducible assumption) | (with_reducible refine Below.alloc ?_ ?_ _) | (with_reducible refine Below.setCell ?_ ?_ _) | (with_reducible refine Below.drew ?_) | (with_reducible refine below_drewN ?_ _) | (with_reducible refine below_via ?_ (by with_reducible assumption) ?_) | omega | (simp; done) | (simp; omega)))⟩
          · first
              | exact Blk.here rfl
              | (have h := (((show Blk w6 (w3.heap.size + 1) 46 #[.bool false, .slice none 0 0] by (repeat' (first | (with_reducible assumption) | (with_reducible refine Blk.drew ?_) | (with_reducible refine Blk.here ?_) | (with_reducible refine Blk.alloc ?_ _) | (with_reducible refine Blk.far ?_ ?_ _) | (with_reducible refine Blk.below ?_ (by with_reducible assumption) ?_) | omega | (simp; done) | (simp; omega)))).set 0 (.bool s6)).set 1 (.slice A6 l6.length c6)); simpa using h)
              | fail
          · (rw [← HPR.out]; first | (focus (refine HB6.out.keep ?_; (repeat' (first | (with_reducible exact Below.refl _ _) | (with_reducible assumption) | (with_reducible refine Below.alloc ?_ ?_ _) | (with_reducible refine Below.setCell ?_ ?_ _) | (with_reducible refine Below.drew ?_) | (with_reducible refine below_drewN ?_ _) | (with_reducible refine below_via ?_ (by with_reducible assumption) ?_) | omega | (simp; done) | (simp; omega))); done)) | ((repeat' (first | (with_reducible exact HB6.out) | (refine IsBig.far (v0 := .slice none 0 0) ?_ ?_ ?_ _; rotate_left; (focus (simp [go_sem, hc6]; done)); (focus (simp; done))) | (refine IsBig.far (v0 := .bool false) ?_ ?_ ?_ _; rotate_left; (focus (simp [go_sem, hc6]; done)); (focus (simp; done))) | fail))) | fail)
          all_goals (first | (simp [go_sem, hc6]; done) | (simp [go_sem, hc6, ↓IntWalk.iteOmega]; done))
      case rest =>
        obtain ⟨g, s6, A6, l6, c6, rfl, hg, hgn, hbk6, hB6, hl6, ⟨hg12, y0, y1, y2⟩, hbc⟩ := hcut
        have HB6 := Lib.hid hB6
        have p0 := hbk6.cell 0
        have p1 := hbk6.cell 1
        have q0 := hbk6.frozen 0
        have q1 := hbk6.frozen 1
        have ug6 := hbk6.lt
        simp [go_sem] at p0 p1
        generalize w3.heap.size = g12 at *
        have Hbc := Lib.hid hbc
        have hzc := hbc.size
        have b0c := (hbc.cell (p := ⟨w2.heap.size, 0, none⟩) ug).trans b0
        have b1c := (hbc.cell (p := ⟨w2.heap.size, 1, none⟩) ug).trans b1
        have z0c := (hbc.frozen (p := ⟨w2.heap.size, 0, none⟩) ug).trans z0
        have z1c := (hbc.frozen (p := ⟨w2.heap.size, 1, none⟩) ug).trans z1
        have ugc : w2.heap.size < wc.heap.size := by omega
        have e2c := (hbc.cell (p := ⟨b, o + k * 3 + 2, none⟩) hbw).trans e2
        have hbwc : b < wc.heap.size := by omega
        have hne1 : g ≠ w2.heap.size := by omega
        clear hB6 hbk6 hbc b0 b1 z0 z1 e0 e2
        cases h64 : in64 pr
        · have h7 : okE (l[k].qty * y.price) = 7 := by rw [HPR.out]; unfold okE; rw [h64]; rfl
          have HZ := Lib.hid (show vaC worthE ats l = 7 from by rw [HVA.out, HV.out, HD.out, HWB.out h7, HWV.out h7])
          have HF := Lib.hid h64
          clear h7 h64
          go_wp2_with (first | (go_at_call 18; (with_reducible refine (bigFits pr s6 l6 A6 c6 400 _ (by omega) hl6 (HB6.out.keep (by (repeat' (first | (with_reducible exact Below.refl _ _) | (with_reducible assumption) | (with_reducible refine Below.alloc ?_ ?_ _) | (with_reducible refine Below.setCell ?_ ?_ _) | (with_reducible refine Below.drew ?_) | (with_reducible refine below_drewN ?_ _) | (with_reducible refine below_via ?_ (by with_reducible assumption) ?_) | omega | (simp; done) | (simp; omega)))))).mono ?_); rw [HF.out]; rintro e w7 ⟨rfl, hb7⟩; obtain ⟨fc7, fg7, hc7, hf7, hz7⟩ := bget hb7; (try simp at hz7)) | fail)
          go_ret2
          exact ⟨by rw [HC.out, HN.out, HZ.out]; rfl, by have hbc := Hbc.out; have hbl := Hbl.out; have hw2 := Hw2.out; (repeat' (first | (with_reducible exact Below.refl _ _) | (with_reducible assumption) | (with_reducible refine Below.alloc ?_ ?_ _) | (with_reducible refine Below.setCell ?_ ?_ _) | (with_reducible refine Below.drew ?_) | (with_reducible refine below_drewN ?_ _) | (with_reducible refine below_via ?_ (by with_reducible assumption) ?_) | omega | (simp; done) | (simp; omega)))⟩
        · have h7 : okE (l[k].qty * y.price) = 0 := by rw [HPR.out]; unfold okE; rw [h64]; rfl
          have HVN := Lib.hid (show vC worthE ats l = vC worthE ats (l.drop (k + 1)) from by rw [HV.out, HD.out, HW.out h7])
          have HF := Lib.hid h64
          
          clear h7 h64
          have HSA := Lib.hid (show ∀ n, refT bo ats l[k] = n → cash + refS bo ats (l.take (k + 1)) = cash + refS bo ats (l.take k) + n from fun n hn => by rw [HSN.out, hn]; omega)
          cases bo
          · have HSK := Lib.hid (HSA.out pr (HT.out.trans ((if_neg (by decide)).trans HPR.out)))
            generalize cash + refS false ats (l.take k) = S at *
            go_wp2_with (first | (go_at_call 18; (with_reducible refine (bigFits pr s6 l6 A6 c6 400 _ (by omega) hl6 (HB6.out.keep (by (repeat' (first | (with_reducible exact Below.refl _ _) | (with_reducible assumption) | (with_reducible refine Below.alloc ?_ ?_ _) | (with_reducible refine Below.setCell ?_ ?_ _) | (with_reducible refine Below.drew ?_) | (with_reducible refine below_drewN ?_ _) | (with_reducible refine below_via ?_ (by with_reducible assumption) ?_) | omega | (simp; done) | (simp; omega)))))).mono ?_); rw [HF.out]; rintro e w7 ⟨rfl, hb7⟩; obtain ⟨fc7, fg7, hc7, hf7, hz7⟩ := bget hb7; (try simp at hz7)) | (go_at_call 20; (with_reducible refine (bigAdd S pr s5 s6 l5 l6 A5 A6 c5 c6 (400 + k) _ (by omega) (by omega) (by omega) (HB5.out.keep (by have hbc := Hbc.out; (repeat' (first | (with_reducible exact Below.refl _ _) | (with_reducible assumption) | (with_reducible refine Below.alloc ?_ ?_ _) | (with_reducible refine Below.setCell ?_ ?_ _) | (with_reducible refine Below.drew ?_) | (with_reducible refine below_drewN ?_ _) | (with_reducible refine below_via ?_ (by with_reducible assumption) ?_) | omega | (simp; done) | (simp; omega))))) (HB6.out.keep (by (repeat' (first | (with_reducible exact Below.refl _ _) | (with_reducible assumption) | (with_reducible refine Below.alloc ?_ ?_ _) | (with_reducible refine Below.setCell ?_ ?_ _) | (with_reducible refine Below.drew ?_) | (with_reducible refine below_drewN ?_ _) | (with_reducible refine below_via ?_ (by with_reducible assumption) ?_) | omega | (simp; done) | (simp; omega)))))).mono ?_); rintro e w9 ⟨s9, A9, l9, c9, rfl, hB9, hl9, hb9⟩; have HB9 := Lib.hid hB9; clear hB9; obtain ⟨fc9, fg9, hc9, hf9, hz9⟩ := bget hb9; (try simp at hz9)) | fail)
            go_wp2_with fail
            go_roundw
            case rel =>
              have h9 : Below wr.heap.size wr w9 := by have hbc := Hbc.out; (repeat' (first | (with_reducible exact Below.refl _ _) | (with_reducible assumption) | (with_reducible refine Below.alloc ?_ ?_ _) | (with_reducible refine Below.setCell ?_ ?_ _) | (with_reducible refine Below.drew ?_) | (with_reducible refine below_drewN ?_ _) | (with_reducible refine below_via ?_ (by with_reducible assumption) ?_) | omega | (simp; done) | (simp; omega)))
              have t0 : w9.cell? ⟨w2.heap.size, 0, none⟩ = some (.bool s5) := (h9.cell (p := ⟨w2.heap.size, 0, none⟩) ug).trans (by have h := Hbk.out.cell 0; simpa using h)
              have t1 : w9.cell? ⟨w2.heap.size, 1, none⟩ = some (.slice A5 l5.length c5) := (h9.cell (p := ⟨w2.heap.size, 1, none⟩) ug).trans (by have h := Hbk.out.cell 1; simpa using h)
              refine ⟨k + 1, s9, A9, l9, c9, by omega, by go_num, HVN.out, ?_, by omega, ?_, ?_⟩
              · rw [HSK.out]
                exact (HB9.out.far t0 (by simp) _).far ((World.cell?_setCell_other _ _ _ _ (by simp)).trans t1) (by simp) _
              · have h5 := ((Hbk.out.below h9 ug).set 0 (.bool s9)).set 1 (.slice A9 l9.length c9)
                simpa using h5
              · have hbl := Hbl.out
                (repeat' (first | (with_reducible exact Below.refl _ _) | (with_reducible assumption) | (with_reducible refine Below.alloc ?_ ?_ _) | (with_reducible refine Below.setCell ?_ ?_ _) | (with_reducible refine Below.drew ?_) | (with_reducible refine below_drewN ?_ _) | (with_reducible refine below_via ?_ (by with_reducible assumption) ?_) | omega | (simp; done) | (simp; omega)))
            case measure => (simp [intOf]; omega)
          · have HSK := Lib.hid (HSA.out (countA y l[k].qty) (HT.out.trans (if_pos rfl)))
            generalize cash + refS true ats (l.take k) = S at *
            generalize hcn : countA y l[k].qty = cn at *
            have CC := Lib.hid (fun W => hcn ▸ ref12Count y l[k].qty W hq HY.out)
            clear hcn
            go_wp2_with (first | (go_at_call 18; (with_reducible refine (bigFits pr s6 l6 A6 c6 400 _ (by omega) hl6 (HB6.out.keep (by (repeat' (first | (with_reducible exact Below.refl _ _) | (with_reducible assumption) | (with_reducible refine Below.alloc ?_ ?_ _) | (with_reducible refine Below.setCell ?_ ?_ _) | (with_reducible refine Below.drew ?_) | (with_reducible refine below_drewN ?_ _) | (with_reducible refine below_via ?_ (by with_reducible assumption) ?_) | omega | (simp; done) | (simp; omega)))))).mono ?_); rw [HF.out]; rintro e w7 ⟨rfl, hb7⟩; obtain ⟨fc7, fg7, hc7, hf7, hz7⟩ := bget hb7; (try simp at hz7)) | fail)
            go_region_held3 (fun w' => (w'.cell? ⟨g12, 0, none⟩ = some (.int .i64 y.id) ∧ w'.cell? ⟨g12, 1, none⟩ = some (.int .i64 y.price) ∧ w'.cell? ⟨g12, 2, none⟩ = some (.int .i64 y.hair)) ∧ w'.cell? ⟨b, o + k * 3 + 2, none⟩ = some (.int .i64 l[k].qty)) (first | (simp [go_sem]; done) | (repeat' (first | (with_reducible assumption) | (with_reducible refine And.intro ?_ ?_) | (with_reducible refine cell_drew ?_) | (with_reducible refine cell_via (by with_reducible assumption) ?_ ?_) | (simp [*]; done) | (simp [go_sem]; done) | (with_reducible refine cell_alloc ?_ ?_) | (with_reducible refine cell_set_far ?_ ?_) | omega | (simp; omega)))) (first | (go_at_call 19; (with_reducible refine (CC.out _).mono ?_); rintro e w8 ⟨s8, A8, l8, c8, rfl, hB8, hl8, hb8⟩; have HB8 := Lib.hid hB8; clear hB8; obtain ⟨fc8, fg8, hc8, hf8, hz8⟩ := bget hb8; (try simp at hz8)) | fail)
            all_goals
              go_wp2_with (first | (go_at_call 20; (with_reducible refine (bigAdd S cn s5 s8 l5 l8 A5 A8 c5 c8 (400 + k) _ (by omega) (by omega) (by omega) (HB5.out.keep (by have hbc := Hbc.out; (repeat' (first | (with_reducible exact Below.refl _ _) | (with_reducible assumption) | (with_reducible refine Below.alloc ?_ ?_ _) | (with_reducible refine Below.setCell ?_ ?_ _) | (with_reducible refine Below.drew ?_) | (with_reducible refine below_drewN ?_ _) | (with_reducible refine below_via ?_ (by with_reducible assumption) ?_) | omega | (simp; done) | (simp; omega))))) ((HB8.out.far (v0 := .bool s6) (by simp [hc8, hc7, p0, ↓IntWalk.iteOmega]) (by simp) _).far (v0 := .slice A6 l6.length c6) (by rw [World.cell?_setCell_other _ _ _ _ (by simp)]; simp [hc8, hc7, p1, ↓IntWalk.iteOmega]) (by simp) _)).mono ?_); rintro e w9 ⟨s9, A9, l9, c9, rfl, hB9, hl9, hb9⟩; have HB9 := Lib.hid hB9; clear hB9; obtain ⟨fc9, fg9, hc9, hf9, hz9⟩ := bget hb9; (try simp at hz9)) | fail)
              go_wp2_with fail
              go_roundw
              case rel =>
                have h9 : Below wr.heap.size wr w9 := by have hbc := Hbc.out; (repeat' (first | (with_reducible exact Below.refl _ _) | (with_reducible assumption) | (with_reducible refine Below.alloc ?_ ?_ _) | (with_reducible refine Below.setCell ?_ ?_ _) | (with_reducible refine Below.drew ?_) | (with_reducible refine below_drewN ?_ _) | (with_reducible refine below_via ?_ (by with_reducible assumption) ?_) | omega | (simp; done) | (simp; omega)))
                have t0 : w9.cell? ⟨w2.heap.size, 0, none⟩ = some (.bool s5) := (h9.cell (p := ⟨w2.heap.size, 0, none⟩) ug).trans (by have h := Hbk.out.cell 0; simpa using h)
                have t1 : w9.cell? ⟨w2.heap.size, 1, none⟩ = some (.slice A5 l5.length c5) := (h9.cell (p := ⟨w2.heap.size, 1, none⟩) ug).trans (by have h := Hbk.out.cell 1; simpa using h)
                refine ⟨k + 1, s9, A9, l9, c9, by omega, by go_num, HVN.out, ?_, by omega, ?_, ?_⟩
                · rw [HSK.out]
                  exact (HB9.out.far t0 (by simp) _).far ((World.cell?_setCell_other _ _ _ _ (by simp)).trans t1) (by simp) _
                · have h5 := ((Hbk.out.below h9 ug).set 0 (.bool s9)).set 1 (.slice A9 l9.length c9)
                  simpa using h5
                · have hbl := Hbl.out
                  (repeat' (first | (with_reducible exact Below.refl _ _) | (with_reducible assumption) | (with_reducible refine Below.alloc ?_ ?_ _) | (with_reducible refine Below.setCell ?_ ?_ _) | (with_reducible refine Below.drew ?_) | (with_reducible refine below_drewN ?_ _) | (with_reducible refine below_via ?_ (by with_reducible assumption) ?_) | omega | (simp; done) | (simp; omega)))
              case measure => (simp [intOf]; omega)
    · have dl : decide ((k : Int) < (l.length : Int)) = false := by simpa using hlt
      have HVZ := Lib.hid (show vaC worthE ats l = 0 from by rw [HVA.out, HV.out, List.drop_eq_nil_of_le (by omega)]; rfl)
      have hke : l.take k = l := List.take_of_length_le (by omega)
      rw [hke] at HB5
      generalize cash + refS bo ats l = S at *
      clear hke
      cases h64 : in64 S
      · have HF := Lib.hid h64
        clear h64
        go_wp2_with (first | (go_at_call 18; (with_reducible refine (bigFits S s5 l5 A5 c5 1000 _ (by omega) (by omega) (HB5.out.keep (by (repeat' (first | (with_reducible exact Below.refl _ _) | (with_reducible assumption) | (with_reducible refine Below.alloc ?_ ?_ _) | (with_reducible refine Below.setCell ?_ ?_ _) | (with_reducible refine Below.drew ?_) | (with_reducible refine below_drewN ?_ _) | (with_reducible refine below_via ?_ (by with_reducible assumption) ?_) | omega | (simp; done) | (simp; omega)))))).mono ?_); rw [HF.out]; rintro e w7 ⟨rfl, hb7⟩; obtain ⟨fc7, fg7, hc7, hf7, hz7⟩ := bget hb7; (try simp at hz7)) | fail)
        go_ret2
        exact ⟨by rw [HC.out, HN.out, HVZ.out, HF.out]; rfl, by have hbl := Hbl.out; have hw2 := Hw2.out; (repeat' (first | (with_reducible exact Below.refl _ _) | (with_reducible assumption) | (with_reducible refine Below.alloc ?_ ?_ _) | (with_reducible refine Below.setCell ?_ ?_ _) | (with_reducible refine Below.drew ?_) | (with_reducible refine below_drewN ?_ _) | (with_reducible refine below_via ?_ (by with_reducible assumption) ?_) | omega | (simp; done) | (simp; omega)))⟩
      · have HF := Lib.hid h64
        have h64i := in64_iff.1 h64
        clear h64
        go_wp2_with (first | (go_at_call 18; (with_reducible refine (bigFits S s5 l5 A5 c5 1000 _ (by omega) (by omega) (HB5.out.keep (by (repeat' (first | (with_reducible exact Below.refl _ _) | (with_reducible assumption) | (with_reducible refine Below.alloc ?_ ?_ _) | (with_reducible refine Below.setCell ?_ ?_ _) | (with_reducible refine Below.drew ?_) | (with_reducible refine below_drewN ?_ _) | (with_reducible refine below_via ?_ (by with_reducible assumption) ?_) | omega | (simp; done) | (simp; omega)))))).mono ?_); rw [HF.out]; rintro e w7 ⟨rfl, hb7⟩; obtain ⟨fc7, fg7, hc7, hf7, hz7⟩ := bget hb7; (try simp at hz7)) | (go_at_call 21; (with_reducible refine (bigInt S s5 l5 A5 c5 _ (by omega) h64i (HB5.out.keep (by (repeat' (first | (with_reducible exact Below.refl _ _) | (with_reducible assumption) | (with_reducible refine Below.alloc ?_ ?_ _) | (with_reducible refine Below.setCell ?_ ?_ _) | (with_reducible refine Below.drew ?_) | (with_reducible refine below_drewN ?_ _) | (with_reducible refine below_via ?_ (by with_reducible assumption) ?_) | omega | (simp; done) | (simp; omega)))))).mono ?_); rintro e w8 ⟨rfl, hb8⟩; obtain ⟨fc8, fg8, hc8, hf8, hz8⟩ := bget hb8; (try simp at hz8)) | fail)
        go_ret2
        exact ⟨by rw [HC.out, HN.out, HVZ.out, HF.out]; rfl, by have hbl := Hbl.out; have hw2 := Hw2.out; (repeat' (first | (with_reducible exact Below.refl _ _) | (with_reducible assumption) | (with_reducible refine Below.alloc ?_ ?_ _) | (with_reducible refine Below.setCell ?_ ?_ _) | (with_reducible refine Below.drew ?_) | (with_reducible refine below_drewN ?_ _) | (with_reducible refine below_via ?_ (by with_reducible assumption) ?_) | omega | (simp; done) | (simp; omega)))⟩
end Go.Proofs.Ytalgfpegaobacaa

/- Layer 18's laws: Few. -/
namespace Go.Proofs.Ytalgfpegaobacaa
open Go.RowKit
set_option maxRecDepth 100000 in
set_option maxHeartbeats 8000000 in
theorem law18Few (l : List Lot) (A : Option Addr) (c : Nat) (w : World) (hr : Rs w 3 (l.map encLot) A c) :
    Calls Try.prog 5 #[.slice A l.length c] w fun e w' => e = .returned (.slice A (l.take 20).length c) ∧ Below w.heap.size w w' := by
  have hlc : l.length ≤ c := by have := hr.cap; rw [List.length_map] at this; exact this
  have hcm := hr.room
  unfold maxLen at hcm
  by_cases h : 20 < l.length
  · have HN := Lib.hid (show (l.take 20).length = 20 from by rw [List.length_take]; omega)
    have d1 : decide (20 < (l.length : Int)) = true := by simp; omega
    obtain ⟨b, o, rfl, hq⟩ := hr.rd 0 (encLot (l[0]'(by omega))) (by rw [List.getElem?_map, List.getElem?_eq_getElem (by omega)]; rfl)
    rw [HN.out]
    clear hq hr
    go_enter Try.func5, Try.ntmps5
    go_wp2_with fail
    all_goals
      go_ret
      exact ⟨rfl, by (repeat' (first | (with_reducible exact Below.refl _ _) | (with_reducible assumption) | (with_reducible refine Below.alloc ?_ ?_ _) | (with_reducible refine Below.setCell ?_ ?_ _) | (with_reducible refine Below.drew ?_) | (with_reducible refine below_drewN ?_ _) | (with_reducible refine below_via ?_ (by with_reducible assumption) ?_) | omega | (simp; done) | (simp; omega)))⟩
  · rw [List.take_of_length_le (by omega)]
    have d1 : decide (20 < (l.length : Int)) = false := by simp; omega
    clear hr
    go_enter Try.func5, Try.ntmps5
    go_wp2_with fail
    go_ret
    exact ⟨rfl, by (repeat' (first | (with_reducible exact Below.refl _ _) | (with_reducible assumption) | (with_reducible refine Below.alloc ?_ ?_ _) | (with_reducible refine Below.setCell ?_ ?_ _) | (with_reducible refine Below.drew ?_) | (with_reducible refine below_drewN ?_ _) | (with_reducible refine below_via ?_ (by with_reducible assumption) ?_) | omega | (simp; done) | (simp; omega)))⟩
end Go.Proofs.Ytalgfpegaobacaa

/- Layer 27's laws: CoverValues. -/
namespace Go.Proofs.Ytalgfpegaobacaa
open Go.RowKit
theorem put_memAs {ob : Bool} {t : List Asset} {m x : Asset} (h : x ∈ putAssetL ob t m) : x ∈ t ∨ (x = m ∧ ob = true) := by
  unfold putAssetL at h
  split at h
  · rename_i hc
    unfold insAsset at h
    rcases List.mem_append.1 h with h | h
    · exact .inl (List.takeWhile_prefix _ |>.subset h)
    · rcases List.mem_cons.1 h with h | h
      · exact .inr ⟨h, hc.1⟩
      · exact .inl ((List.dropWhile_suffix _).subset h)
  · simp at h
theorem tab_okAs (l : List Asset) : ∀ k, ∀ x ∈ tabAssetN (fun x => decide (okA x)) l k, okA x := by
  intro k
  induction k with
  | zero => intro x hx; simp [tabAssetN] at hx
  | succ k ih =>
    intro x hx
    rcases Nat.lt_or_ge k l.length with h | h
    · rw [tabAssetN_succ h] at hx
      unfold stepAsset at hx
      split at hx
      · rcases put_memAs hx with h1 | ⟨h1, h2⟩
        · exact ih x h1
        · rw [h1]; exact of_decide_eq_true h2
      · exact ih x hx
    · rw [show tabAssetN (fun x => decide (okA x)) l (k + 1) = tabAssetN (fun x => decide (okA x)) l k from by unfold tabAssetN; rw [List.take_of_length_le (by omega), List.take_of_length_le h]] at hx
      exact ih x hx
set_option maxRecDepth 100000 in
set_option maxHeartbeats 16000000 in
theorem coverValuesW (l0 : List Asset) (m0 : List Lot) (cash : Int) (A B : Option Addr) (c d : Nat) (w : World) (hl : l0.length ≤ maxLen) (hcash : In64 cash) (hin : ∀ y ∈ m0, In64 y.qty) (hr : Rd w A 3 (l0.map encAsset)) (hm : Rs w 3 (m0.map encLot) B d) :
    Calls Try.prog 3 #[.slice A l0.length c, .slice B m0.length d, .int .i64 cash] w fun e w' => e = .returned (.bool true) ∧ Below w.heap.size w w' := by
  have hrt : Rd w B 3 ((m0.take 20).map encLot) := by have h := hm.take 20; rw [← List.map_take] at h; exact h.rd
  have hml : (m0.take 20).length ≤ 20 := by rw [List.length_take]; omega
  have hin2 : ∀ y ∈ m0.take 20, In64 y.qty := fun y hy => hin y (List.mem_of_mem_take hy)
  have CT := Lib.hid (fun W (h : Below w.heap.size w W) => ref12Table (fun x => decide (okA x)) l0 A c W hl (hr.keep h) (fun x _ W _ => ref12Is x W))
  have CF := Lib.hid (fun W (h : Below w.heap.size w W) => law18Few m0 B d W (hm.keep h))
  have hok := tab_okAs l0 8
  have htl := tabAssetN_len (fun x => decide (okA x)) l0 8
  generalize tabAssetN (fun x => decide (okA x)) l0 8 = t at *
  generalize m0.take 20 = m at *
  generalize m0.length = n0 at *
  generalize l0.length = n1 at *
  obtain ⟨v1, v2⟩ := val_ref hok m cash
  obtain ⟨v3, v4⟩ := wor_ref hok m
  have z0 : In64 0 := by unfold In64; omega
  have HRM := Lib.hid hrt
  have c1 := fun A1 c1 W (h : Below w.heap.size w W) (ht : Rd W A1 3 (t.map encAsset)) => coverValue t m cash A1 B c1 d W (by omega) (by omega) hcash hin2 ht (hrt.keep h)
  have c2 := fun A1 c1 W (h : Below w.heap.size w W) (ht : Rd W A1 3 (t.map encAsset)) => ref27Sum true t m cash A1 B c1 d W (by omega) hok (by omega) hcash hin2 ht (hrt.keep h)
  have c3 := fun A1 c1 W (h : Below w.heap.size w W) (ht : Rd W A1 3 (t.map encAsset)) => coverWorth t m A1 B c1 d W (by omega) (by omega) hin2 ht (hrt.keep h)
  have c4 := fun A1 c1 W (h : Below w.heap.size w W) (ht : Rd W A1 3 (t.map encAsset)) => ref27Sum false t m 0 A1 B c1 d W (by omega) hok (by omega) z0 hin2 ht (hrt.keep h)
  rw [v1, v2] at c1
  rw [v3, v4] at c3
  generalize rsNv true t m cash = a1 at *
  generalize rsCv true t m cash = a2 at *
  generalize rsNv false t m 0 = a3 at *
  generalize rsCv false t m 0 = a4 at *
  have C1 := Lib.hid c1
  have C2 := Lib.hid c2
  have C3 := Lib.hid c3
  have C4 := Lib.hid c4
  clear c1 c2 c3 c4 v1 v2 v3 v4 hrt hr hm hin hin2 hok
  go_enter Try.func3, Try.ntmps3
  go_wp2_with (first | (go_at_call 4; (with_reducible refine (CT.out _ (by (repeat' (first | (with_reducible exact Below.refl _ _) | (with_reducible assumption) | (with_reducible refine Below.alloc ?_ ?_ _) | (with_reducible refine Below.setCell ?_ ?_ _) | (with_reducible refine Below.drew ?_) | (with_reducible refine below_drewN ?_ _) | (with_reducible refine below_via ?_ (by with_reducible assumption) ?_) | omega | (simp; done) | (simp; omega))))).mono ?_); rintro e w1 ⟨v1, rfl, hown1, hb1⟩; obtain ⟨A1, c1, rfl, hms1, _⟩ := own_formAsset hown1; have H1 := Lib.hid hms1.rd; clear hown1 hms1; obtain ⟨fc1, fg1, hc1, hf1, hz1⟩ := bget hb1; (try simp at hz1)) | (go_at_call 5; (with_reducible refine (CF.out _ (by (repeat' (first | (with_reducible exact Below.refl _ _) | (with_reducible assumption) | (with_reducible refine Below.alloc ?_ ?_ _) | (with_reducible refine Below.setCell ?_ ?_ _) | (with_reducible refine Below.drew ?_) | (with_reducible refine below_drewN ?_ _) | (with_reducible refine below_via ?_ (by with_reducible assumption) ?_) | omega | (simp; done) | (simp; omega))))).mono ?_); rintro e w2 ⟨rfl, hb2⟩; obtain ⟨fc2, fg2, hc2, hf2, hz2⟩ := bget hb2; (try simp at hz2)) | (go_at_call 6; (with_reducible refine (C1.out _ _ _ (by (repeat' (first | (with_reducible exact Below.refl _ _) | (with_reducible assumption) | (with_reducible refine Below.alloc ?_ ?_ _) | (with_reducible refine Below.setCell ?_ ?_ _) | (with_reducible refine Below.drew ?_) | (with_reducible refine below_drewN ?_ _) | (with_reducible refine below_via ?_ (by with_reducible assumption) ?_) | omega | (simp; done) | (simp; omega)))) (H1.out.keep (by (repeat' (first | (with_reducible exact Below.refl _ _) | (with_reducible assumption) | (with_reducible refine Below.alloc ?_ ?_ _) | (with_reducible refine Below.setCell ?_ ?_ _) | (with_reducible refine Below.drew ?_) | (with_reducible refine below_drewN ?_ _) | (with_reducible refine below_via ?_ (by with_reducible assumption) ?_) | omega | (simp; done) | (simp; omega)))))).mono ?_); rintro e w3 ⟨rfl, hb3⟩; obtain ⟨fc3, fg3, hc3, hf3, hz3⟩ := bget hb3; (try simp at hz3)) | (go_at_call 7; (with_reducible refine (C2.out _ _ _ (by (repeat' (first | (with_reducible exact Below.refl _ _) | (with_reducible assumption) | (with_reducible refine Below.alloc ?_ ?_ _) | (with_reducible refine Below.setCell ?_ ?_ _) | (with_reducible refine Below.drew ?_) | (with_reducible refine below_drewN ?_ _) | (with_reducible refine below_via ?_ (by with_reducible assumption) ?_) | omega | (simp; done) | (simp; omega)))) (H1.out.keep (by (repeat' (first | (with_reducible exact Below.refl _ _) | (with_reducible assumption) | (with_reducible refine Below.alloc ?_ ?_ _) | (with_reducible refine Below.setCell ?_ ?_ _) | (with_reducible refine Below.drew ?_) | (with_reducible refine below_drewN ?_ _) | (with_reducible refine below_via ?_ (by with_reducible assumption) ?_) | omega | (simp; done) | (simp; omega)))))).mono ?_); rintro e w4 ⟨rfl, hb4⟩; obtain ⟨fc4, fg4, hc4, hf4, hz4⟩ := bget hb4; (try simp at hz4)) | (go_at_call 8; (with_reducible refine (C3.out _ _ _ (by (repeat' (first | (with_reducible exact Below.refl _ _) | (with_reducible assumption) | (with_reducible refine Below.alloc ?_ ?_ _) | (with_reducible refine Below.setCell ?_ ?_ _) | (with_reducible refine Below.drew ?_) | (with_reducible refine below_drewN ?_ _) | (with_reducible refine below_via ?_ (by with_reducible assumption) ?_) | omega | (simp; done) | (simp; omega)))) (H1.out.keep (by (repeat' (first | (with_reducible exact Below.refl _ _) | (with_reducible assumption) | (with_reducible refine Below.alloc ?_ ?_ _) | (with_reducible refine Below.setCell ?_ ?_ _) | (with_reducible refine Below.drew ?_) | (with_reducible refine below_drewN ?_ _) | (with_reducible refine below_via ?_ (by with_reducible assumption) ?_) | omega | (simp; done) | (simp; omega)))))).mono ?_); rintro e w5 ⟨rfl, hb5⟩; obtain ⟨fc5, fg5, hc5, hf5, hz5⟩ := bget hb5; (try simp at hz5)) | (go_at_call 7; (with_reducible refine (C4.out _ _ _ (by (repeat' (first | (with_reducible exact Below.refl _ _) | (with_reducible assumption) | (with_reducible refine Below.alloc ?_ ?_ _) | (with_reducible refine Below.setCell ?_ ?_ _) | (with_reducible refine Below.drew ?_) | (with_reducible refine below_drewN ?_ _) | (with_reducible refine below_via ?_ (by with_reducible assumption) ?_) | omega | (simp; done) | (simp; omega)))) (H1.out.keep (by (repeat' (first | (with_reducible exact Below.refl _ _) | (with_reducible assumption) | (with_reducible refine Below.alloc ?_ ?_ _) | (with_reducible refine Below.setCell ?_ ?_ _) | (with_reducible refine Below.drew ?_) | (with_reducible refine below_drewN ?_ _) | (with_reducible refine below_via ?_ (by with_reducible assumption) ?_) | omega | (simp; done) | (simp; omega)))))).mono ?_); rintro e w6 ⟨rfl, hb6⟩; obtain ⟨fc6, fg6, hc6, hf6, hz6⟩ := bget hb6; (try simp at hz6)) | (go_at_call 9; (with_reducible refine (law27lives _).mono ?_); rintro e w7 ⟨rfl, hb7⟩; obtain ⟨fc7, fg7, hc7, hf7, hz7⟩ := bget hb7; (try simp at hz7)) | fail)
  go_ret
  exact ⟨rfl, by (repeat' (first | (with_reducible exact Below.refl _ _) | (with_reducible assumption) | (with_reducible refine Below.alloc ?_ ?_ _) | (with_reducible refine Below.setCell ?_ ?_ _) | (with_reducible refine Below.drew ?_) | (with_reducible refine below_drewN ?_ _) | (with_reducible refine below_via ?_ (by with_reducible assumption) ?_) | omega | (simp; done) | (simp; omega)))⟩
end Go.Proofs.Ytalgfpegaobacaa

/- What every law's row asks of the call's end: the arguments read on as they did, where nothing below the heap's old size has turned. -/
namespace Go.Proofs.Ytalgfpegaobacaa
open Go.ChangeShapes Go.WideShapes Go.ChangeAt Go.RowKit Go.Joins
theorem Try.own : ownKnob Try.prog.godebug = none := by kernel_rfl
theorem Try.laidOut : laidOutB Try.prog = true := by kernel_rfl
theorem in64_of_wf {x : Int} (h : (Lit.int .i64 x).wf = true) : In64 x := by
  simp [Lit.wf, IntKind.min, IntKind.max, IntKind.signed, IntKind.bits] at h
  exact ⟨by omega, by omega⟩
theorem word_of_wf {x : Int} (h : (Lit.int .u64 x).wf = true) : 0 ≤ x ∧ x < 18446744073709551616 := by
  simp [Lit.wf, IntKind.min, IntKind.max, IntKind.signed, IntKind.bits] at h
  exact ⟨by omega, by omega⟩
theorem reads_on {H : Type} {enc : TypeId × Value → H} {W W' : World} (hb : Below W.heap.size W W') : ∀ {ts : List TypeId} {vs : List Value} {ds : List (DataW H)} {ps : List MemPlace},
    (∀ t ∈ ts, Try.prog.readableRec t = true ∧ t < Try.prog.types.size) → DataW.TrodAll enc Try.prog W 0 (fun _ => true) true ts vs ds ps → (∀ x ∈ ps, x.block < W.heap.size) →
    DataW.TrodAll enc Try.prog W' 0 (fun b => decide (b < W.heap.size)) true ts vs ds ps
  | [], _, _, _, _, h, _ => by
    obtain ⟨rfl, rfl, rfl⟩ := trodAll_nil h
    exact trodAll_mk0
  | t :: ts, _, _, _, ht, h, hl => by
    obtain ⟨v, vs, d, ds, p, q, rfl, rfl, rfl, h1, h2⟩ := trodAll_cons h
    have h3 := ht t (by simp)
    exact ⟨p, q, Below.trod Try.laidOut h3.1 h3.2 h1 hb (fun x hx => hl x (by simp [hx])), reads_on hb (fun t ht' => ht t (by simp [ht'])) h2 (fun x hx => hl x (by simp [hx])), rfl⟩
theorem law_ends {H : Type} {enc : TypeId × Value → H} {f : Func} {s : ChangeSpec} {W W' : World} {args : Array Value} {ds gs : List (DataW H)} {before : List MemPlace}
    (hW : DataW.Whole enc Try.prog f.params.toList s.vars false W args.toList ds gs before) (hvars : s.vars = []) (hts : ∀ t ∈ f.params.toList, Try.prog.readableRec t = true ∧ t < Try.prog.types.size)
    (hrt : f.resultTypes = #[4]) (hr : (s.fn H (ds ++ gs)).results = [.lit (.bool true)]) (ha : (s.fn H (ds ++ gs)).args = ds) (hv : (s.fn H (ds ++ gs)).vars = []) (hb : Below W.heap.size W W') :
    s.post enc Try.prog f false true false false W args (.bool true) W' := by
  have hW' := hW
  obtain ⟨p, q, hA, hV, rfl, hfz, hnd⟩ := hW
  rw [hvars] at hV
  obtain ⟨rfl, rfl⟩ := trodVars_none hV
  refine ⟨ds, [], _, [], p, [], hW', ?_, ?_, ?_, hb.frame _, fun h => by cases h⟩
  · rw [hrt, hr]; exact trodAll_mk1 (shut_bool Try.underlying4 _)
  · rw [ha]; exact reads_on hb hts hA (fun x hx => by simpa using hW'.lt x (by simp [hx]))
  · rw [hv, hvars]; rfl
end Go.Proofs.Ytalgfpegaobacaa

/- A slice, handed in: the list that it reads as. -/
namespace Go.Proofs.Ytalgfpegaobacaa
open Go.ChangeShapes Go.WideShapes Go.ChangeAt Go.RowKit Go.Joins Go.Deep
theorem block_lt {w : World} {a : Addr} {v : Value} (h : w.cell? a = some v) : a.block < w.heap.size := by
  rcases Nat.lt_or_ge a.block w.heap.size with h1 | h1
  · exact h1
  · unfold World.cell? at h
    rw [Array.getElem?_eq_none h1] at h
    split at h <;> simp_all
theorem list_choose {α : Type} {n : Nat} {p : Nat → α → Prop} (h : ∀ i, i < n → ∃ x, p i x) : ∃ l : List α, l.length = n ∧ ∀ i (hi : i < l.length), p i l[i] := by
  induction n with
  | zero => exact ⟨[], rfl, fun i hi => absurd hi (by simp)⟩
  | succ n ih =>
    obtain ⟨l, hl, hp⟩ := ih (fun i hi => h i (by omega))
    obtain ⟨x, hx⟩ := h n (by omega)
    refine ⟨l ++ [x], by simp [hl], fun i hi => ?_⟩
    simp at hi
    rcases Nat.lt_or_ge i l.length with h1 | h1
    · rw [List.getElem_append_left h1]; exact hp i h1
    · obtain rfl : i = l.length := by omega
      simp [hl]; exact hx
theorem slice_open0 {H : Type} {enc : TypeId × Value → H} {P : Program} {w : World} {spare : Nat → Bool} {held : Bool} {t e : TypeId} {k : Nat} {α : Type} {ok : α → Prop} {enc1 : α → List Value} {fuel : Nat} {cs0 : List Value} {y0 : DataW H × List MemPlace}
    (ht : P.underlying t = some (.slice e)) (ce : P.cellsOf e = k) (helem : ∀ (cs : List Value) (n : Nat) y, cs.length = k → DataW.trod enc P w 0 spare held n e cs = some y → ∃ x : α, ok x ∧ cs = enc1 x)
    (hk : ∀ x, ok x → (enc1 x).length = k) (hk0 : 0 < k) (hf : DataW.trod enc P w 0 spare held fuel t cs0 = some y0) :
    ∃ (l : List α) (A : Option Addr) (c : Nat), cs0 = [.slice A l.length c] ∧ (∀ x ∈ l, ok x) ∧ l.length ≤ c ∧ c ≤ maxLen ∧ (A = none → c = 0) ∧ Rd w A k (l.map enc1) := by
  rcases open_slice ht hf with ⟨hcs, _⟩ | ⟨a, len, cap, m, n, D, Pl, hcs, _, hl, hm, hmm, _, hall⟩
  · subst hcs
    exact ⟨[], none, 0, rfl, by simp, by simp, by simp, fun _ => rfl, fun i r hr => by simp at hr⟩
  · subst hcs
    have each : ∀ i, i < len → ∃ x : α, ok x ∧ ∀ j v, (enc1 x)[j]? = some v → w.cell? ((a.add (i * k)).add j) = some v := by
      intro i hi
      obtain ⟨cs, h1, h2⟩ := hall i (by rw [hmm]; split <;> omega)
      rw [ce] at h1
      obtain ⟨_, hlen, hcell⟩ := World.cells?_some h1
      obtain ⟨x, hx, rfl⟩ := helem cs n _ hlen h2
      refine ⟨x, hx, fun j v hv => ?_⟩
      have hj : j < k := by
        rw [← hlen]
        rcases Nat.lt_or_ge j (enc1 x).length with h3 | h3
        · exact h3
        · rw [List.getElem?_eq_none h3] at hv; cases hv
      rw [hcell j hj, hv]
    obtain ⟨l, hll, hp⟩ := list_choose each
    subst hll
    refine ⟨l, some a, cap, rfl, fun x hx => ?_, hl, hm, (fun h => by cases h), fun i r hr => ?_⟩
    · obtain ⟨i, hi, rfl⟩ := List.mem_iff_getElem.1 hx
      exact (hp i hi).1
    · rw [List.getElem?_map] at hr
      cases hli : l[i]? with
      | none => rw [hli] at hr; cases hr
      | some x =>
        rw [hli] at hr
        simp at hr
        subst hr
        obtain ⟨hi, rfl⟩ := List.getElem?_eq_some_iff.1 hli
        have hp2 := (hp i hi).2
        have hlk := hk _ (hp i hi).1
        obtain ⟨u, hu⟩ : ∃ u, (enc1 l[i])[0]? = some u := ⟨(enc1 l[i])[0], List.getElem?_eq_getElem (by omega)⟩
        have h0 := hp2 0 u hu
        obtain ⟨b, off, spot⟩ := a
        have hb : b < w.heap.size := by
          have := block_lt h0
          unfold Addr.add at this
          split at this <;> split at this <;> exact this
        by_cases hi0 : i = 0
        · subst hi0
          have hspot : spot = none := by simpa [Addr.add] using World.cell?_spot h0
          subst hspot
          refine ⟨b, off, rfl, hb, fun j v hv => ?_⟩
          have := hp2 j v hv
          rwa [add_plain, add_plain] at this
        · have hl0 : 0 < l.length := by omega
          have hlk0 := hk _ (hp 0 hl0).1
          obtain ⟨u0, hu0⟩ : ∃ u, (enc1 l[0])[0]? = some u := ⟨(enc1 l[0])[0], List.getElem?_eq_getElem (by omega)⟩
          have h00 := (hp 0 hl0).2 0 u0 hu0
          have hspot : spot = none := by simpa [Addr.add] using World.cell?_spot h00
          subst hspot
          refine ⟨b, off, rfl, hb, fun j v hv => ?_⟩
          have := hp2 j v hv
          rwa [add_plain, add_plain] at this
/-- A slice handed in, read row by row by a relation. -/
theorem slice_rel {H : Type} {enc : TypeId × Value → H} {P : Program} {w : World} {spare : Nat → Bool} {held : Bool} {t e : TypeId} {k : Nat} {α : Type} {R : List Value → α → Prop} {fuel : Nat} {cs0 : List Value} {y0 : DataW H × List MemPlace}
    (ht : P.underlying t = some (.slice e)) (ce : P.cellsOf e = k) (helem : ∀ (cs : List Value) (n : Nat) y, cs.length = k → DataW.trod enc P w 0 spare held n e cs = some y → ∃ x : α, R cs x ∧ cs.length = k)
    (hk0 : 0 < k) (hf : DataW.trod enc P w 0 spare held fuel t cs0 = some y0) :
    ∃ (l : List α) (rows : List (List Value)) (A : Option Addr) (c : Nat), cs0 = [.slice A l.length c] ∧ Each R rows l ∧ Rs w k rows A c := by
  obtain ⟨rows, A, c, h1, h2, h3, h4, h5, h6⟩ := slice_open0 (α := List Value) (ok := fun r => (∃ x, R r x) ∧ r.length = k) (enc1 := fun r => r) ht ce (fun cs n y hl hy => by
    obtain ⟨x, hx, hlen⟩ := helem cs n y hl hy
    exact ⟨cs, ⟨⟨x, hx⟩, hlen⟩, rfl⟩) (fun r h => h.2) hk0 hf
  obtain ⟨l, hl, hp⟩ := list_choose (n := rows.length) (p := fun i x => ∃ r, rows[i]? = some r ∧ R r x) (fun i hi => by
    obtain ⟨⟨x, hx⟩, _⟩ := h2 rows[i] (List.getElem_mem hi)
    exact ⟨x, rows[i], List.getElem?_eq_getElem hi, hx⟩)
  rw [List.map_id'] at h6
  refine ⟨l, rows, A, c, by rw [hl]; exact h1, ⟨hl.symm, fun i a b ha hb => ?_⟩, ⟨h6, h3, h4, h5⟩⟩
  obtain ⟨hi, rfl⟩ := List.getElem?_eq_some_iff.1 hb
  obtain ⟨r, hr, hx⟩ := hp i hi
  rw [ha] at hr
  injection hr with hr
  subst hr
  exact hx
theorem slice_open {H : Type} {enc : TypeId × Value → H} {P : Program} {w : World} {spare : Nat → Bool} {held : Bool} {t e : TypeId} {k : Nat} {α : Type} {ok : α → Prop} {enc1 : α → List Value} {v : Value} {d : DataW H} {ps : List MemPlace}
    (ht : P.underlying t = some (.slice e)) (ce : P.cellsOf e = k) (helem : ∀ (cs : List Value) (n : Nat) y, cs.length = k → DataW.trod enc P w 0 spare held n e cs = some y → ∃ x : α, ok x ∧ cs = enc1 x)
    (hk : ∀ x, ok x → (enc1 x).length = k) (hk0 : 0 < k) {r : Reach} {b0 : Nat} (hval : Value.okWide P w r b0 t v) (h : DataW.Trod enc P w 0 spare held t v d ps) :
    ∃ (l : List α) (A : Option Addr) (c : Nat), v = .slice A l.length c ∧ (∀ x ∈ l, ok x) ∧ l.length ≤ c ∧ c ≤ maxLen ∧ (A = none → c = 0) ∧ Rd w A k (l.map enc1) := by
  obtain ⟨a0, len0, cap0, rfl⟩ := okWide_slice ht hval
  obtain ⟨fuel, hf⟩ := h
  rcases open_slice ht hf with ⟨hcs, _⟩ | ⟨a, len, cap, m, n, D, Pl, hcs, _, hl, hm, hmm, _, hall⟩
  · simp [Value.cells] at hcs
    obtain ⟨rfl, rfl, rfl⟩ := hcs
    exact ⟨[], none, 0, rfl, by simp, by simp, by simp, fun _ => rfl, fun i r hr => by simp at hr⟩
  · simp [Value.cells] at hcs
    obtain ⟨rfl, rfl, rfl⟩ := hcs
    have each : ∀ i, i < len0 → ∃ x : α, ok x ∧ ∀ j v, (enc1 x)[j]? = some v → w.cell? ((a.add (i * k)).add j) = some v := by
      intro i hi
      obtain ⟨cs, h1, h2⟩ := hall i (by rw [hmm]; split <;> omega)
      rw [ce] at h1
      obtain ⟨_, hlen, hcell⟩ := World.cells?_some h1
      obtain ⟨x, hx, rfl⟩ := helem cs n _ hlen h2
      refine ⟨x, hx, fun j v hv => ?_⟩
      have hj : j < k := by
        rw [← hlen]
        rcases Nat.lt_or_ge j (enc1 x).length with h3 | h3
        · exact h3
        · rw [List.getElem?_eq_none h3] at hv; cases hv
      rw [hcell j hj, hv]
    obtain ⟨l, hll, hp⟩ := list_choose each
    subst hll
    refine ⟨l, some a, cap0, rfl, fun x hx => ?_, hl, hm, (fun h => by cases h), fun i r hr => ?_⟩
    · obtain ⟨i, hi, rfl⟩ := List.mem_iff_getElem.1 hx
      exact (hp i hi).1
    · rw [List.getElem?_map] at hr
      cases hli : l[i]? with
      | none => rw [hli] at hr; cases hr
      | some x =>
        rw [hli] at hr
        simp at hr
        subst hr
        obtain ⟨hi, rfl⟩ := List.getElem?_eq_some_iff.1 hli
        have hp2 := (hp i hi).2
        have hlk := hk _ (hp i hi).1
        obtain ⟨u, hu⟩ : ∃ u, (enc1 l[i])[0]? = some u := ⟨(enc1 l[i])[0], List.getElem?_eq_getElem (by omega)⟩
        have h0 := hp2 0 u hu
        obtain ⟨b, off, spot⟩ := a
        have hb : b < w.heap.size := by
          have := block_lt h0
          unfold Addr.add at this
          split at this <;> split at this <;> exact this
        by_cases hi0 : i = 0
        · subst hi0
          have hspot : spot = none := by simpa [Addr.add] using World.cell?_spot h0
          subst hspot
          refine ⟨b, off, rfl, hb, fun j v hv => ?_⟩
          have := hp2 j v hv
          rwa [add_plain, add_plain] at this
        · have hl0 : 0 < l.length := by omega
          have hlk0 := hk _ (hp 0 hl0).1
          obtain ⟨u0, hu0⟩ : ∃ u, (enc1 l[0])[0]? = some u := ⟨(enc1 l[0])[0], List.getElem?_eq_getElem (by omega)⟩
          have h00 := (hp 0 hl0).2 0 u0 hu0
          have hspot : spot = none := by simpa [Addr.add] using World.cell?_spot h00
          subst hspot
          refine ⟨b, off, rfl, hb, fun j v hv => ?_⟩
          have := hp2 j v hv
          rwa [add_plain, add_plain] at this
end Go.Proofs.Ytalgfpegaobacaa

/- Assets handed in. -/
namespace Go.Proofs.Ytalgfpegaobacaa
open Go.ChangeShapes Go.WideShapes Go.ChangeAt Go.RowKit Go.Joins
set_option maxRecDepth 100000 in
theorem Asset_cells {H : Type} {enc : TypeId × Value → H} {W : World} {spare : Nat → Bool} {held : Bool} (cs : List Value) (n : Nat) (y : DataW H × List MemPlace) (hlen : cs.length = 3) (h : DataW.trod enc Try.prog W 0 spare held n 37 cs = some y) : ∃ x : Asset, okAsset x ∧ cs = encAsset x := by
  obtain ⟨xs, n, _, rfl, _, hxs, hf⟩ := DataW.trod_struct Try.underlying37 h
  match cs, hlen, xs, hxs with
  | [c0, c1, c2], _, [y0, y1, y2], _ =>
    have h0 : DataW.trod enc Try.prog W 0 spare held n 3 (([c0, c1, c2].drop 0).take (Try.prog.cellsOf 3)) = some y0 := hf 0 _ rfl
    have h1 : DataW.trod enc Try.prog W 0 spare held n 2 (([c0, c1, c2].drop 1).take (Try.prog.cellsOf 2)) = some y1 := hf 1 _ rfl
    have h2 : DataW.trod enc Try.prog W 0 spare held n 2 (([c0, c1, c2].drop 2).take (Try.prog.cellsOf 2)) = some y2 := hf 2 _ rfl
    obtain ⟨x0, e0, _, w0⟩ := DataW.trod_int (k := .i64) (by kernel_rfl) h0
    rw [show Try.prog.cellsOf _ = 1 from by kernel_rfl] at e0
    simp at e0
    subst e0
    obtain ⟨x1, e1, _, w1⟩ := DataW.trod_int (k := .i64) (by kernel_rfl) h1
    rw [show Try.prog.cellsOf _ = 1 from by kernel_rfl] at e1
    simp at e1
    subst e1
    obtain ⟨x2, e2, _, w2⟩ := DataW.trod_int (k := .i64) (by kernel_rfl) h2
    rw [show Try.prog.cellsOf _ = 1 from by kernel_rfl] at e2
    simp at e2
    subst e2
    exact ⟨⟨x0, x1, x2⟩, ⟨in64_of_wf w0, in64_of_wf w1, in64_of_wf w2⟩, rfl⟩
set_option maxRecDepth 100000 in
theorem Asset_open {H : Type} {enc : TypeId × Value → H} {W : World} {spare : Nat → Bool} {held : Bool} {r : Reach} {b0 : Nat} {v : Value} {d : DataW H} {p : List MemPlace} (hv : Value.okWide Try.prog W r b0 37 v) (h : DataW.Trod enc Try.prog W 0 spare held 37 v d p) : ∃ x : Asset, okAsset x ∧ v = .agg #[.int .i64 x.id, .int .i64 x.price, .int .i64 x.hair] := by
  obtain ⟨cs, rfl, hsz⟩ := okWide_struct Try.underlying37 hv
  obtain ⟨fuel, hf⟩ := h
  rw [show Try.prog.cellsOf _ = 3 from by kernel_rfl] at hsz
  obtain ⟨x, hx, he⟩ := Asset_cells cs.toList fuel _ (by simpa using hsz) (by simpa [Value.cells] using hf)
  refine ⟨x, hx, ?_⟩
  obtain ⟨l⟩ := cs
  simp only at he
  rw [he]; rfl
set_option maxRecDepth 100000 in
theorem assets_open {H : Type} {enc : TypeId × Value → H} {W : World} {spare : Nat → Bool} {held : Bool} {base : Nat} {r : Reach} {v : Value} {d : DataW H} {p : List MemPlace}
    (hv : Value.okWide Try.prog W r base 22 v) (h : DataW.Trod enc Try.prog W 0 spare held 22 v d p) :
    ∃ (l : List Asset) (A : Option Addr) (c : Nat), v = .slice A l.length c ∧ l.length ≤ maxLen ∧ (∀ x ∈ l, okAsset x) ∧ Rs W 3 (l.map encAsset) A c := by
  obtain ⟨a0, len0, cap0, rfl⟩ := okWide_slice Try.underlying22 hv
  obtain ⟨fuel, hf⟩ := h
  obtain ⟨l, A, c, h1, h2, h3, h4, h5, h6⟩ := slice_open0 (enc1 := encAsset) Try.underlying22 (by kernel_rfl) (fun cs n y => Asset_cells cs n y) (fun _ _ => rfl) (by omega) hf
  simp [Value.cells] at h1
  obtain ⟨rfl, rfl, rfl⟩ := h1
  exact ⟨l, _, _, rfl, Nat.le_trans h3 h4, h2, ⟨h6, by rw [List.length_map]; exact h3, h4, h5⟩⟩
end Go.Proofs.Ytalgfpegaobacaa

/- Lots handed in. -/
namespace Go.Proofs.Ytalgfpegaobacaa
open Go.ChangeShapes Go.WideShapes Go.ChangeAt Go.RowKit Go.Joins
set_option maxRecDepth 100000 in
theorem Lot_cells {H : Type} {enc : TypeId × Value → H} {W : World} {spare : Nat → Bool} {held : Bool} (cs : List Value) (n : Nat) (y : DataW H × List MemPlace) (hlen : cs.length = 3) (h : DataW.trod enc Try.prog W 0 spare held n 51 cs = some y) : ∃ x : Lot, okLot x ∧ cs = encLot x := by
  obtain ⟨xs, n, _, rfl, _, hxs, hf⟩ := DataW.trod_struct Try.underlying51 h
  match cs, hlen, xs, hxs with
  | [c0, c1, c2], _, [y0, y1, y2], _ =>
    have h0 : DataW.trod enc Try.prog W 0 spare held n 3 (([c0, c1, c2].drop 0).take (Try.prog.cellsOf 3)) = some y0 := hf 0 _ rfl
    have h1 : DataW.trod enc Try.prog W 0 spare held n 3 (([c0, c1, c2].drop 1).take (Try.prog.cellsOf 3)) = some y1 := hf 1 _ rfl
    have h2 : DataW.trod enc Try.prog W 0 spare held n 2 (([c0, c1, c2].drop 2).take (Try.prog.cellsOf 2)) = some y2 := hf 2 _ rfl
    obtain ⟨x0, e0, _, w0⟩ := DataW.trod_int (k := .i64) (by kernel_rfl) h0
    rw [show Try.prog.cellsOf _ = 1 from by kernel_rfl] at e0
    simp at e0
    subst e0
    obtain ⟨x1, e1, _, w1⟩ := DataW.trod_int (k := .i64) (by kernel_rfl) h1
    rw [show Try.prog.cellsOf _ = 1 from by kernel_rfl] at e1
    simp at e1
    subst e1
    obtain ⟨x2, e2, _, w2⟩ := DataW.trod_int (k := .i64) (by kernel_rfl) h2
    rw [show Try.prog.cellsOf _ = 1 from by kernel_rfl] at e2
    simp at e2
    subst e2
    exact ⟨⟨x0, x1, x2⟩, ⟨in64_of_wf w0, in64_of_wf w1, in64_of_wf w2⟩, rfl⟩
set_option maxRecDepth 100000 in
theorem Lot_open {H : Type} {enc : TypeId × Value → H} {W : World} {spare : Nat → Bool} {held : Bool} {r : Reach} {b0 : Nat} {v : Value} {d : DataW H} {p : List MemPlace} (hv : Value.okWide Try.prog W r b0 51 v) (h : DataW.Trod enc Try.prog W 0 spare held 51 v d p) : ∃ x : Lot, okLot x ∧ v = .agg #[.int .i64 x.asset, .int .i64 x.tag, .int .i64 x.qty] := by
  obtain ⟨cs, rfl, hsz⟩ := okWide_struct Try.underlying51 hv
  obtain ⟨fuel, hf⟩ := h
  rw [show Try.prog.cellsOf _ = 3 from by kernel_rfl] at hsz
  obtain ⟨x, hx, he⟩ := Lot_cells cs.toList fuel _ (by simpa using hsz) (by simpa [Value.cells] using hf)
  refine ⟨x, hx, ?_⟩
  obtain ⟨l⟩ := cs
  simp only at he
  rw [he]; rfl
set_option maxRecDepth 100000 in
theorem lots_open {H : Type} {enc : TypeId × Value → H} {W : World} {spare : Nat → Bool} {held : Bool} {base : Nat} {r : Reach} {v : Value} {d : DataW H} {p : List MemPlace}
    (hv : Value.okWide Try.prog W r base 23 v) (h : DataW.Trod enc Try.prog W 0 spare held 23 v d p) :
    ∃ (l : List Lot) (A : Option Addr) (c : Nat), v = .slice A l.length c ∧ l.length ≤ maxLen ∧ (∀ x ∈ l, okLot x) ∧ Rs W 3 (l.map encLot) A c := by
  obtain ⟨a0, len0, cap0, rfl⟩ := okWide_slice Try.underlying23 hv
  obtain ⟨fuel, hf⟩ := h
  obtain ⟨l, A, c, h1, h2, h3, h4, h5, h6⟩ := slice_open0 (enc1 := encLot) Try.underlying23 (by kernel_rfl) (fun cs n y => Lot_cells cs n y) (fun _ _ => rfl) (by omega) hf
  simp [Value.cells] at h1
  obtain ⟨rfl, rfl, rfl⟩ := h1
  exact ⟨l, _, _, rfl, Nat.le_trans h3 h4, h2, ⟨h6, by rw [List.length_map]; exact h3, h4, h5⟩⟩
end Go.Proofs.Ytalgfpegaobacaa
