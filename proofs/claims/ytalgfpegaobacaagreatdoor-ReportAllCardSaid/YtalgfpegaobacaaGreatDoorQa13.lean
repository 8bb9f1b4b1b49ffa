/- Joined. -/
import Derived.Test.YtalgfpegaobacaaGreatDoorQa8
import Derived.Test.YtalgfpegaobacaaGreatDoorQz19
import Derived.Test.YtalgfpegaobacaaGreatDoorQa12
namespace Go.Proofs.YtalgfpegaobacaaGreatDoor
set_option linter.all false
set_option maxHeartbeats 64000000
set_option maxRecDepth 100000
open Go.RowKit
open Lib (hid)
def BigPost2 (w : World) (n : Int) (L : Nat) (code : Int) (e : Ending) (w' : World) : Prop :=
 ∃ s A l c, e = .returned (.tuple #[.agg #[.bool s, .slice A l.length c], .int .i64 code]) ∧ IsBig w' n s A l c ∧ l.length ≤ L ∧ Below w.heap.size w w'
theorem bigRet2 {fn : Func} {slot s2 : Nat} (hfn : fn.results = #[.cell slot 141, .tmp s2]) {a : Act} {w wf : World} {g L : Nat} {n code : Int} {s : Bool} {A : Option Addr} {l : List Int} {c : Nat}
  (ha : a.tmps[slot]?.getD undef = .pointer (some ⟨g, 0, none⟩)) (ha2 : a.tmps[s2]?.getD undef = .int .i64 code) (hd : a.defers = []) (h0 : wf.cell? ⟨g, 0, none⟩ = some (.bool false)) (h1 : wf.cell? ⟨g, 1, none⟩ = some (.slice none 0 0))
  (hB : IsBig wf n s A l c) (hl : l.length ≤ L) (hb : Below w.heap.size w ((wf.setCell ⟨g, 0, none⟩ (.bool s)).setCell ⟨g, 1, none⟩ (.slice A l.length c))) :
  bodyPost Tryz.prog fn (BigPost2 w n L code) .ret a ((wf.setCell ⟨g, 0, none⟩ (.bool s)).setCell ⟨g, 1, none⟩ (.slice A l.length c)) := by
 refine bodyPost_ret (v := .tuple #[.agg #[.bool s, .slice A l.length c], .int .i64 code]) (by simp [results, hfn, ha, ha2, go_sem, h0, h1]; try rfl) hd ⟨s, A, l, c, rfl, (hB.far h0 (by simp) _).far ((World.cell?_setCell_other _ _ _ _ (by simp)).trans h1) (by simp) _, hl, hb⟩
theorem ref13ShockV (x : InstV) (q s : Int) (A : Option Addr) (c : Nat) (w : World) (hq : In64 q) (hl : x.moves.val.length ≤ 1099511627776) (hr : Rd w A 1 (x.moves.val.map encI)) :
  Calls Tryz.prog 199 #[.agg #[.int .i64 x.id, .int .i64 x.mult, .int .i64 x.price, .int .i64 x.next, .slice A x.moves.val.length c], .int .i64 q, .int .i64 s] w (BigPost w (shockI (lgI x) q s) 300) :=
 ref13Shock (lgI x) q s A c w hq hl hr
theorem gn_snoc {t : List InstV} {l : List Leg} {s : Int} {k : Nat} (h : k < l.length) : gnN t (l.take (k + 1)) s = gnN t (l.take k) s + legS t s l[k] := by
 unfold gnN
 rw [map_snoc h, List.sum_append]; simp
theorem find_good {w : World} {t : List InstV} (hg : ∀ x ∈ t, GoodI w x) (id : Int) : GoodI w (findInstV t id).1 := by
 rcases idx_findV t id with ⟨k, hk, _, _, _, hf⟩ | ⟨_, _, hf⟩
 ·rw [hf]; exact hg t[k] (List.getElem_mem hk)
 ·rw [hf]; exact Rs.empty _ _
theorem ref24Loss (t : List InstV) (l : List Leg) (s : Int) (A B : Option Addr) (c d : Nat) (w : World) (ht : t.length ≤ 1000000) (hl : l.length ≤ 1000) (h64 : Legs64 l) (hrt : Rd w A 5 (t.map encInstV)) (hgt : ∀ x ∈ t, x.moves.val.length ≤ 1048576 ∧ GoodI w x) (hrl : Rd w B 2 (l.map encLeg)) :
  Calls Tryz.prog 179 #[.slice A t.length c, .slice B l.length d, .int .i64 s] w (BigPost2 w (lossN t l s) 2000 (lossC t l)) := by
 have HL := hid hrl
 have HT := hid hrt
 have H64 := hid h64
 have HCF := hid (fun id W h => ref13Find t id A c W (by omega) h)
 have HM := hid (fun id => find_moves (t := t) (id := id) fun x hx => (hgt x hx).1)
 have HGD := hid (fun id W (h : Below w.heap.size w W) => ((find_good (fun x hx => (hgt x hx).2) id).keep h))
 have CI := hid (fun W h => refIs11 l B d W (by omega) h)
 clear hrl h64 hrt hgt
 cases hv : isV l
 ·have HC := hid (show lossC t l = 3 from by unfold lossC; rw [hv]; rfl)
  have HN := hid (show lossN t l s = 0 from by unfold lossN; rw [hv]; rfl)
  rw [hv] at CI
  clear hv
  go_enter Tryz.func179, Tryz.ntmps179
  go_wp2_with (first | (go_at_call 92; (with_reducible refine cM (CI.out _ (HL.out.keep tB)) fun w1 hb1 fc1 fg1 hc1 hf1 hz1 => ?_); (try simp at hz1)) | fail)
  rw [HC.out, HN.out]
  exact bigRet2 (s := false) (A := none) (l := []) (c := 0) rfl rfl rfl rfl (by first | (simp [go_sem, *]; done) | (simp [go_sem, *, ↓IntWalk.iteOmega]; done)) (by first | (simp [go_sem, *]; done) | (simp [go_sem, *, ↓IntWalk.iteOmega]; done)) isBig_nil2 (by simp) tB
 have HV := hid hv
 rw [hv] at CI
 clear hv
 go_enter Tryz.func179, Tryz.ntmps179
 go_wp2_with (first | (go_at_call 92; (with_reducible refine cM (CI.out _ (HL.out.keep tB)) fun w1 hb1 fc1 fg1 hc1 hf1 hz1 => ?_); (try simp at hz1)) | fail)
 have Hb0 := hid (show Below (w.heap.size + 1) (w.alloc (.cells #[.bool false, .slice none 0 0] 141)) w1 from by exact tB)
 have hbk : Blk w1 (w.heap.size + 1) 141 #[.bool false, .slice none 0 0] := by exact tL
 clear hc1 hf1 hb1
 go_loopw [9] (fun i wr => ∃ (k : Nat) (s2 : Bool) (A2 : Option Addr) (l2 : List Int) (c2 : Nat), k ≤ l.length ∧ i = .int .i64 k ∧ known t (l.take k) = true ∧ IsBig wr (- gnN t (l.take k) s) s2 A2 l2 c2 ∧ l2.length ≤ 300 + k ∧ Blk wr (w.heap.size + 1) 141 #[.bool s2, .slice A2 l2.length c2] ∧ Below (w.heap.size + 1) (w.alloc (.cells #[.bool false, .slice none 0 0] 141)) wr) (fun i _ => l.length - (intOf i).toNat)
 case atStart => exact ⟨0, false, none, [], 0, Nat.zero_le _, rfl, rfl, isBig_nil2, by simp, hbk, Hb0.out⟩
 case round =>
  clear hbk Hb0
  obtain ⟨k, s2, A2, l2, c2, hk, rfl, hkn, hB2, hl2, hbk, hbl2⟩ := hrel
  have hz2 := hbl2.size
  simp at hz2
  have u0 : wr.cell? ⟨w.heap.size, 0, none⟩ = some (.bool false) := (hbl2.cell (p := ⟨w.heap.size, 0, none⟩) (by simp)).trans (by simp [go_sem])
  have u1 : wr.cell? ⟨w.heap.size, 1, none⟩ = some (.slice none 0 0) := (hbl2.cell (p := ⟨w.heap.size, 1, none⟩) (by simp)).trans (by simp [go_sem])
  have v0 : wr.frozen? ⟨w.heap.size, 0, none⟩ = false := (hbl2.frozen (p := ⟨w.heap.size, 0, none⟩) (by simp)).trans (by simp [go_sem])
  have v1 : wr.frozen? ⟨w.heap.size, 1, none⟩ = false := (hbl2.frozen (p := ⟨w.heap.size, 1, none⟩) (by simp)).trans (by simp [go_sem])
  have b0 := hbk.cell 0
  have b1 := hbk.cell 1
  have z0 := hbk.frozen 0
  have z1 := hbk.frozen 1
  have ug := hbk.lt
  simp at b0 b1
  have HB2 := hid hB2
  have HBK := hid hbk
  have HKN := hid hkn
  have Hbl := hid (show Below w.heap.size w wr from ((Below.refl _ _).alloc (Nat.le_refl _) _).trans (hbl2.mono (Nat.le_succ _)))
  have hz := Hbl.out.size
  have Hbl2 := hid hbl2
  clear hB2 hbk hkn hbl2
  by_cases hlt : k < l.length
  ·have kl : (k : Int) < (l.length : Int) := by omega
   have dl := @dT k l.length hlt
   obtain ⟨be, oe, rfl, hbe, hqe⟩ := HL.out k (encLeg l[k]) (by simp [hlt])
   replace hqe := fun j v hv => (Hbl.out.cell (p := ⟨be, oe + k * 2 + j, none⟩) hbe).trans (hqe j v hv)
   have e0 := hqe 0 _ rfl
   have e1 := hqe 1 _ rfl
   simp only [Nat.add_zero] at e0
   clear hqe
   have hbw : be < wr.heap.size := by omega
   have hq64 := hid (H64.out l[k] (List.getElem_mem hlt))
   have hgs := gn_snoc (t := t) (s := s) hlt
   have hno := known_no (t := t) hlt
   have hsn := known_snoc (t := t) hlt
   have hfm := HM.out l[k].inst
   have hgf := HGD.out l[k].inst
   have hcf := HCF.out l[k].inst
   have hls : legS t s l[k] = shockI (lgI (findInstV t l[k].inst).1) l[k].qty s := rfl
   generalize findInstV t l[k].inst = ff at *
   obtain ⟨fz, fb⟩ := ff
   simp only at hno hsn hfm hcf hls hgf
   obtain ⟨n, hn⟩ : ∃ n, n = legS t s l[k] := ⟨_, rfl⟩
   rw [← hn] at hls hgs
   have CF := hid hcf
   have HGF := hid (fun W h => (hgf W h).rd)
   have CS := hid (fun W h => hls ▸ ref13ShockV fz l[k].qty s fz.moves.A fz.moves.c W hq64.out (by omega) h)
   have HNO := hid hno
   have HSN := hid hsn
   have cb : ∀ (s3 : Bool) (l3 : List Int) (A3 : Option Addr) (c3 : Nat) (W : World), l3.length ≤ 300 → IsBig W (- gnN t (l.take k) s) s2 A2 l2 c2 → IsBig W n s3 A3 l3 c3 → Calls Tryz.prog 149 #[.agg #[.bool s2, .slice A2 l2.length c2], .agg #[.bool s3, .slice A3 l3.length c3]] W (BigPost W (- gnN t (l.take (k + 1)) s) (300 + k + 1)) := by
    intro s3 l3 A3 c3 W h1 h2 h3
    rw [show - gnN t (l.take (k + 1)) s = - gnN t (l.take k) s - n from by rw [hgs]; omega]
    exact bigSub (- gnN t (l.take k) s) n s2 s3 l2 l3 A2 A3 c2 c3 (300 + k) W (by omega) hl2 (Nat.le_trans h1 (by omega)) h2 h3
   have CB := hid cb
   clear cb hgs hno hsn hcf hls hn hfm hgf
   cases fb
   ·have HC := hid (show lossC t l = 11 from by unfold lossC; rw [HV.out, HNO.out rfl]; rfl)
    have HN := hid (show lossN t l s = 0 from by unfold lossN; rw [HV.out, HNO.out rfl]; rfl)
    go_wp2_with (first | (go_at_call 91; (with_reducible refine cM (CF.out _ (HT.out.keep (by have hbl := Hbl.out; exact tB))) fun w1 hb1 fc1 fg1 hc1 hf1 hz1 => ?_); (try simp at hz1)) | fail)
    have hbl := Hbl.out
    rw [HC.out, HN.out]
    exact bigRet2 (s := false) (A := none) (l := []) (c := 0) rfl rfl rfl rfl (by first | (simp [go_sem, *]; done) | (simp [go_sem, *, ↓IntWalk.iteOmega]; done)) (by first | (simp [go_sem, *]; done) | (simp [go_sem, *, ↓IntWalk.iteOmega]; done)) isBig_nil2 (by simp) tB
   ·go_wp2_with (first | (go_at_call 91; (with_reducible refine cM (CF.out _ (HT.out.keep (by have hbl := Hbl.out; exact tB))) fun w1 hb1 fc1 fg1 hc1 hf1 hz1 => ?_); (try simp at hz1)) | fail)
    refine wp_region_held_drew (S := (fun w' => (w'.cell? ⟨w1.heap.size, 0, none⟩ = some (.int .i64 fz.id) ∧ w'.cell? ⟨w1.heap.size, 1, none⟩ = some (.int .i64 fz.mult) ∧ w'.cell? ⟨w1.heap.size, 2, none⟩ = some (.int .i64 fz.price) ∧ w'.cell? ⟨w1.heap.size, 3, none⟩ = some (.int .i64 fz.next) ∧ w'.cell? ⟨w1.heap.size, 4, none⟩ = some (.slice fz.moves.A fz.moves.val.length fz.moves.c)) ∧ w'.cell? ⟨be, oe + k * 2 + 1, none⟩ = some (.int .i64 l[k].qty))) (by kernel_rfl) ?_ (fun hHeld => ?_)
    ·(exact tK)
    refine tQ 1 ?_
    refine tS ?_
    refine tQ 2 ?_
    refine tS ?_
    refine tQ 3 ?_
    refine tS ?_
    refine tQ 4 ?_
    refine tS ?_
    refine tQ 5 ?_
    refine tS ?_
    refine tQ 6 ?_
    refine tS ?_
    refine tQ 7 ?_
    refine tS ?_
    refine wpAnyH_ready (rs := [0, 8]) (by kernel_rfl) (by simp) ?_
    refine AllReadyH.cons rfl (fun K hK => ?_) (AllReadyH.cons rfl (fun K hK => ?_) AllReadyH.nil)
    ·(try simp only [List.getElem_toArray, List.getElem_cons_zero])
     go_simp
     (try go_wp2_with fail)
     refine hK.out _ _ ?_ (fun hHeld => ?_)
     focus ((exact tK); done)
     refine tS ?_
     refine tR (.cons (i := 8) rfl (fun K hK => ?_) .nil)
     refine tG ?_
     go_simp
     go_at_call 199
     with_reducible refine (CS.out _ (HGF.out _ (by have hbl := Hbl.out; exact tB))).mono ?_
     rintro e w3 ⟨s3, A3, l3, c3, rfl, hB3, hl3, hb3⟩
     have HB3 := hid hB3
     clear hB3
     obtain ⟨fc3, fg3, hc3, hf3, hz3⟩ := bget hb3; (try simp at hz3)
     refine hK.out _ _ ?_ (fun hHeld => ?_)
     focus ((exact tK); done)
     refine tS ?_
     refine tR (.cons (i := 9) rfl (fun K hK => ?_) .nil)
     refine tG ?_
     go_simp
     go_at_call 149
     with_reducible refine (CB.out s3 l3 A3 c3 _ hl3 (HB2.out.keep tB) (HB3.out.keep tB)).mono ?_
     rintro e w4 ⟨s4, A4, l4, c4, rfl, hB4, hl4, hb4⟩
     have HB4 := hid hB4
     clear hB4
     obtain ⟨fc4, fg4, hc4, hf4, hz4⟩ := bget hb4; (try simp at hz4)
     refine hK.out _ _ ?_ (fun hHeld => ?_)
     focus ((exact tK); done)
     refine tS ?_
     refine tR (.cons (i := 10) rfl (fun K hK => ?_) .nil)
     refine tG ?_
     go_simp
     go_wp2_with fail
     refine hK.out _ _ ?_ (fun hHeld => ?_)
     focus ((exact tK); done)
     refine tS ?_
     refine wpAnyH_done (by kernel_rfl) ?_ _
     go_wp2_with fail
     go_roundw
     case rel =>
      have h10 : Below wr.heap.size wr w4 := tB
      have hk10 := HBK.out.below h10 ug
      have t2 := hk10.cell 0
      have t3 := hk10.cell 1
      simp at t2 t3
      refine ⟨k + 1, s4, A4, l4, c4, by omega, by go_num, by rw [HSN.out, HKN.out]; rfl, ?_, by omega, ?_, ?_⟩
      ·exact (HB4.out.far t2 (by simp) _).far ((World.cell?_setCell_other _ _ _ _ (by simp)).trans t3) (by simp) _
      ·have h5 := (hk10.set 0 (.bool s4)).set 1 (.slice A4 l4.length c4)
       simpa using h5
      ·have hbl := Hbl2.out
       exact tB
     case measure => (simp [intOf]; omega)
    ·refine tG ?_
     go_simp
     go_at_call 199
     with_reducible refine (CS.out _ (HGF.out _ (by have hbl := Hbl.out; exact tB))).mono ?_
     rintro e w3 ⟨s3, A3, l3, c3, rfl, hB3, hl3, hb3⟩
     have HB3 := hid hB3
     clear hB3
     obtain ⟨fc3, fg3, hc3, hf3, hz3⟩ := bget hb3; (try simp at hz3)
     refine hK.out _ _ ?_ (fun hHeld => ?_)
     focus ((exact tK); done)
     refine tS ?_
     refine tR (.cons (i := 0) rfl (fun K hK => ?_) .nil)
     (try simp only [List.getElem_toArray, List.getElem_cons_zero])
     go_simp
     (try go_wp2_with fail)
     refine hK.out _ _ ?_ (fun hHeld => ?_)
     focus ((exact tK); done)
     refine tS ?_
     refine tR (.cons (i := 9) rfl (fun K hK => ?_) .nil)
     refine tG ?_
     go_simp
     go_at_call 149
     with_reducible refine (CB.out s3 l3 A3 c3 _ hl3 (HB2.out.keep tB) (HB3.out.keep tB)).mono ?_
     rintro e w4 ⟨s4, A4, l4, c4, rfl, hB4, hl4, hb4⟩
     have HB4 := hid hB4
     clear hB4
     obtain ⟨fc4, fg4, hc4, hf4, hz4⟩ := bget hb4; (try simp at hz4)
     refine hK.out _ _ ?_ (fun hHeld => ?_)
     focus ((exact tK); done)
     refine tS ?_
     refine tR (.cons (i := 10) rfl (fun K hK => ?_) .nil)
     refine tG ?_
     go_simp
     go_wp2_with fail
     refine hK.out _ _ ?_ (fun hHeld => ?_)
     focus ((exact tK); done)
     refine tS ?_
     refine wpAnyH_done (by kernel_rfl) ?_ _
     go_wp2_with fail
     go_roundw
     case rel =>
      have h10 : Below wr.heap.size wr w4 := tB
      have hk10 := HBK.out.below h10 ug
      have t2 := hk10.cell 0
      have t3 := hk10.cell 1
      simp at t2 t3
      refine ⟨k + 1, s4, A4, l4, c4, by omega, by go_num, by rw [HSN.out, HKN.out]; rfl, ?_, by omega, ?_, ?_⟩
      ·exact (HB4.out.far t2 (by simp) _).far ((World.cell?_setCell_other _ _ _ _ (by simp)).trans t3) (by simp) _
      ·have h5 := (hk10.set 0 (.bool s4)).set 1 (.slice A4 l4.length c4)
       simpa using h5
      ·have hbl := Hbl2.out
       exact tB
     case measure => (simp [intOf]; omega)
  ·have dl := @dF k l.length hlt
   have HTK := hid (show l.take k = l from List.take_of_length_le (by omega))
   have hkn := HKN.out
   rw [HTK.out] at hkn HB2
   have HC := hid (show lossC t l = 0 from by unfold lossC; rw [HV.out, hkn]; rfl)
   have HN := hid (show lossN t l s = - gnN t l s from by unfold lossN; rw [HV.out, hkn]; rfl)
   clear hkn
   go_wp2_with fail
   have hbl := Hbl.out
   rw [HC.out, HN.out]
   exact bigRet2 rfl rfl rfl rfl u0 u1 HB2.out (by omega) tB
def BigPost3 (w : World) (n : Int) (L : Nat) (at_ code : Int) (e : Ending) (w' : World) : Prop :=
 ∃ s A l c, e = .returned (.tuple #[.agg #[.bool s, .slice A l.length c], .int .i64 at_, .int .i64 code]) ∧ IsBig w' n s A l c ∧ l.length ≤ L ∧ Below w.heap.size w w'
theorem bigRet3 {fn : Func} {slot s2 s3 : Nat} (hfn : fn.results = #[.cell slot 141, .tmp s2, .tmp s3]) {a : Act} {w wf : World} {g L : Nat} {n at_ code : Int} {s : Bool} {A : Option Addr} {l : List Int} {c : Nat}
  (ha : a.tmps[slot]?.getD undef = .pointer (some ⟨g, 0, none⟩)) (ha2 : a.tmps[s2]?.getD undef = .int .i64 at_) (ha3 : a.tmps[s3]?.getD undef = .int .i64 code) (hd : a.defers = []) (h0 : wf.cell? ⟨g, 0, none⟩ = some (.bool false)) (h1 : wf.cell? ⟨g, 1, none⟩ = some (.slice none 0 0))
  (hB : IsBig wf n s A l c) (hl : l.length ≤ L) (hb : Below w.heap.size w ((wf.setCell ⟨g, 0, none⟩ (.bool s)).setCell ⟨g, 1, none⟩ (.slice A l.length c))) :
  bodyPost Tryz.prog fn (BigPost3 w n L at_ code) .ret a ((wf.setCell ⟨g, 0, none⟩ (.bool s)).setCell ⟨g, 1, none⟩ (.slice A l.length c)) := by
 refine bodyPost_ret (v := .tuple #[.agg #[.bool s, .slice A l.length c], .int .i64 at_, .int .i64 code]) (by simp [results, hfn, ha, ha2, ha3, go_sem, h0, h1]; try rfl) hd ⟨s, A, l, c, rfl, (hB.far h0 (by simp) _).far ((World.cell?_setCell_other _ _ _ _ (by simp)).trans h1) (by simp) _, hl, hb⟩
theorem ref24Most (t : List InstV) (l : List Leg) (A B : Option Addr) (c d : Nat) (w : World) (ht : t.length ≤ 1000000) (hl : l.length ≤ 1000) (h64 : Legs64 l) (hrt : Rd w A 5 (t.map encInstV)) (hgt : ∀ x ∈ t, x.moves.val.length ≤ 1048576 ∧ GoodI w x) (hrl : Rd w B 2 (l.map encLeg)) :
  Calls Tryz.prog 151 #[.slice A t.length c, .slice B l.length d] w (BigPost3 w (mostN (lossN t l) 8).1 2000 (mostN (lossN t l) 8).2 (lossC t l)) := by
 have CL := hid (fun W (h : Below w.heap.size w W) s => ref24Loss t l s A B c d W ht hl h64 (hrt.keep h) (fun x hx => ⟨(hgt x hx).1, (hgt x hx).2.keep h⟩) (hrl.keep h))
 have HZ := hid (fun h => most_zero (loss_no (t := t) (l := l) h) 8)
 generalize lossN t l = f at *
 generalize lossC t l = code at *
 clear ht hl h64 hrt hgt hrl
 by_cases h0 : code = 0
 ·subst h0
  have HST := hid (fun k => show mostN f (k + 1) = if (mostN f k).1 < f k then (f k, (k : Int)) else mostN f k from rfl)
  have HS0 := hid (show mostN f 0 = (0, -1) from rfl)
  generalize mostN f = M at *
  clear HZ
  go_enter Tryz.func151, Tryz.ntmps151
  go_wp2_with fail
  go_loopw [8, 9] (fun a i wr => ∃ (k : Nat) (s2 : Bool) (A2 : Option Addr) (l2 : List Int) (c2 : Nat), k ≤ 8 ∧ i = .int .i64 k ∧ a = .int .i64 (M k).2 ∧ IsBig wr (M k).1 s2 A2 l2 c2 ∧ l2.length ≤ 2000 ∧ Blk wr (w.heap.size + 1) 141 #[.bool s2, .slice A2 l2.length c2] ∧ Below (w.heap.size + 1) (w.alloc (.cells #[.bool false, .slice none 0 0] 141)) wr) (fun _ i _ => 8 - (intOf i).toNat)
  case atStart => exact ⟨0, false, none, [], 0, Nat.zero_le _, rfl, by rw [HS0.out], by rw [HS0.out]; exact isBig_nil2, by simp, Blk.here (by simp), tB⟩
  case round =>
   obtain ⟨k, s2, A2, l2, c2, hk, rfl, rfl, hB2, hl2, hbk, hbl2⟩ := hrel
   have hz2 := hbl2.size
   simp at hz2
   have u0 : wr.cell? ⟨w.heap.size, 0, none⟩ = some (.bool false) := (hbl2.cell (p := ⟨w.heap.size, 0, none⟩) (by simp)).trans (by simp [go_sem])
   have u1 : wr.cell? ⟨w.heap.size, 1, none⟩ = some (.slice none 0 0) := (hbl2.cell (p := ⟨w.heap.size, 1, none⟩) (by simp)).trans (by simp [go_sem])
   have v0 : wr.frozen? ⟨w.heap.size, 0, none⟩ = false := (hbl2.frozen (p := ⟨w.heap.size, 0, none⟩) (by simp)).trans (by simp [go_sem])
   have v1 : wr.frozen? ⟨w.heap.size, 1, none⟩ = false := (hbl2.frozen (p := ⟨w.heap.size, 1, none⟩) (by simp)).trans (by simp [go_sem])
   have Hbl := hid (show Below w.heap.size w wr from ((Below.refl _ _).alloc (Nat.le_refl _) _).trans (hbl2.mono (Nat.le_succ _)))
   have hz := Hbl.out.size
   have Hbl2 := hid hbl2
   clear hbl2
   have b0 := hbk.cell 0
   have b1 := hbk.cell 1
   have z0 := hbk.frozen 0
   have z1 := hbk.frozen 1
   have ug := hbk.lt
   simp at b0 b1
   have HB2 := hid hB2
   have HBK := hid hbk
   clear hB2 hbk
   by_cases hlt : k < 8
   ·have dl : decide ((k : Int) < 8) = true := by simp; omega
    have CK := hid (fun W (h : Below w.heap.size w W) => CL.out W h k)
    have hst := HST.out k
    obtain ⟨m, at_, hm⟩ : ∃ m at_, M k = (m, at_) := ⟨_, _, rfl⟩
    rw [hm] at hst HB2 ⊢
    simp only at hst HB2 ⊢
    obtain ⟨n, hn⟩ : ∃ n, n = f (k : Int) := ⟨_, rfl⟩
    rw [← hn] at CK hst
    clear hn hm
    by_cases hlt2 : m < n
    ·rw [if_pos hlt2] at hst
     have HO := hid (show ord n m = 1 from by unfold ord; rw [if_neg (by omega), if_pos hlt2])
     have HSK := hid hst
     clear hst hlt2
     go_wp2_with (first | (go_at_call 179; (with_reducible refine (CK.out _ (by have hbl := Hbl.out; exact tB)).mono ?_); rintro e w1 ⟨s1, A1, l1, c1, rfl, hB1, hl1, hb1⟩; have HB1 := hid hB1; clear hB1; obtain ⟨fc1, fg1, hc1, hf1, hz1⟩ := bget hb1; (try simp at hz1)) | (go_at_call 180; (with_reducible refine (bigCmp n m s1 s2 l1 l2 A1 A2 c1 c2 2000 _ (by omega) hl1 hl2 (HB1.out.keep tB) (HB2.out.keep tB)).mono ?_); rw [HO.out]; rintro e w2 ⟨rfl, hb2⟩; obtain ⟨fc2, fg2, hc2, hf2, hz2⟩ := bget hb2; (try simp at hz2)) | fail)
     go_roundw
     case rel =>
      have h12 : Below w1.heap.size w1 w2 := tB
      have h10 : Below wr.heap.size wr w2 := (by clear h12; exact tB)
      have hk10 := HBK.out.below h10 ug
      have t2 := hk10.cell 0
      have t3 := hk10.cell 1
      simp at t2 t3
      refine ⟨k + 1, s1, A1, l1, c1, by omega, by go_num, by rw [HSK.out], ?_, by omega, ?_, ?_⟩
      ·rw [HSK.out]
       exact ((HB1.out.keep h12).far t2 (by simp) _).far ((World.cell?_setCell_other _ _ _ _ (by simp)).trans t3) (by simp) _
      ·have h5 := (hk10.set 0 (.bool s1)).set 1 (.slice A1 l1.length c1)
       simpa using h5
      ·have hbl := Hbl2.out
       exact tB
     case measure => simp [intOf]; omega
    ·rw [if_neg hlt2] at hst
     have HSK := hid hst
     obtain ⟨oo, ho⟩ : ∃ oo, ord n m = oo := ⟨_, rfl⟩
     have d0 : decide (0 < oo) = false := by rw [← ho]; unfold ord; rw [if_neg hlt2]; split <;> simp
     have HO := hid ho
     clear hst hlt2 ho
     go_wp2_with (first | (go_at_call 179; (with_reducible refine (CK.out _ (by have hbl := Hbl.out; exact tB)).mono ?_); rintro e w1 ⟨s1, A1, l1, c1, rfl, hB1, hl1, hb1⟩; have HB1 := hid hB1; clear hB1; obtain ⟨fc1, fg1, hc1, hf1, hz1⟩ := bget hb1; (try simp at hz1)) | (go_at_call 180; (with_reducible refine (bigCmp n m s1 s2 l1 l2 A1 A2 c1 c2 2000 _ (by omega) hl1 hl2 (HB1.out.keep tB) (HB2.out.keep tB)).mono ?_); rw [HO.out]; rintro e w2 ⟨rfl, hb2⟩; obtain ⟨fc2, fg2, hc2, hf2, hz2⟩ := bget hb2; (try simp at hz2)) | fail)
     go_roundw
     case rel =>
      have h10 : Below wr.heap.size wr w2 := tB
      refine ⟨k + 1, s2, A2, l2, c2, by omega, by go_num, by rw [HSK.out], ?_, by omega, ?_, ?_⟩
      ·rw [HSK.out]
       exact HB2.out.keep h10
      ·exact HBK.out.below h10 ug
      ·have hbl := Hbl2.out
       exact tB
     case measure => simp [intOf]; omega
   ·obtain rfl : k = 8 := by omega
    go_wp2_with fail
    have hbl := Hbl.out
    exact bigRet3 rfl rfl rfl rfl rfl u0 u1 HB2.out (by omega) tB
 ·have hz := HZ.out h0
  have d0 : (code == 0) = false := by simpa using h0
  have CK := hid (fun W (h : Below w.heap.size w W) => CL.out W h 0)
  rw [hz]
  generalize f 0 = n at *
  clear HZ hz h0 CL
  go_enter Tryz.func151, Tryz.ntmps151
  go_wp2_with fail
  go_loopw [8, 9] (fun a i wr => i = .int .i64 0 ∧ Below (w.heap.size + 1) (w.alloc (.cells #[.bool false, .slice none 0 0] 141)) wr) (fun _ i _ => 8 - (intOf i).toNat)
  case atStart => exact ⟨rfl, tB⟩
  case round =>
   obtain ⟨rfl, hbl2⟩ := hrel
   have hz2 := hbl2.size
   simp at hz2
   have u0 : wr.cell? ⟨w.heap.size, 0, none⟩ = some (.bool false) := (hbl2.cell (p := ⟨w.heap.size, 0, none⟩) (by simp)).trans (by simp [go_sem])
   have u1 : wr.cell? ⟨w.heap.size, 1, none⟩ = some (.slice none 0 0) := (hbl2.cell (p := ⟨w.heap.size, 1, none⟩) (by simp)).trans (by simp [go_sem])
   have v0 : wr.frozen? ⟨w.heap.size, 0, none⟩ = false := (hbl2.frozen (p := ⟨w.heap.size, 0, none⟩) (by simp)).trans (by simp [go_sem])
   have v1 : wr.frozen? ⟨w.heap.size, 1, none⟩ = false := (hbl2.frozen (p := ⟨w.heap.size, 1, none⟩) (by simp)).trans (by simp [go_sem])
   have Hbl := hid (show Below w.heap.size w wr from ((Below.refl _ _).alloc (Nat.le_refl _) _).trans (hbl2.mono (Nat.le_succ _)))
   have hz := Hbl.out.size
   have Hbl2 := hid hbl2
   clear hbl2
   go_wp2_with (first | (go_at_call 179; (with_reducible refine (CK.out _ (by have hbl := Hbl.out; exact tB)).mono ?_); rintro e w1 ⟨s1, A1, l1, c1, rfl, hB1, hl1, hb1⟩; have HB1 := hid hB1; clear hB1; obtain ⟨fc1, fg1, hc1, hf1, hz1⟩ := bget hb1; (try simp at hz1)) | fail)
   have hbl := Hbl.out
   exact bigRet3 (s := false) (A := none) (l := []) (c := 0) rfl rfl rfl rfl rfl (by first | (simp [go_sem, *]; done) | (simp [go_sem, *, ↓IntWalk.iteOmega]; done)) (by first | (simp [go_sem, *]; done) | (simp [go_sem, *, ↓IntWalk.iteOmega]; done)) isBig_nil2 (by simp) tB
theorem ref24Margin (t : List InstV) (l : List Leg) (A B : Option Addr) (c d : Nat) (w : World) (ht : t.length ≤ 1000000) (hl : l.length ≤ 1000) (h64 : Legs64 l) (hrt : Rd w A 5 (t.map encInstV)) (hgt : ∀ x ∈ t, x.moves.val.length ≤ 1048576 ∧ GoodI w x) (hrl : Rd w B 2 (l.map encLeg)) :
  Calls Tryz.prog 127 #[.slice A t.length c, .slice B l.length d] w fun e w' => e = .returned (.tuple #[.int .i64 (marginN t l), .int .i64 (marginC t l)]) ∧ Below w.heap.size w w' := by
 have CM := hid (fun W (h : Below w.heap.size w W) => ref24Most t l A B c d W ht hl h64 (hrt.keep h) (fun x hx => ⟨(hgt x hx).1, (hgt x hx).2.keep h⟩) (hrl.keep h))
 have hmn : marginN t l = if lossC t l = 0 then (if in64 (mostN (lossN t l) 8).1 then (mostN (lossN t l) 8).1 else 0) else 0 := rfl
 have hmc : marginC t l = if lossC t l = 0 then (if in64 (mostN (lossN t l) 8).1 then 0 else 7) else lossC t l := rfl
 generalize marginN t l = mn at *
 generalize marginC t l = mc at *
 generalize mostN (lossN t l) 8 = M at *
 obtain ⟨m, at_⟩ := M
 simp only at CM hmn hmc
 generalize lossC t l = code at *
 clear ht hl h64 hrt hgt hrl
 by_cases h0 : code = 0
 ·subst h0
  rw [if_pos rfl] at hmn hmc
  cases h64 : in64 m
  ·rw [h64] at hmn hmc
   simp only [Bool.false_eq_true, if_false] at hmn hmc
   subst hmn hmc
   have H64 := hid h64
   clear h64
   go_enter Tryz.func127, Tryz.ntmps127
   go_wp2_with (first | (go_at_call 151; (with_reducible refine (CM.out _ tB).mono ?_); rintro e w1 ⟨s1, A1, l1, c1, rfl, hB1, hl1, hb1⟩; have HB1 := hid hB1; clear hB1; obtain ⟨fc1, fg1, hc1, hf1, hz1⟩ := bget hb1; (try simp at hz1)) | (go_at_call 119; (with_reducible refine (bigFits m s1 l1 A1 c1 2000 _ (by omega) hl1 (HB1.out.keep tB)).mono ?_); rw [H64.out]; rintro e w2 ⟨rfl, hb2⟩; obtain ⟨fc2, fg2, hc2, hf2, hz2⟩ := bget hb2; (try simp at hz2)) | fail)
   go_ret2
   exact ⟨rfl, tB⟩
  ·rw [h64] at hmn hmc
   simp only [if_true] at hmn hmc
   subst hmn hmc
   have H64 := hid h64
   have HI := hid (in64_iff.1 h64)
   clear h64
   go_enter Tryz.func127, Tryz.ntmps127
   go_wp2_with (first | (go_at_call 151; (with_reducible refine (CM.out _ tB).mono ?_); rintro e w1 ⟨s1, A1, l1, c1, rfl, hB1, hl1, hb1⟩; have HB1 := hid hB1; clear hB1; obtain ⟨fc1, fg1, hc1, hf1, hz1⟩ := bget hb1; (try simp at hz1)) | (go_at_call 119; (with_reducible refine (bigFits mn s1 l1 A1 c1 2000 _ (by omega) hl1 (HB1.out.keep tB)).mono ?_); rw [H64.out]; rintro e w2 ⟨rfl, hb2⟩; obtain ⟨fc2, fg2, hc2, hf2, hz2⟩ := bget hb2; (try simp at hz2)) | (go_at_call 120; (with_reducible refine cM (bigInt mn s1 l1 A1 c1 _ (by omega) HI.out (HB1.out.keep tB)) fun w3 hb3 fc3 fg3 hc3 hf3 hz3 => ?_); (try simp at hz3)) | fail)
   go_ret2
   exact ⟨rfl, tB⟩
 ·rw [if_neg h0] at hmn hmc
  subst hmn hmc
  have d0 : (mc == 0) = false := by simpa using h0
  clear h0
  go_enter Tryz.func127, Tryz.ntmps127
  go_wp2_with (first | (go_at_call 151; (with_reducible refine (CM.out _ tB).mono ?_); rintro e w1 ⟨s1, A1, l1, c1, rfl, hB1, hl1, hb1⟩; have HB1 := hid hB1; clear hB1; obtain ⟨fc1, fg1, hc1, hf1, hz1⟩ := bget hb1; (try simp at hz1)) | fail)
  go_ret2
  exact ⟨rfl, tB⟩
def R27Cut (wr : World) (g12 : Nat) (y : Asset) (n : Int) (p : Value) (wx : World) : Prop :=
 ∃ g s A l c, p = .pointer (some ⟨g, 0, none⟩) ∧ wr.heap.size ≤ g ∧ g ≠ g12 ∧ Blk wx g 141 #[.bool s, .slice A (List.length l) c] ∧ IsBig wx n s A l c ∧ l.length ≤ 400 ∧ (g12 < wx.heap.size ∧ wx.cell? ⟨g12, 0, none⟩ = some (.int .i64 y.id) ∧ wx.cell? ⟨g12, 1, none⟩ = some (.int .i64 y.price) ∧ wx.cell? ⟨g12, 2, none⟩ = some (.int .i64 y.hair)) ∧ Below wr.heap.size wr wx
theorem ref27Sum (bo : Bool) (ats : List Asset) (l : List Lot) (cash : Int) (A B : Option Addr) (c d : Nat) (w : World) (ha : ats.length ≤ 1000000) (hok : ∀ a ∈ ats, okA a) (hl : l.length ≤ 40) (hcash : In64 cash) (hin : ∀ y ∈ l, In64 y.qty) (hra : Rd w A 3 (ats.map encAsset)) (hr : Rd w B 3 (l.map encLot)) :
  Calls Tryz.prog 129 #[.slice A ats.length c, .slice B l.length d, .int .i64 cash, .bool bo] w fun e w' => e = .returned (.tuple #[.int .i64 (rsNv bo ats l cash), .int .i64 (rsCv bo ats l cash)]) ∧ Below w.heap.size w w' := by
 have HR := hid hr
 have HIN := hid hin
 have HOK := hid hok
 have CF := hid (fun id W (h : Below w.heap.size w W) => ref12Find ats id A c W (by omega) (hra.keep h))
 have ci := fun W (h : Below w.heap.size w W) => ref18Is l B d W (by omega) (hr.keep h)
 have HC := hid (show rsCv bo ats l cash = if vaC worthE ats l = 0 then (if in64 (cash + refS bo ats l) then 0 else 7) else vaC worthE ats l from rfl)
 have HN := hid (show rsNv bo ats l cash = if vaC worthE ats l = 0 then (if in64 (cash + refS bo ats l) then cash + refS bo ats l else 0) else 0 from rfl)
 generalize rsCv bo ats l cash = RC at *
 generalize rsNv bo ats l cash = RN at *
 clear hr hin hra hok
 cases hi : isL l
 ·rw [hi] at ci
  have CI := hid ci
  have HV := hid (show vaC worthE ats l = 3 from by unfold vaC; rw [hi]; rfl)
  clear ci hi
  go_enter Tryz.func129, Tryz.ntmps129
  go_wp2_with (first | (go_at_call 58; (with_reducible refine cM (CI.out _ tB) fun w1 hb1 fc1 fg1 hc1 hf1 hz1 => ?_); (try simp at hz1)) | fail)
  go_ret2
  exact ⟨by rw [HC.out, HN.out, HV.out]; rfl, tB⟩
 rw [hi] at ci
 have CI := hid ci
 have HVA := hid (show vaC worthE ats l = vC worthE ats l from by unfold vaC; rw [hi]; rfl)
 have HPOS := hid (fun x (hx : x ∈ l) => (rightL_iff.1 ((isL_sort hi).2.1 x hx)).2.2.2.2)
 clear ci hi
 go_enter Tryz.func129, Tryz.ntmps129
 go_wp2_with (first | (go_at_call 58; (with_reducible refine cM (CI.out _ tB) fun w1 hb1 fc1 fg1 hc1 hf1 hz1 => ?_); (try simp at hz1)) | (go_at_call 80; (with_reducible refine (bigOf cash _ hcash).mono ?_); rintro e w2 ⟨s2, A2, l2, c2, rfl, hB2, hl2, hb2⟩; have HB2 := hid hB2; clear hB2; obtain ⟨fc2, fg2, hc2, hf2, hz2⟩ := bget hb2; (try simp at hz2)) | fail)
 have Hw2 := hid (show Below w.heap.size w w2 by exact tB)
 have hzw2 : w.heap.size ≤ w2.heap.size := by omega
 clear hc1 hf1 hb1 hc2 hf2 hb2
 go_loopw [11] (fun i wr => ∃ (k : Nat) (s5 : Bool) (A5 : Option Addr) (l5 : List Int) (c5 : Nat), k ≤ l.length ∧ i = .int .i64 k ∧ vC worthE ats l = vC worthE ats (l.drop k) ∧ IsBig wr (cash + refS bo ats (l.take k)) s5 A5 l5 c5 ∧ l5.length ≤ 400 + k ∧ Blk wr w2.heap.size 141 #[.bool s5, .slice A5 l5.length c5] ∧ Below w2.heap.size w2 wr) (fun i _ => l.length - (intOf i).toNat)
 case atStart => exact ⟨0, s2, A2, l2, c2, Nat.zero_le _, rfl, rfl, by
  rw [show cash + refS bo ats (l.take 0) = cash from by simp [refS]]
  refine (HB2.out.keep ?_)
  exact tB, by omega, Blk.here rfl, tB⟩
 case round =>
  obtain ⟨k, s5, A5, l5, c5, hk, rfl, hv, hB5, hl5, hbk, hbl⟩ := hrel
  have hz := hbl.size
  have b0 := hbk.cell 0
  have b1 := hbk.cell 1
  have z0 := hbk.frozen 0
  have z1 := hbk.frozen 1
  have ug := hbk.lt
  simp [go_sem] at b0 b1
  have HV := hid hv
  have HB5 := hid hB5
  have Hbk := hid hbk
  have Hbl := hid hbl
  clear hv hB5 hbk hbl
  by_cases hlt : k < l.length
  ·have dl := @dT k l.length hlt
   have kl : (k : Int) < (l.length : Int) := by omega
   obtain ⟨b, o, rfl, hb, hc⟩ := HR.out k (encLot l[k]) (by simp [hlt])
   have e0 := ((Hw2.out.trans (Hbl.out.mono hzw2)).cell (p := ⟨b, o + k * 3 + 0, none⟩) hb).trans (hc 0 _ rfl)
   have e2 := ((Hw2.out.trans (Hbl.out.mono hzw2)).cell (p := ⟨b, o + k * 3 + 2, none⟩) hb).trans (hc 2 _ rfl)
   simp only [Nat.add_zero] at e0
   clear hc
   have hbw : b < wr.heap.size := by omega
   have hbw2 : b < w2.heap.size := by omega
   have hq := HIN.out l[k] (List.getElem_mem hlt)
   have hqp := HPOS.out l[k] (List.getElem_mem hlt)
   have HD := hid (drop_cons' hlt)
   have HSN := hid (refS_snoc (b := bo) (ats := ats) hlt)
   have cf := CF.out l[k].asset
   cases hf : (findAsset ats l[k].asset).2
   ·have HZ := hid (show vaC worthE ats l = 11 from by rw [HVA.out, HV.out, HD.out]; exact vC_none hf)
    rw [hf] at cf
    generalize (findAsset ats l[k].asset).1 = y at *
    have CFK := hid cf
    clear cf hf HD
    go_wp2_with (first | (go_at_call 26; (with_reducible refine cM (CFK.out _ (by have hbl := Hbl.out; have hw2 := Hw2.out; exact tB)) fun w3 hb3 fc3 fg3 hc3 hf3 hz3 => ?_); (try simp at hz3)) | fail)
    go_ret2
    exact ⟨by rw [HC.out, HN.out, HZ.out]; rfl, by have hbl := Hbl.out; have hw2 := Hw2.out; exact tB⟩
   have hy := find_ok HOK.out hf
   have HT := hid (show refT bo ats l[k] = if bo then countA (findAsset ats l[k].asset).1 l[k].qty else l[k].qty * (findAsset ats l[k].asset).1.price from rfl)
   have hw := fun (h0 : okE (l[k].qty * (findAsset ats l[k].asset).1.price) = 0) => vC_step (E := worthE) (t := l.drop (k + 1)) hf (show worthE _ _ = 0 from by unfold worthE; rw [if_pos hy]; exact h0)
   have hwb := fun (h0 : okE (l[k].qty * (findAsset ats l[k].asset).1.price) = 7) => vC_bad (E := worthE) (t := l.drop (k + 1)) hf (show worthE _ _ ≠ 0 from by unfold worthE; rw [if_pos hy, h0]; decide)
   have hwv := fun (h0 : okE (l[k].qty * (findAsset ats l[k].asset).1.price) = 7) => (show worthE (findAsset ats l[k].asset).1 l[k].qty = 7 from by unfold worthE; rw [if_pos hy]; exact h0)
   rw [hf] at cf
   clear hf
   generalize (findAsset ats l[k].asset).1 = y at *
   have hpr : In64 y.price := (okA_in hy).1
   have CFK := hid cf
   have HW := hid hw
   have HWB := hid hwb
   have HWV := hid hwv
   have HY := hid hy
   clear cf hw hwb hwv hy
   obtain ⟨pr, hprd⟩ : ∃ pr, pr = l[k].qty * y.price := ⟨_, rfl⟩
   have HPR := hid hprd.symm
   clear hprd
   go_upto_region 10 with (first | (go_at_call 26; (with_reducible refine cM (CFK.out _ (by have hbl := Hbl.out; have hw2 := Hw2.out; exact tB)) fun w3 hb3 fc3 fg3 hc3 hf3 hz3 => ?_); (try simp at hz3)) | fail)
   go_cut [14] from 38 to 44 (R27Cut wr w3.heap.size y pr)
   case first =>
    go_region_held3 (fun w' => (w'.cell? ⟨w3.heap.size, 0, none⟩ = some (.int .i64 y.id) ∧ w'.cell? ⟨w3.heap.size, 1, none⟩ = some (.int .i64 y.price) ∧ w'.cell? ⟨w3.heap.size, 2, none⟩ = some (.int .i64 y.hair)) ∧ w'.cell? ⟨b, o + k * 3 + 2, none⟩ = some (.int .i64 l[k].qty)) (exact tK) (first | (go_at_call 152; (with_reducible refine (ref12Worth y l[k].qty _ hq hpr).mono ?_); rintro e w6 ⟨s6, A6, l6, c6, rfl, hB6, hl6, hb6⟩; have HB6 := hid hB6; clear hB6; obtain ⟨fc6, fg6, hc6, hf6, hz6⟩ := bget hb6; (try simp at hz6)) | fail)
    all_goals
     go_wp2_with fail
     go_meet
     refine ⟨_, s6, A6, l6, c6, rfl, tZ, by first | omega | (simp <;> omega), ?_, ?_, by omega, ⟨tZ, ?_, ?_, ?_⟩, tB⟩
     ·first
       | exact Blk.here rfl
       | (have h := (((show Blk w6 (w3.heap.size + 1) 141 #[.bool false, .slice none 0 0] by exact tL).set 0 (.bool s6)).set 1 (.slice A6 l6.length c6)); simpa using h)
       | fail
     ·(rw [← HPR.out]; first | (focus (refine HB6.out.keep ?_; (repeat' (first | (with_reducible exact Below.refl _ _) | (with_reducible assumption) | (with_reducible refine Below.alloc ?_ ?_ _) | (with_reducible refine Below.setCell ?_ ?_ _) | (with_reducible refine Below.drew ?_) | (with_reducible refine below_drewN ?_ _) | (with_reducible refine below_via ?_ (by with_reducible assumption) ?_) | omega | (simp; done) | (simp; omega))); done)) | ((repeat' (first | (with_reducible exact HB6.out) | (refine IsBig.far (v0 := .slice none 0 0) ?_ ?_ ?_ _; rotate_left; (focus (simp [go_sem, hc6]; done)); (focus (simp; done))) | (refine IsBig.far (v0 := .bool false) ?_ ?_ ?_ _; rotate_left; (focus (simp [go_sem, hc6]; done)); (focus (simp; done))) | fail))) | fail)
     all_goals (first | (simp [go_sem, hc6]; done) | (simp [go_sem, hc6, ↓IntWalk.iteOmega]; done))
   case rest =>
    obtain ⟨g, s6, A6, l6, c6, rfl, hg, hgn, hbk6, hB6, hl6, ⟨hg12, y0, y1, y2⟩, hbc⟩ := hcut
    have HB6 := hid hB6
    have p0 := hbk6.cell 0
    have p1 := hbk6.cell 1
    have q0 := hbk6.frozen 0
    have q1 := hbk6.frozen 1
    have ug6 := hbk6.lt
    simp [go_sem] at p0 p1
    generalize w3.heap.size = g12 at *
    have Hbc := hid hbc
    have hzc := hbc.size
    have b0c := (hbc.cell (p := ⟨w2.heap.size, 0, none⟩) ug).trans b0
    have b1c := (hbc.cell (p := ⟨w2.heap.size, 1, none⟩) ug).trans b1
    have z0c := (hbc.frozen (p := ⟨w2.heap.size, 0, none⟩) ug).trans z0
    have z1c := (hbc.frozen (p := ⟨w2.heap.size, 1, none⟩) ug).trans z1
    have ugc : w2.heap.size < wc.heap.size := by omega
    have e2c := (hbc.cell (p := ⟨b, o + k * 3 + 2, none⟩) hbw).trans e2
    have hbwc : b < wc.heap.size := by omega
    have hne1 : g ≠ w2.heap.size := by omega
    clear hB6 hbk6 hbc b0 b1 z0 z1 e0 e2
    cases h64 : in64 pr
    ·have h7 : okE (l[k].qty * y.price) = 7 := by rw [HPR.out]; unfold okE; rw [h64]; rfl
     have HZ := hid (show vaC worthE ats l = 7 from by rw [HVA.out, HV.out, HD.out, HWB.out h7, HWV.out h7])
     have HF := hid h64
     clear h7 h64
     go_wp2_with (first | (go_at_call 119; (with_reducible refine (bigFits pr s6 l6 A6 c6 400 _ (by omega) hl6 (HB6.out.keep tB)).mono ?_); rw [HF.out]; rintro e w7 ⟨rfl, hb7⟩; obtain ⟨fc7, fg7, hc7, hf7, hz7⟩ := bget hb7; (try simp at hz7)) | fail)
     go_ret2
     exact ⟨by rw [HC.out, HN.out, HZ.out]; rfl, by have hbc := Hbc.out; have hbl := Hbl.out; have hw2 := Hw2.out; exact tB⟩
    ·have h7 : okE (l[k].qty * y.price) = 0 := by rw [HPR.out]; unfold okE; rw [h64]; rfl
     have HVN := hid (show vC worthE ats l = vC worthE ats (l.drop (k + 1)) from by rw [HV.out, HD.out, HW.out h7])
     have HF := hid h64
     
     clear h7 h64
     have HSA := hid (show ∀ n, refT bo ats l[k] = n → cash + refS bo ats (l.take (k + 1)) = cash + refS bo ats (l.take k) + n from fun n hn => by rw [HSN.out, hn]; omega)
     cases bo
     ·have HSK := hid (HSA.out pr (HT.out.trans ((if_neg (by decide)).trans HPR.out)))
      generalize cash + refS false ats (l.take k) = S at *
      go_wp2_with (first | (go_at_call 119; (with_reducible refine (bigFits pr s6 l6 A6 c6 400 _ (by omega) hl6 (HB6.out.keep tB)).mono ?_); rw [HF.out]; rintro e w7 ⟨rfl, hb7⟩; obtain ⟨fc7, fg7, hc7, hf7, hz7⟩ := bget hb7; (try simp at hz7)) | (go_at_call 118; (with_reducible refine (bigAdd S pr s5 s6 l5 l6 A5 A6 c5 c6 (400 + k) _ (by omega) (by omega) (by omega) (HB5.out.keep (by have hbc := Hbc.out; exact tB)) (HB6.out.keep tB)).mono ?_); rintro e w9 ⟨s9, A9, l9, c9, rfl, hB9, hl9, hb9⟩; have HB9 := hid hB9; clear hB9; obtain ⟨fc9, fg9, hc9, hf9, hz9⟩ := bget hb9; (try simp at hz9)) | fail)
      go_wp2_with fail
      go_roundw
      case rel =>
       have h9 : Below wr.heap.size wr w9 := by have hbc := Hbc.out; exact tB
       have t0 : w9.cell? ⟨w2.heap.size, 0, none⟩ = some (.bool s5) := (h9.cell (p := ⟨w2.heap.size, 0, none⟩) ug).trans (by have h := Hbk.out.cell 0; simpa using h)
       have t1 : w9.cell? ⟨w2.heap.size, 1, none⟩ = some (.slice A5 l5.length c5) := (h9.cell (p := ⟨w2.heap.size, 1, none⟩) ug).trans (by have h := Hbk.out.cell 1; simpa using h)
       refine ⟨k + 1, s9, A9, l9, c9, by omega, by go_num, HVN.out, ?_, by omega, ?_, ?_⟩
       ·rw [HSK.out]
        exact (HB9.out.far t0 (by simp) _).far ((World.cell?_setCell_other _ _ _ _ (by simp)).trans t1) (by simp) _
       ·have h5 := ((Hbk.out.below h9 ug).set 0 (.bool s9)).set 1 (.slice A9 l9.length c9)
        simpa using h5
       ·have hbl := Hbl.out
        exact tB
      case measure => (simp [intOf]; omega)
     ·have HSK := hid (HSA.out (countA y l[k].qty) (HT.out.trans (if_pos rfl)))
      generalize cash + refS true ats (l.take k) = S at *
      generalize hcn : countA y l[k].qty = cn at *
      have CC := hid (fun W => hcn ▸ ref12Count y l[k].qty W hq HY.out)
      clear hcn
      go_wp2_with (first | (go_at_call 119; (with_reducible refine (bigFits pr s6 l6 A6 c6 400 _ (by omega) hl6 (HB6.out.keep tB)).mono ?_); rw [HF.out]; rintro e w7 ⟨rfl, hb7⟩; obtain ⟨fc7, fg7, hc7, hf7, hz7⟩ := bget hb7; (try simp at hz7)) | fail)
      go_region_held3 (fun w' => (w'.cell? ⟨g12, 0, none⟩ = some (.int .i64 y.id) ∧ w'.cell? ⟨g12, 1, none⟩ = some (.int .i64 y.price) ∧ w'.cell? ⟨g12, 2, none⟩ = some (.int .i64 y.hair)) ∧ w'.cell? ⟨b, o + k * 3 + 2, none⟩ = some (.int .i64 l[k].qty)) (exact tK) (first | (go_at_call 153; (with_reducible refine (CC.out _).mono ?_); rintro e w8 ⟨s8, A8, l8, c8, rfl, hB8, hl8, hb8⟩; have HB8 := hid hB8; clear hB8; obtain ⟨fc8, fg8, hc8, hf8, hz8⟩ := bget hb8; (try simp at hz8)) | fail)
      all_goals
       go_wp2_with (first | (go_at_call 118; (with_reducible refine (bigAdd S cn s5 s8 l5 l8 A5 A8 c5 c8 (400 + k) _ (by omega) (by omega) (by omega) (HB5.out.keep (by have hbc := Hbc.out; exact tB)) ((HB8.out.far (v0 := .bool s6) (by simp [hc8, hc7, p0, ↓IntWalk.iteOmega]) (by simp) _).far (v0 := .slice A6 l6.length c6) (by rw [World.cell?_setCell_other _ _ _ _ (by simp)]; simp [hc8, hc7, p1, ↓IntWalk.iteOmega]) (by simp) _)).mono ?_); rintro e w9 ⟨s9, A9, l9, c9, rfl, hB9, hl9, hb9⟩; have HB9 := hid hB9; clear hB9; obtain ⟨fc9, fg9, hc9, hf9, hz9⟩ := bget hb9; (try simp at hz9)) | fail)
       go_wp2_with fail
       go_roundw
       case rel =>
        have h9 : Below wr.heap.size wr w9 := by have hbc := Hbc.out; exact tB
        have t0 : w9.cell? ⟨w2.heap.size, 0, none⟩ = some (.bool s5) := (h9.cell (p := ⟨w2.heap.size, 0, none⟩) ug).trans (by have h := Hbk.out.cell 0; simpa using h)
        have t1 : w9.cell? ⟨w2.heap.size, 1, none⟩ = some (.slice A5 l5.length c5) := (h9.cell (p := ⟨w2.heap.size, 1, none⟩) ug).trans (by have h := Hbk.out.cell 1; simpa using h)
        refine ⟨k + 1, s9, A9, l9, c9, by omega, by go_num, HVN.out, ?_, by omega, ?_, ?_⟩
        ·rw [HSK.out]
         exact (HB9.out.far t0 (by simp) _).far ((World.cell?_setCell_other _ _ _ _ (by simp)).trans t1) (by simp) _
        ·have h5 := ((Hbk.out.below h9 ug).set 0 (.bool s9)).set 1 (.slice A9 l9.length c9)
         simpa using h5
        ·have hbl := Hbl.out
         exact tB
       case measure => (simp [intOf]; omega)
  ·have dl := @dF k l.length hlt
   have HVZ := hid (show vaC worthE ats l = 0 from by rw [HVA.out, HV.out, List.drop_eq_nil_of_le (by omega)]; rfl)
   have hke : l.take k = l := List.take_of_length_le (by omega)
   rw [hke] at HB5
   generalize cash + refS bo ats l = S at *
   clear hke
   cases h64 : in64 S
   ·have HF := hid h64
    clear h64
    go_wp2_with (first | (go_at_call 119; (with_reducible refine (bigFits S s5 l5 A5 c5 1000 _ (by omega) (by omega) (HB5.out.keep tB)).mono ?_); rw [HF.out]; rintro e w7 ⟨rfl, hb7⟩; obtain ⟨fc7, fg7, hc7, hf7, hz7⟩ := bget hb7; (try simp at hz7)) | fail)
    go_ret2
    exact ⟨by rw [HC.out, HN.out, HVZ.out, HF.out]; rfl, by have hbl := Hbl.out; have hw2 := Hw2.out; exact tB⟩
   ·have HF := hid h64
    have h64i := in64_iff.1 h64
    clear h64
    go_wp2_with (first | (go_at_call 119; (with_reducible refine (bigFits S s5 l5 A5 c5 1000 _ (by omega) (by omega) (HB5.out.keep tB)).mono ?_); rw [HF.out]; rintro e w7 ⟨rfl, hb7⟩; obtain ⟨fc7, fg7, hc7, hf7, hz7⟩ := bget hb7; (try simp at hz7)) | (go_at_call 120; (with_reducible refine cM (bigInt S s5 l5 A5 c5 _ (by omega) h64i (HB5.out.keep tB)) fun w8 hb8 fc8 fg8 hc8 hf8 hz8 => ?_); (try simp at hz8)) | fail)
    go_ret2
    exact ⟨by rw [HC.out, HN.out, HVZ.out, HF.out]; rfl, by have hbl := Hbl.out; have hw2 := Hw2.out; exact tB⟩
end Go.Proofs.YtalgfpegaobacaaGreatDoor
