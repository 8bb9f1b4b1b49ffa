/- Joined: Ref24. -/
import Derived.Test.YtiidplinmempcaaJb10
import Derived.Test.YtiidplinmempcaaJz7
/- Layer 24: contracts of the reference's Loss, Most, Margin. -/
namespace Go.Proofs.Ytiidplinmempcaa
open Go.RowKit
/-- A big number and a code. -/
def BigPost2 (w : World) (n : Int) (L : Nat) (code : Int) (e : Ending) (w' : World) : Prop :=
  ∃ s A l c, e = .returned (.tuple #[.agg #[.bool s, .slice A l.length c], .int .i64 code]) ∧ IsBig w' n s A l c ∧ l.length ≤ L ∧ Below w.heap.size w w'
theorem bigRet2 {fn : Func} {slot s2 : Nat} (hfn : fn.results = #[.cell slot 34, .tmp s2]) {a : Act} {w wf : World} {g L : Nat} {n code : Int} {s : Bool} {A : Option Addr} {l : List Int} {c : Nat}
    (ha : a.tmps[slot]?.getD undef = .pointer (some ⟨g, 0, none⟩)) (ha2 : a.tmps[s2]?.getD undef = .int .i64 code) (hd : a.defers = []) (h0 : wf.cell? ⟨g, 0, none⟩ = some (.bool false)) (h1 : wf.cell? ⟨g, 1, none⟩ = some (.slice none 0 0))
    (hB : IsBig wf n s A l c) (hl : l.length ≤ L) (hb : Below w.heap.size w ((wf.setCell ⟨g, 0, none⟩ (.bool s)).setCell ⟨g, 1, none⟩ (.slice A l.length c))) :
    bodyPost Try.prog fn (BigPost2 w n L code) .ret a ((wf.setCell ⟨g, 0, none⟩ (.bool s)).setCell ⟨g, 1, none⟩ (.slice A l.length c)) := by
  refine bodyPost_ret (v := .tuple #[.agg #[.bool s, .slice A l.length c], .int .i64 code]) (by simp [results, hfn, ha, ha2, go_sem, h0, h1]; try rfl) hd ⟨s, A, l, c, rfl, (hB.far h0 (by simp) _).far ((World.cell?_setCell_other _ _ _ _ (by simp)).trans h1) (by simp) _, hl, hb⟩
theorem ref13ShockV (x : InstV) (q s : Int) (A : Option Addr) (c : Nat) (w : World) (hq : In64 q) (hl : x.moves.val.length ≤ 1099511627776) (hr : Rd w A 1 (x.moves.val.map encI)) :
    Calls Try.prog 79 #[.agg #[.int .i64 x.id, .int .i64 x.mult, .int .i64 x.price, .int .i64 x.next, .slice A x.moves.val.length c], .int .i64 q, .int .i64 s] w (BigPost w (shockI (lgI x) q s) 300) :=
  ref13Shock (lgI x) q s A c w hq hl hr
theorem gn_snoc {t : List InstV} {l : List Leg} {s : Int} {k : Nat} (h : k < l.length) : gnN t (l.take (k + 1)) s = gnN t (l.take k) s + legS t s l[k] := by
  unfold gnN
  rw [map_snoc h, List.sum_append]; simp
theorem find_good {w : World} {t : List InstV} (hg : ∀ x ∈ t, GoodI w x) (id : Int) : GoodI w (findInstV t id).1 := by
  rcases idx_findV t id with ⟨k, hk, _, _, _, hf⟩ | ⟨_, _, hf⟩
  · rw [hf]; exact hg t[k] (List.getElem_mem hk)
  · rw [hf]; exact Rs.empty _ _
set_option maxRecDepth 100000 in
set_option maxHeartbeats 16000000 in
theorem ref24Loss (t : List InstV) (l : List Leg) (s : Int) (A B : Option Addr) (c d : Nat) (w : World) (ht : t.length ≤ 1000000) (hl : l.length ≤ 1000) (h64 : Legs64 l) (hrt : Rd w A 5 (t.map encInstV)) (hgt : ∀ x ∈ t, x.moves.val.length ≤ 1048576 ∧ GoodI w x) (hrl : Rd w B 2 (l.map encLeg)) :
    Calls Try.prog 15 #[.slice A t.length c, .slice B l.length d, .int .i64 s] w (BigPost2 w (lossN t l s) 2000 (lossC t l)) := by
  have HL := Lib.hid hrl
  have HT := Lib.hid hrt
  have H64 := Lib.hid h64
  have HCF := Lib.hid (fun id W h => ref13Find t id A c W (by omega) h)
  have HM := Lib.hid (fun id => find_moves (t := t) (id := id) fun x hx => (hgt x hx).1)
  have HGD := Lib.hid (fun id W (h : Below w.heap.size w W) => ((find_good (fun x hx => (hgt x hx).2) id).keep h))
  have CI := Lib.hid (fun W h => refIs11 l B d W (by omega) h)
  clear hrl h64 hrt hgt
  cases hv : isV l
  · have HC := Lib.hid (show lossC t l = 3 from by unfold lossC; rw [hv]; rfl)
    have HN := Lib.hid (show lossN t l s = 0 from by unfold lossN; rw [hv]; rfl)
    rw [hv] at CI
    clear hv
    go_enter Try.func15, Try.ntmps15
    go_wp2_with (first | (go_at_call 76; (with_reducible refine (CI.out _ (HL.out.keep (by (repeat' (first | (with_reducible exact Below.refl _ _) | (with_reducible assumption) | (with_reducible refine Below.alloc ?_ ?_ _) | (with_reducible refine Below.setCell ?_ ?_ _) | (with_reducible refine Below.drew ?_) | (with_reducible refine below_drewN ?_ _) | (with_reducible refine below_via ?_ (by with_reducible assumption) ?_) | omega | (simp; done) | (simp; omega)))))).mono ?_); rintro e w1 ⟨rfl, hb1⟩; obtain ⟨fc1, fg1, hc1, hf1, hz1⟩ := bget hb1; (try simp at hz1)) | fail)
    rw [HC.out, HN.out]
    exact bigRet2 (s := false) (A := none) (l := []) (c := 0) rfl rfl rfl rfl (by first | (simp [go_sem, *]; done) | (simp [go_sem, *, ↓IntWalk.iteOmega]; done)) (by first | (simp [go_sem, *]; done) | (simp [go_sem, *, ↓IntWalk.iteOmega]; done)) isBig_nil2 (by simp) (by (repeat' (first | (with_reducible exact Below.refl _ _) | (with_reducible assumption) | (with_reducible refine Below.alloc ?_ ?_ _) | (with_reducible refine Below.setCell ?_ ?_ _) | (with_reducible refine Below.drew ?_) | (with_reducible refine below_drewN ?_ _) | (with_reducible refine below_via ?_ (by with_reducible assumption) ?_) | omega | (simp; done) | (simp; omega))))
  have HV := Lib.hid hv
  rw [hv] at CI
  clear hv
  go_enter Try.func15, Try.ntmps15
  go_wp2_with (first | (go_at_call 76; (with_reducible refine (CI.out _ (HL.out.keep (by (repeat' (first | (with_reducible exact Below.refl _ _) | (with_reducible assumption) | (with_reducible refine Below.alloc ?_ ?_ _) | (with_reducible refine Below.setCell ?_ ?_ _) | (with_reducible refine Below.drew ?_) | (with_reducible refine below_drewN ?_ _) | (with_reducible refine below_via ?_ (by with_reducible assumption) ?_) | omega | (simp; done) | (simp; omega)))))).mono ?_); rintro e w1 ⟨rfl, hb1⟩; obtain ⟨fc1, fg1, hc1, hf1, hz1⟩ := bget hb1; (try simp at hz1)) | fail)
  have Hb0 := Lib.hid (show Below (w.heap.size + 1) (w.alloc (.cells #[.bool false, .slice none 0 0] 34)) w1 from by (repeat' (first | (with_reducible exact Below.refl _ _) | (with_reducible assumption) | (with_reducible refine Below.alloc ?_ ?_ _) | (with_reducible refine Below.setCell ?_ ?_ _) | (with_reducible refine Below.drew ?_) | (with_reducible refine below_drewN ?_ _) | (with_reducible refine below_via ?_ (by with_reducible assumption) ?_) | omega | (simp; done) | (simp; omega))))
  have hbk : Blk w1 (w.heap.size + 1) 34 #[.bool false, .slice none 0 0] := by (repeat' (first | (with_reducible assumption) | (with_reducible refine Blk.drew ?_) | (with_reducible refine Blk.here ?_) | (with_reducible refine Blk.alloc ?_ _) | (with_reducible refine Blk.far ?_ ?_ _) | (with_reducible refine Blk.below ?_ (by with_reducible assumption) ?_) | omega | (simp; done) | (simp; omega)))
  clear hc1 hf1 hb1
  go_loopw [9] (fun i wr => ∃ (k : Nat) (s2 : Bool) (A2 : Option Addr) (l2 : List Int) (c2 : Nat), k ≤ l.length ∧ i = .int .i64 k ∧ known t (l.take k) = true ∧ IsBig wr (- gnN t (l.take k) s) s2 A2 l2 c2 ∧ l2.length ≤ 300 + k ∧ Blk wr (w.heap.size + 1) 34 #[.bool s2, .slice A2 l2.length c2] ∧ Below (w.heap.size + 1) (w.alloc (.cells #[.bool false, .slice none 0 0] 34)) wr) (fun i _ => l.length - (intOf i).toNat)
  case atStart => exact ⟨0, false, none, [], 0, Nat.zero_le _, rfl, rfl, isBig_nil2, by simp, hbk, Hb0.out⟩
  case round =>
    clear hbk Hb0
    obtain ⟨k, s2, A2, l2, c2, hk, rfl, hkn, hB2, hl2, hbk, hbl2⟩ := hrel
    have hz2 := hbl2.size
    simp at hz2
    have u0 : wr.cell? ⟨w.heap.size, 0, none⟩ = some (.bool false) := (hbl2.cell (p := ⟨w.heap.size, 0, none⟩) (by simp)).trans (by simp [go_sem])
    have u1 : wr.cell? ⟨w.heap.size, 1, none⟩ = some (.slice none 0 0) := (hbl2.cell (p := ⟨w.heap.size, 1, none⟩) (by simp)).trans (by simp [go_sem])
    have v0 : wr.frozen? ⟨w.heap.size, 0, none⟩ = false := (hbl2.frozen (p := ⟨w.heap.size, 0, none⟩) (by simp)).trans (by simp [go_sem])
    have v1 : wr.frozen? ⟨w.heap.size, 1, none⟩ = false := (hbl2.frozen (p := ⟨w.heap.size, 1, none⟩) (by simp)).trans (by simp [go_sem])
    have b0 := hbk.cell 0
    have b1 := hbk.cell 1
    have z0 := hbk.frozen 0
    have z1 := hbk.frozen 1
    have ug := hbk.lt
    simp at b0 b1
    have HB2 := Lib.hid hB2
    have HBK := Lib.hid hbk
    have HKN := Lib.hid hkn
    have Hbl := Lib.hid (show Below w.heap.size w wr from ((Below.refl _ _).alloc (Nat.le_refl _) _).trans (hbl2.mono (Nat.le_succ _)))
    have hz := Hbl.out.size
    have Hbl2 := Lib.hid hbl2
    clear hB2 hbk hkn hbl2
    by_cases hlt : k < l.length
    · have kl : (k : Int) < (l.length : Int) := by omega
      have dl : decide ((k : Int) < (l.length : Int)) = true := by simpa using hlt
      obtain ⟨be, oe, rfl, hbe, hqe⟩ := HL.out k (encLeg l[k]) (by simp [hlt])
      replace hqe := fun j v hv => (Hbl.out.cell (p := ⟨be, oe + k * 2 + j, none⟩) hbe).trans (hqe j v hv)
      have e0 := hqe 0 _ rfl
      have e1 := hqe 1 _ rfl
      simp only [Nat.add_zero] at e0
      clear hqe
      have hbw : be < wr.heap.size := by omega
      have hq64 := Lib.hid (H64.out l[k] (List.getElem_mem hlt))
      have hgs := gn_snoc (t := t) (s := s) hlt
      have hno := known_no (t := t) hlt
      have hsn := known_snoc (t := t) hlt
      have hfm := HM.out l[k].inst
      have hgf := HGD.out l[k].inst
      have hcf := HCF.out l[k].inst
      have hls : legS t s l[k] = shockI (lgI (findInstV t l[k].inst).1) l[k].qty s := rfl
      generalize findInstV t l[k].inst = ff at *
      obtain ⟨fz, fb⟩ := ff
      simp only at hno hsn hfm hcf hls hgf
      obtain ⟨n, hn⟩ : ∃ n, n = legS t s l[k] := ⟨_, rfl⟩
      rw [← hn] at hls hgs
      have CF := Lib.hid hcf
      have HGF := Lib.hid (fun W h => (hgf W h).rd)
      have CS := Lib.hid (fun W h => hls ▸ ref13ShockV fz l[k].qty s fz.moves.A fz.moves.c W hq64.out (by omega) h)
      have HNO := Lib.hid hno
      have HSN := Lib.hid hsn
      have cb : ∀ (s3 : Bool) (l3 : List Int) (A3 : Option Addr) (c3 : Nat) (W : World), l3.length ≤ 300 → IsBig W (- gnN t (l.take k) s) s2 A2 l2 c2 → IsBig W n s3 A3 l3 c3 → Calls Try.prog 78 #[.agg #[.bool s2, .slice A2 l2.length c2], .agg #[.bool s3, .slice A3 l3.length c3]] W (BigPost W (- gnN t (l.take (k + 1)) s) (300 + k + 1)) := by
        intro s3 l3 A3 c3 W h1 h2 h3
        rw [show - gnN t (l.take (k + 1)) s = - gnN t (l.take k) s - n from by rw [hgs]; omega]
        exact bigSub (- gnN t (l.take k) s) n s2 s3 l2 l3 A2 A3 c2 c3 (300 + k) W (by omega) hl2 (Nat.le_trans h1 (by omega)) h2 h3
      have CB := Lib.hid cb
      clear cb hgs hno hsn hcf hls hn hfm hgf
      cases fb
      · have HC := Lib.hid (show lossC t l = 11 from by unfold lossC; rw [HV.out, HNO.out rfl]; rfl)
        have HN := Lib.hid (show lossN t l s = 0 from by unfold lossN; rw [HV.out, HNO.out rfl]; rfl)
        go_wp2_with (first | (go_at_call 77; (with_reducible refine (CF.out _ (HT.out.keep (by have hbl := Hbl.out; (repeat' (first | (with_reducible exact Below.refl _ _) | (with_reducible assumption) | (with_reducible refine Below.alloc ?_ ?_ _) | (with_reducible refine Below.setCell ?_ ?_ _) | (with_reducible refine Below.drew ?_) | (with_reducible refine below_drewN ?_ _) | (with_reducible refine below_via ?_ (by with_reducible assumption) ?_) | omega | (simp; done) | (simp; omega)))))).mono ?_); rintro e w1 ⟨rfl, hb1⟩; obtain ⟨fc1, fg1, hc1, hf1, hz1⟩ := bget hb1; (try simp at hz1)) | fail)
        have hbl := Hbl.out
        rw [HC.out, HN.out]
        exact bigRet2 (s := false) (A := none) (l := []) (c := 0) rfl rfl rfl rfl (by first | (simp [go_sem, *]; done) | (simp [go_sem, *, ↓IntWalk.iteOmega]; done)) (by first | (simp [go_sem, *]; done) | (simp [go_sem, *, ↓IntWalk.iteOmega]; done)) isBig_nil2 (by simp) (by (repeat' (first | (with_reducible exact Below.refl _ _) | (with_reducible assumption) | (with_reducible refine Below.alloc ?_ ?_ _) | (with_reducible refine Below.setCell ?_ ?_ _) | (with_reducible refine Below.drew ?_) | (with_reducible refine below_drewN ?_ _) | (with_reducible refine below_via ?_ (by with_reducible assumption) ?_) | omega | (simp; done) | (simp; omega))))
      · go_wp2_with (first | (go_at_call 77; (with_reducible refine (CF.out _ (HT.out.keep (by have hbl := Hbl.out; (repeat' (first | (with_reducible exact Below.refl _ _) | (with_reducible assumption) | (with_reducible refine Below.alloc ?_ ?_ _) | (with_reducible refine Below.setCell ?_ ?_ _) | (with_reducible refine Below.drew ?_) | (with_reducible refine below_drewN ?_ _) | (with_reducible refine below_via ?_ (by with_reducible assumption) ?_) | omega | (simp; done) | (simp; omega)))))).mono ?_); rintro e w1 ⟨rfl, hb1⟩; obtain ⟨fc1, fg1, hc1, hf1, hz1⟩ := bget hb1; (try simp at hz1)) | fail)
        refine wp_region_held_drew (S := (fun w' => (w'.cell? ⟨w1.heap.size, 0, none⟩ = some (.int .i64 fz.id) ∧ w'.cell? ⟨w1.heap.size, 1, none⟩ = some (.int .i64 fz.mult) ∧ w'.cell? ⟨w1.heap.size, 2, none⟩ = some (.int .i64 fz.price) ∧ w'.cell? ⟨w1.heap.size, 3, none⟩ = some (.int .i64 fz.next) ∧ w'.cell? ⟨w1.heap.size, 4, none⟩ = some (.slice fz.moves.A fz.moves.val.length fz.moves.c)) ∧ w'.cell? ⟨be, oe + k * 2 + 1, none⟩ = some (.int .i64 l[k].qty))) (by kernel_rfl) ?_ (fun hHeld => ?_)
        · (first | (simp [go_sem]; done) | (repeat' (first | (with_reducible assumption) | (with_reducible refine And.intro ?_ ?_) | (with_reducible refine cell_drew ?_) | (with_reducible refine cell_via (by with_reducible assumption) ?_ ?_) | (simp [*]; done) | (simp [go_sem]; done) | (with_reducible refine cell_alloc ?_ ?_) | (with_reducible refine cell_set_far ?_ ?_) | omega | (simp; omega))))
        refine wpAnyH_take (i := 1) (v := ?_) rfl (by kernel_rfl) (by kernel_rfl) (by kernel_rfl) (fun _ _ _ h => h) (Or.inl ⟨by rfl, ?_⟩) (by assumption) ?_
        rotate_left
        focus (intro w hSw; (try dsimp only at hSw); go_simp; (try with_reducible rfl))
        (try simp only [Act.put, List.getElem_toArray, List.getElem_cons_succ, List.getElem_cons_zero, List.setIfInBounds_toArray, List.set_cons_zero, List.set_cons_succ])
        refine wpAnyH_take (i := 2) (v := ?_) rfl (by kernel_rfl) (by kernel_rfl) (by kernel_rfl) (fun _ _ _ h => h) (Or.inl ⟨by rfl, ?_⟩) (by assumption) ?_
        rotate_left
        focus (intro w hSw; (try dsimp only at hSw); go_simp; (try with_reducible rfl))
        (try simp only [Act.put, List.getElem_toArray, List.getElem_cons_succ, List.getElem_cons_zero, List.setIfInBounds_toArray, List.set_cons_zero, List.set_cons_succ])
        refine wpAnyH_take (i := 3) (v := ?_) rfl (by kernel_rfl) (by kernel_rfl) (by kernel_rfl) (fun _ _ _ h => h) (Or.inl ⟨by rfl, ?_⟩) (by assumption) ?_
        rotate_left
        focus (intro w hSw; (try dsimp only at hSw); go_simp; (try with_reducible rfl))
        (try simp only [Act.put, List.getElem_toArray, List.getElem_cons_succ, List.getElem_cons_zero, List.setIfInBounds_toArray, List.set_cons_zero, List.set_cons_succ])
        refine wpAnyH_take (i := 4) (v := ?_) rfl (by kernel_rfl) (by kernel_rfl) (by kernel_rfl) (fun _ _ _ h => h) (Or.inl ⟨by rfl, ?_⟩) (by assumption) ?_
        rotate_left
        focus (intro w hSw; (try dsimp only at hSw); go_simp; (try with_reducible rfl))
        (try simp only [Act.put, List.getElem_toArray, List.getElem_cons_succ, List.getElem_cons_zero, List.setIfInBounds_toArray, List.set_cons_zero, List.set_cons_succ])
        refine wpAnyH_take (i := 5) (v := ?_) rfl (by kernel_rfl) (by kernel_rfl) (by kernel_rfl) (fun _ _ _ h => h) (Or.inl ⟨by rfl, ?_⟩) (by assumption) ?_
        rotate_left
        focus (intro w hSw; (try dsimp only at hSw); go_simp; (try with_reducible rfl))
        (try simp only [Act.put, List.getElem_toArray, List.getElem_cons_succ, List.getElem_cons_zero, List.setIfInBounds_toArray, List.set_cons_zero, List.set_cons_succ])
        refine wpAnyH_take (i := 6) (v := ?_) rfl (by kernel_rfl) (by kernel_rfl) (by kernel_rfl) (fun _ _ _ h => h) (Or.inl ⟨by rfl, ?_⟩) (by assumption) ?_
        rotate_left
        focus (intro w hSw; (try dsimp only at hSw); go_simp; (try with_reducible rfl))
        (try simp only [Act.put, List.getElem_toArray, List.getElem_cons_succ, List.getElem_cons_zero, List.setIfInBounds_toArray, List.set_cons_zero, List.set_cons_succ])
        refine wpAnyH_take (i := 7) (v := ?_) rfl (by kernel_rfl) (by kernel_rfl) (by kernel_rfl) (fun _ _ _ h => h) (Or.inl ⟨by rfl, ?_⟩) (by assumption) ?_
        rotate_left
        focus (intro w hSw; (try dsimp only at hSw); go_simp; (try with_reducible rfl))
        (try simp only [Act.put, List.getElem_toArray, List.getElem_cons_succ, List.getElem_cons_zero, List.setIfInBounds_toArray, List.set_cons_zero, List.set_cons_succ])
        refine wpAnyH_ready (rs := [0, 8]) (by kernel_rfl) (by simp) ?_
        refine AllReadyH.cons rfl (fun K hK => ?_) (AllReadyH.cons rfl (fun K hK => ?_) AllReadyH.nil)
        · (try simp only [List.getElem_toArray, List.getElem_cons_zero])
          go_simp
          (try go_wp2_with fail)
          refine hK.out _ _ ?_ (fun hHeld => ?_)
          focus ((first | (simp [go_sem]; done) | (repeat' (first | (with_reducible assumption) | (with_reducible refine And.intro ?_ ?_) | (with_reducible refine cell_drew ?_) | (with_reducible refine cell_via (by with_reducible assumption) ?_ ?_) | (simp [*]; done) | (simp [go_sem]; done) | (with_reducible refine cell_alloc ?_ ?_) | (with_reducible refine cell_set_far ?_ ?_) | omega | (simp; omega)))); done)
          (try simp only [Act.put, List.getElem_toArray, List.getElem_cons_succ, List.getElem_cons_zero, List.setIfInBounds_toArray, List.set_cons_zero, List.set_cons_succ])
          refine wpAnyH_ready (rs := [8]) (by kernel_rfl) (by simp) ?_
          refine AllReadyH.cons rfl (fun K hK => ?_) AllReadyH.nil
          (try simp only [List.getElem_toArray, List.getElem_cons_succ, List.getElem_cons_zero])
          go_simp
          go_at_call 79
          with_reducible refine (CS.out _ (HGF.out _ (by have hbl := Hbl.out; (repeat' (first | (with_reducible exact Below.refl _ _) | (with_reducible assumption) | (with_reducible refine Below.alloc ?_ ?_ _) | (with_reducible refine Below.setCell ?_ ?_ _) | (with_reducible refine Below.drew ?_) | (with_reducible refine below_drewN ?_ _) | (with_reducible refine below_via ?_ (by with_reducible assumption) ?_) | omega | (simp; done) | (simp; omega)))))).mono ?_
          rintro e w3 ⟨s3, A3, l3, c3, rfl, hB3, hl3, hb3⟩
          have HB3 := Lib.hid hB3
          clear hB3
          obtain ⟨fc3, fg3, hc3, hf3, hz3⟩ := bget hb3; (try simp at hz3)
          refine hK.out _ _ ?_ (fun hHeld => ?_)
          focus ((first | (simp [go_sem]; done) | (repeat' (first | (with_reducible assumption) | (with_reducible refine And.intro ?_ ?_) | (with_reducible refine cell_drew ?_) | (with_reducible refine cell_via (by with_reducible assumption) ?_ ?_) | (simp [*]; done) | (simp [go_sem]; done) | (with_reducible refine cell_alloc ?_ ?_) | (with_reducible refine cell_set_far ?_ ?_) | omega | (simp; omega)))); done)
          (try simp only [Act.put, List.getElem_toArray, List.getElem_cons_succ, List.getElem_cons_zero, List.setIfInBounds_toArray, List.set_cons_zero, List.set_cons_succ])
          refine wpAnyH_ready (rs := [9]) (by kernel_rfl) (by simp) ?_
          refine AllReadyH.cons rfl (fun K hK => ?_) AllReadyH.nil
          (try simp only [List.getElem_toArray, List.getElem_cons_succ, List.getElem_cons_zero])
          go_simp
          go_at_call 78
          with_reducible refine (CB.out s3 l3 A3 c3 _ hl3 (HB2.out.keep (by (repeat' (first | (with_reducible exact Below.refl _ _) | (with_reducible assumption) | (with_reducible refine Below.alloc ?_ ?_ _) | (with_reducible refine Below.setCell ?_ ?_ _) | (with_reducible refine Below.drew ?_) | (with_reducible refine below_drewN ?_ _) | (with_reducible refine below_via ?_ (by with_reducible assumption) ?_) | omega | (simp; done) | (simp; omega))))) (HB3.out.keep (by (repeat' (first | (with_reducible exact Below.refl _ _) | (with_reducible assumption) | (with_reducible refine Below.alloc ?_ ?_ _) | (with_reducible refine Below.setCell ?_ ?_ _) | (with_reducible refine Below.drew ?_) | (with_reducible refine below_drewN ?_ _) | (with_reducible refine below_via ?_ (by with_reducible assumption) ?_) | omega | (simp; done) | (simp; omega)))))).mono ?_
          rintro e w4 ⟨s4, A4, l4, c4, rfl, hB4, hl4, hb4⟩
          have HB4 := Lib.hid hB4
          clear hB4
          obtain ⟨fc4, fg4, hc4, hf4, hz4⟩ := bget hb4; (try simp at hz4)
          refine hK.out _ _ ?_ (fun hHeld => ?_)
          focus ((first | (simp [go_sem]; done) | (repeat' (first | (with_reducible assumption) | (with_reducible refine And.intro ?_ ?_) | (with_reducible refine cell_drew ?_) | (with_reducible refine cell_via (by with_reducible assumption) ?_ ?_) | (simp [*]; done) | (simp [go_sem]; done) | (with_reducible refine cell_alloc ?_ ?_) | (with_reducible refine cell_set_far ?_ ?_) | omega | (simp; omega)))); done)
          (try simp only [Act.put, List.getElem_toArray, List.getElem_cons_succ, List.getElem_cons_zero, List.setIfInBounds_toArray, List.set_cons_zero, List.set_cons_succ])
          refine wpAnyH_ready (rs := [10]) (by kernel_rfl) (by simp) ?_
          refine AllReadyH.cons rfl (fun K hK => ?_) AllReadyH.nil
          (try simp only [List.getElem_toArray, List.getElem_cons_succ, List.getElem_cons_zero])
          go_simp
          go_wp2_with fail
          refine hK.out _ _ ?_ (fun hHeld => ?_)
          focus ((first | (simp [go_sem]; done) | (repeat' (first | (with_reducible assumption) | (with_reducible refine And.intro ?_ ?_) | (with_reducible refine cell_drew ?_) | (with_reducible refine cell_via (by with_reducible assumption) ?_ ?_) | (simp [*]; done) | (simp [go_sem]; done) | (with_reducible refine cell_alloc ?_ ?_) | (with_reducible refine cell_set_far ?_ ?_) | omega | (simp; omega)))); done)
          (try simp only [Act.put, List.getElem_toArray, List.getElem_cons_succ, List.getElem_cons_zero, List.setIfInBounds_toArray, List.set_cons_zero, List.set_cons_succ])
          refine wpAnyH_done (by kernel_rfl) ?_ _
          go_wp2_with fail
          go_roundw
          case rel =>
            have h10 : Below wr.heap.size wr w4 := (by (repeat' (first | (with_reducible exact Below.refl _ _) | (with_reducible assumption) | (with_reducible refine Below.alloc ?_ ?_ _) | (with_reducible refine Below.setCell ?_ ?_ _) | (with_reducible refine Below.drew ?_) | (with_reducible refine below_drewN ?_ _) | (with_reducible refine below_via ?_ (by with_reducible assumption) ?_) | omega | (simp; done) | (simp; omega))))
            have hk10 := HBK.out.below h10 ug
            have t2 := hk10.cell 0
            have t3 := hk10.cell 1
            simp at t2 t3
            refine ⟨k + 1, s4, A4, l4, c4, by omega, by go_num, by rw [HSN.out, HKN.out]; rfl, ?_, by omega, ?_, ?_⟩
            · exact (HB4.out.far t2 (by simp) _).far ((World.cell?_setCell_other _ _ _ _ (by simp)).trans t3) (by simp) _
            · have h5 := (hk10.set 0 (.bool s4)).set 1 (.slice A4 l4.length c4)
              simpa using h5
            · have hbl := Hbl2.out
              (repeat' (first | (with_reducible exact Below.refl _ _) | (with_reducible assumption) | (with_reducible refine Below.alloc ?_ ?_ _) | (with_reducible refine Below.setCell ?_ ?_ _) | (with_reducible refine Below.drew ?_) | (with_reducible refine below_drewN ?_ _) | (with_reducible refine below_via ?_ (by with_reducible assumption) ?_) | omega | (simp; done) | (simp; omega)))
          case measure => (simp [intOf]; omega)
        · (try simp only [List.getElem_toArray, List.getElem_cons_succ, List.getElem_cons_zero])
          go_simp
          go_at_call 79
          with_reducible refine (CS.out _ (HGF.out _ (by have hbl := Hbl.out; (repeat' (first | (with_reducible exact Below.refl _ _) | (with_reducible assumption) | (with_reducible refine Below.alloc ?_ ?_ _) | (with_reducible refine Below.setCell ?_ ?_ _) | (with_reducible refine Below.drew ?_) | (with_reducible refine below_drewN ?_ _) | (with_reducible refine below_via ?_ (by with_reducible assumption) ?_) | omega | (simp; done) | (simp; omega)))))).mono ?_
          rintro e w3 ⟨s3, A3, l3, c3, rfl, hB3, hl3, hb3⟩
          have HB3 := Lib.hid hB3
          clear hB3
          obtain ⟨fc3, fg3, hc3, hf3, hz3⟩ := bget hb3; (try simp at hz3)
          refine hK.out _ _ ?_ (fun hHeld => ?_)
          focus ((first | (simp [go_sem]; done) | (repeat' (first | (with_reducible assumption) | (with_reducible refine And.intro ?_ ?_) | (with_reducible refine cell_drew ?_) | (with_reducible refine cell_via (by with_reducible assumption) ?_ ?_) | (simp [*]; done) | (simp [go_sem]; done) | (with_reducible refine cell_alloc ?_ ?_) | (with_reducible refine cell_set_far ?_ ?_) | omega | (simp; omega)))); done)
          (try simp only [Act.put, List.getElem_toArray, List.getElem_cons_succ, List.getElem_cons_zero, List.setIfInBounds_toArray, List.set_cons_zero, List.set_cons_succ])
          refine wpAnyH_ready (rs := [0]) (by kernel_rfl) (by simp) ?_
          refine AllReadyH.cons rfl (fun K hK => ?_) AllReadyH.nil
          (try simp only [List.getElem_toArray, List.getElem_cons_zero])
          go_simp
          (try go_wp2_with fail)
          refine hK.out _ _ ?_ (fun hHeld => ?_)
          focus ((first | (simp [go_sem]; done) | (repeat' (first | (with_reducible assumption) | (with_reducible refine And.intro ?_ ?_) | (with_reducible refine cell_drew ?_) | (with_reducible refine cell_via (by with_reducible assumption) ?_ ?_) | (simp [*]; done) | (simp [go_sem]; done) | (with_reducible refine cell_alloc ?_ ?_) | (with_reducible refine cell_set_far ?_ ?_) | omega | (simp; omega)))); done)
          (try simp only [Act.put, List.getElem_toArray, List.getElem_cons_succ, List.getElem_cons_zero, List.setIfInBounds_toArray, List.set_cons_zero, List.set_cons_succ])
          refine wpAnyH_ready (rs := [9]) (by kernel_rfl) (by simp) ?_
          refine AllReadyH.cons rfl (fun K hK => ?_) AllReadyH.nil
          (try simp only [List.getElem_toArray, List.getElem_cons_succ, List.getElem_cons_zero])
          go_simp
          go_at_call 78
          with_reducible refine (CB.out s3 l3 A3 c3 _ hl3 (HB2.out.keep (by (repeat' (first | (with_reducible exact Below.refl _ _) | (with_reducible assumption) | (with_reducible refine Below.alloc ?_ ?_ _) | (with_reducible refine Below.setCell ?_ ?_ _) | (with_reducible refine Below.drew ?_) | (with_reducible refine below_drewN ?_ _) | (with_reducible refine below_via ?_ (by with_reducible assumption) ?_) | omega | (simp; done) | (simp; omega))))) (HB3.out.keep (by (repeat' (first | (with_reducible exact Below.refl _ _) | (with_reducible assumption) | (with_reducible refine Below.alloc ?_ ?_ _) | (with_reducible refine Below.setCell ?_ ?_ _) | (with_reducible refine Below.drew ?_) | (with_reducible refine below_drewN ?_ _) | (with_reducible refine below_via ?_ (by with_reducible assumption) ?_) | omega | (simp; done) | (simp; omega)))))).mono ?_
          rintro e w4 ⟨s4, A4, l4, c4, rfl, hB4, hl4, hb4⟩
          have HB4 := Lib.hid hB4
          clear hB4
          obtain ⟨fc4, fg4, hc4, hf4, hz4⟩ := bget hb4; (try simp at hz4)
          refine hK.out _ _ ?_ (fun hHeld => ?_)
          focus ((first | (simp [go_sem]; done) | (repeat' (first | (with_reducible assumption) | (with_reducible refine And.intro ?_ ?_) | (with_reducible refine cell_drew ?_) | (with_reducible refine cell_via (by with_reducible assumption) ?_ ?_) | (simp [*]; done) | (simp [go_sem]; done) | (with_reducible refine cell_alloc ?_ ?_) | (with_reducible refine cell_set_far ?_ ?_) | omega | (simp; omega)))); done)
          (try simp only [Act.put, List.getElem_toArray, List.getElem_cons_succ, List.getElem_cons_zero, List.setIfInBounds_toArray, List.set_cons_zero, List.set_cons_succ])
          refine wpAnyH_ready (rs := [10]) (by kernel_rfl) (by simp) ?_
          refine AllReadyH.cons rfl (fun K hK => ?_) AllReadyH.nil
          (try simp only [List.getElem_toArray, List.getElem_cons_succ, List.getElem_cons_zero])
          go_simp
          go_wp2_with fail
          refine hK.out _ _ ?_ (fun hHeld => ?_)
          focus ((first | (simp [go_sem]; done) | (repeat' (first | (with_reducible assumption) | (with_reducible refine And.intro ?_ ?_) | (with_reducible refine cell_drew ?_) | (with_reducible refine cell_via (by with_reducible assumption) ?_ ?_) | (simp [*]; done) | (simp [go_sem]; done) | (with_reducible refine cell_alloc ?_ ?_) | (with_reducible refine cell_set_far ?_ ?_) | omega | (simp; omega)))); done)
          (try simp only [Act.put, List.getElem_toArray, List.getElem_cons_succ, List.getElem_cons_zero, List.setIfInBounds_toArray, List.set_cons_zero, List.set_cons_succ])
          refine wpAnyH_done (by kernel_rfl) ?_ _
          go_wp2_with fail
          go_roundw
          case rel =>
            have h10 : Below wr.heap.size wr w4 := (by (repeat' (first | (with_reducible exact Below.refl _ _) | (with_reducible assumption) | (with_reducible refine Below.alloc ?_ ?_ _) | (with_reducible refine Below.setCell ?_ ?_ _) | (with_reducible refine Below.drew ?_) | (with_reducible refine below_drewN ?_ _) | (with_reducible refine below_via ?_ (by with_reducible assumption) ?_) | omega | (simp; done) | (simp; omega))))
            have hk10 := HBK.out.below h10 ug
            have t2 := hk10.cell 0
            have t3 := hk10.cell 1
            simp at t2 t3
            refine ⟨k + 1, s4, A4, l4, c4, by omega, by go_num, by rw [HSN.out, HKN.out]; rfl, ?_, by omega, ?_, ?_⟩
            · exact (HB4.out.far t2 (by simp) _).far ((World.cell?_setCell_other _ _ _ _ (by simp)).trans t3) (by simp) _
            · have h5 := (hk10.set 0 (.bool s4)).set 1 (.slice A4 l4.length c4)
              simpa using h5
            · have hbl := Hbl2.out
              (repeat' (first | (with_reducible exact Below.refl _ _) | (with_reducible assumption) | (with_reducible refine Below.alloc ?_ ?_ _) | (with_reducible refine Below.setCell ?_ ?_ _) | (with_reducible refine Below.drew ?_) | (with_reducible refine below_drewN ?_ _) | (with_reducible refine below_via ?_ (by with_reducible assumption) ?_) | omega | (simp; done) | (simp; omega)))
          case measure => (simp [intOf]; omega)
    · have dl : decide ((k : Int) < (l.length : Int)) = false := by simpa using hlt
      have HTK := Lib.hid (show l.take k = l from List.take_of_length_le (by omega))
      have hkn := HKN.out
      rw [HTK.out] at hkn HB2
      have HC := Lib.hid (show lossC t l = 0 from by unfold lossC; rw [HV.out, hkn]; rfl)
      have HN := Lib.hid (show lossN t l s = - gnN t l s from by unfold lossN; rw [HV.out, hkn]; rfl)
      clear hkn
      go_wp2_with fail
      have hbl := Hbl.out
      rw [HC.out, HN.out]
      exact bigRet2 rfl rfl rfl rfl u0 u1 HB2.out (by omega) (by (repeat' (first | (with_reducible exact Below.refl _ _) | (with_reducible assumption) | (with_reducible refine Below.alloc ?_ ?_ _) | (with_reducible refine Below.setCell ?_ ?_ _) | (with_reducible refine Below.drew ?_) | (with_reducible refine below_drewN ?_ _) | (with_reducible refine below_via ?_ (by with_reducible assumption) ?_) | omega | (simp; done) | (simp; omega))))
end Go.Proofs.Ytiidplinmempcaa
