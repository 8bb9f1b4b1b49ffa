/- Joined: Ref24b, Grd1, Ref11d, Ref11e, VecBack, VecTurns. -/
import Derived.Test.YtiidplinmempcaaJz12
import Derived.Test.YtiidplinmempcaaJz9
import Derived.Test.YtiidplinmempcaaJz10
import Derived.Outline
/- Layer 24: contracts of the reference's Most, Margin; of grid.Margin, Worst. -/
namespace Go.Proofs.Ytiidplinmempcaa
open Go.RowKit
/-- A big number and two numbers. -/
def BigPost3 (w : World) (n : Int) (L : Nat) (at_ code : Int) (e : Ending) (w' : World) : Prop :=
  ∃ s A l c, e = .returned (.tuple #[.agg #[.bool s, .slice A l.length c], .int .i64 at_, .int .i64 code]) ∧ IsBig w' n s A l c ∧ l.length ≤ L ∧ Below w.heap.size w w'
theorem bigRet3 {fn : Func} {slot s2 s3 : Nat} (hfn : fn.results = #[.cell slot 34, .tmp s2, .tmp s3]) {a : Act} {w wf : World} {g L : Nat} {n at_ code : Int} {s : Bool} {A : Option Addr} {l : List Int} {c : Nat}
    (ha : a.tmps[slot]?.getD undef = .pointer (some ⟨g, 0, none⟩)) (ha2 : a.tmps[s2]?.getD undef = .int .i64 at_) (ha3 : a.tmps[s3]?.getD undef = .int .i64 code) (hd : a.defers = []) (h0 : wf.cell? ⟨g, 0, none⟩ = some (.bool false)) (h1 : wf.cell? ⟨g, 1, none⟩ = some (.slice none 0 0))
    (hB : IsBig wf n s A l c) (hl : l.length ≤ L) (hb : Below w.heap.size w ((wf.setCell ⟨g, 0, none⟩ (.bool s)).setCell ⟨g, 1, none⟩ (.slice A l.length c))) :
    bodyPost Try.prog fn (BigPost3 w n L at_ code) .ret a ((wf.setCell ⟨g, 0, none⟩ (.bool s)).setCell ⟨g, 1, none⟩ (.slice A l.length c)) := by
  refine bodyPost_ret (v := .tuple #[.agg #[.bool s, .slice A l.length c], .int .i64 at_, .int .i64 code]) (by simp [results, hfn, ha, ha2, ha3, go_sem, h0, h1]; try rfl) hd ⟨s, A, l, c, rfl, (hB.far h0 (by simp) _).far ((World.cell?_setCell_other _ _ _ _ (by simp)).trans h1) (by simp) _, hl, hb⟩
set_option maxRecDepth 100000 in
set_option maxHeartbeats 16000000 in
theorem ref24Most (t : List InstV) (l : List Leg) (A B : Option Addr) (c d : Nat) (w : World) (ht : t.length ≤ 1000000) (hl : l.length ≤ 1000) (h64 : Legs64 l) (hrt : Rd w A 5 (t.map encInstV)) (hgt : ∀ x ∈ t, x.moves.val.length ≤ 1048576 ∧ GoodI w x) (hrl : Rd w B 2 (l.map encLeg)) :
    Calls Try.prog 19 #[.slice A t.length c, .slice B l.length d] w (BigPost3 w (mostN (lossN t l) 8).1 2000 (mostN (lossN t l) 8).2 (lossC t l)) := by
  have CL := Lib.hid (fun W (h : Below w.heap.size w W) s => ref24Loss t l s A B c d W ht hl h64 (hrt.keep h) (fun x hx => ⟨(hgt x hx).1, (hgt x hx).2.keep h⟩) (hrl.keep h))
  have HZ := Lib.hid (fun h => most_zero (loss_no (t := t) (l := l) h) 8)
  generalize lossN t l = f at *
  generalize lossC t l = code at *
  clear ht hl h64 hrt hgt hrl
  by_cases h0 : code = 0
  · subst h0
    have HST := Lib.hid (fun k => show mostN f (k + 1) = if (mostN f k).1 < f k then (f k, (k : Int)) else mostN f k from rfl)
    have HS0 := Lib.hid (show mostN f 0 = (0, -1) from rfl)
    generalize mostN f = M at *
    clear HZ
    go_enter Try.func19, Try.ntmps19
    go_wp2_with fail
    go_loopw [8, 9] (fun a i wr => ∃ (k : Nat) (s2 : Bool) (A2 : Option Addr) (l2 : List Int) (c2 : Nat), k ≤ 8 ∧ i = .int .i64 k ∧ a = .int .i64 (M k).2 ∧ IsBig wr (M k).1 s2 A2 l2 c2 ∧ l2.length ≤ 2000 ∧ Blk wr (w.heap.size + 1) 34 #[.bool s2, .slice A2 l2.length c2] ∧ Below (w.heap.size + 1) (w.alloc (.cells #[.bool false, .slice none 0 0] 34)) wr) (fun _ i _ => 8 - (intOf i).toNat)
    case atStart => exact ⟨0, false, none, [], 0, Nat.zero_le _, rfl, by rw [HS0.out], by rw [HS0.out]; exact isBig_nil2, by simp, Blk.here (by simp), by (repeat' (first | (with_reducible exact Below.refl _ _) | (with_reducible assumption) | (with_reducible refine Below.alloc ?_ ?_ _) | (with_reducible refine Below.setCell ?_ ?_ _) | (with_reducible refine Below.drew ?_) | (with_reducible refine below_drewN ?_ _) | (with_reducible refine below_via ?_ (by with_reducible assumption) ?_) | omega | (simp; done) | (simp; omega)))⟩
    case round =>
      obtain ⟨k, s2, A2, l2, c2, hk, rfl, rfl, hB2, hl2, hbk, hbl2⟩ := hrel
      have hz2 := hbl2.size
      simp at hz2
      have u0 : wr.cell? ⟨w.heap.size, 0, none⟩ = some (.bool false) := (hbl2.cell (p := ⟨w.heap.size, 0, none⟩) (by simp)).trans (by simp [go_sem])
      have u1 : wr.cell? ⟨w.heap.size, 1, none⟩ = some (.slice none 0 0) := (hbl2.cell (p := ⟨w.heap.size, 1, none⟩) (by simp)).trans (by simp [go_sem])
      have v0 : wr.frozen? ⟨w.heap.size, 0, none⟩ = false := (hbl2.frozen (p := ⟨w.heap.size, 0, none⟩) (by simp)).trans (by simp [go_sem])
      have v1 : wr.frozen? ⟨w.heap.size, 1, none⟩ = false := (hbl2.frozen (p := ⟨w.heap.size, 1, none⟩) (by simp)).trans (by simp [go_sem])
      have Hbl := Lib.hid (show Below w.heap.size w wr from ((Below.refl _ _).alloc (Nat.le_refl _) _).trans (hbl2.mono (Nat.le_succ _)))
      have hz := Hbl.out.size
      have Hbl2 := Lib.hid hbl2
      clear hbl2
      have b0 := hbk.cell 0
      have b1 := hbk.cell 1
      have z0 := hbk.frozen 0
      have z1 := hbk.frozen 1
      have ug := hbk.lt
      simp at b0 b1
      have HB2 := Lib.hid hB2
      have HBK := Lib.hid hbk
      clear hB2 hbk
      by_cases hlt : k < 8
      · have dl : decide ((k : Int) < 8) = true := by simp; omega
        have CK := Lib.hid (fun W (h : Below w.heap.size w W) => CL.out W h k)
        have hst := HST.out k
        obtain ⟨m, at_, hm⟩ : ∃ m at_, M k = (m, at_) := ⟨_, _, rfl⟩
        rw [hm] at hst HB2 ⊢
        simp only at hst HB2 ⊢
        obtain ⟨n, hn⟩ : ∃ n, n = f (k : Int) := ⟨_, rfl⟩
        rw [← hn] at CK hst
        clear hn hm
        by_cases hlt2 : m < n
        · rw [if_pos hlt2] at hst
          have HO := Lib.hid (show ord n m = 1 from by unfold ord; rw [if_neg (by omega), if_pos hlt2])
          have HSK := Lib.hid hst
          clear hst hlt2
          go_wp2_with (first | (go_at_call 15; (with_reducible refine (CK.out _ (by have hbl := Hbl.out; (repeat' (first | (with_reducible exact Below.refl _ _) | (with_reducible assumption) | (with_reducible refine Below.alloc ?_ ?_ _) | (with_reducible refine Below.setCell ?_ ?_ _) | (with_reducible refine Below.drew ?_) | (with_reducible refine below_drewN ?_ _) | (with_reducible refine below_via ?_ (by with_reducible assumption) ?_) | omega | (simp; done) | (simp; omega))))).mono ?_); rintro e w1 ⟨s1, A1, l1, c1, rfl, hB1, hl1, hb1⟩; have HB1 := Lib.hid hB1; clear hB1; obtain ⟨fc1, fg1, hc1, hf1, hz1⟩ := bget hb1; (try simp at hz1)) | (go_at_call 20; (with_reducible refine (bigCmp n m s1 s2 l1 l2 A1 A2 c1 c2 2000 _ (by omega) hl1 hl2 (HB1.out.keep (by (repeat' (first | (with_reducible exact Below.refl _ _) | (with_reducible assumption) | (with_reducible refine Below.alloc ?_ ?_ _) | (with_reducible refine Below.setCell ?_ ?_ _) | (with_reducible refine Below.drew ?_) | (with_reducible refine below_drewN ?_ _) | (with_reducible refine below_via ?_ (by with_reducible assumption) ?_) | omega | (simp; done) | (simp; omega))))) (HB2.out.keep (by (repeat' (first | (with_reducible exact Below.refl _ _) | (with_reducible assumption) | (with_reducible refine Below.alloc ?_ ?_ _) | (with_reducible refine Below.setCell ?_ ?_ _) | (with_reducible refine Below.drew ?_) | (with_reducible refine below_drewN ?_ _) | (with_reducible refine below_via ?_ (by with_reducible assumption) ?_) | omega | (simp; done) | (simp; omega)))))).mono ?_); rw [HO.out]; rintro e w2 ⟨rfl, hb2⟩; obtain ⟨fc2, fg2, hc2, hf2, hz2⟩ := bget hb2; (try simp at hz2)) | fail)
          go_roundw
          case rel =>
            have h12 : Below w1.heap.size w1 w2 := (by (repeat' (first | (with_reducible exact Below.refl _ _) | (with_reducible assumption) | (with_reducible refine Below.alloc ?_ ?_ _) | (with_reducible refine Below.setCell ?_ ?_ _) | (with_reducible refine Below.drew ?_) | (with_reducible refine below_drewN ?_ _) | (with_reducible refine below_via ?_ (by with_reducible assumption) ?_) | omega | (simp; done) | (simp; omega))))
            have h10 : Below wr.heap.size wr w2 := (by clear h12; (repeat' (first | (with_reducible exact Below.refl _ _) | (with_reducible assumption) | (with_reducible refine Below.alloc ?_ ?_ _) | (with_reducible refine Below.setCell ?_ ?_ _) | (with_reducible refine Below.drew ?_) | (with_reducible refine below_drewN ?_ _) | (with_reducible refine below_via ?_ (by with_reducible assumption) ?_) | omega | (simp; done) | (simp; omega))))
            have hk10 := HBK.out.below h10 ug
            have t2 := hk10.cell 0
            have t3 := hk10.cell 1
            simp at t2 t3
            refine ⟨k + 1, s1, A1, l1, c1, by omega, by go_num, by rw [HSK.out], ?_, by omega, ?_, ?_⟩
            · rw [HSK.out]
              exact ((HB1.out.keep h12).far t2 (by simp) _).far ((World.cell?_setCell_other _ _ _ _ (by simp)).trans t3) (by simp) _
            · have h5 := (hk10.set 0 (.bool s1)).set 1 (.slice A1 l1.length c1)
              simpa using h5
            · have hbl := Hbl2.out
              (repeat' (first | (with_reducible exact Below.refl _ _) | (with_reducible assumption) | (with_reducible refine Below.alloc ?_ ?_ _) | (with_reducible refine Below.setCell ?_ ?_ _) | (with_reducible refine Below.drew ?_) | (with_reducible refine below_drewN ?_ _) | (with_reducible refine below_via ?_ (by with_reducible assumption) ?_) | omega | (simp; done) | (simp; omega)))
          case measure => simp [intOf]; omega
        · rw [if_neg hlt2] at hst
          have HSK := Lib.hid hst
          obtain ⟨oo, ho⟩ : ∃ oo, ord n m = oo := ⟨_, rfl⟩
          have d0 : decide (0 < oo) = false := by rw [← ho]; unfold ord; rw [if_neg hlt2]; split <;> simp
          have HO := Lib.hid ho
          clear hst hlt2 ho
          go_wp2_with (first | (go_at_call 15; (with_reducible refine (CK.out _ (by have hbl := Hbl.out; (repeat' (first | (with_reducible exact Below.refl _ _) | (with_reducible assumption) | (with_reducible refine Below.alloc ?_ ?_ _) | (with_reducible refine Below.setCell ?_ ?_ _) | (with_reducible refine Below.drew ?_) | (with_reducible refine below_drewN ?_ _) | (with_reducible refine below_via ?_ (by with_reducible assumption) ?_) | omega | (simp; done) | (simp; omega))))).mono ?_); rintro e w1 ⟨s1, A1, l1, c1, rfl, hB1, hl1, hb1⟩; have HB1 := Lib.hid hB1; clear hB1; obtain ⟨fc1, fg1, hc1, hf1, hz1⟩ := bget hb1; (try simp at hz1)) | (go_at_call 20; (with_reducible refine (bigCmp n m s1 s2 l1 l2 A1 A2 c1 c2 2000 _ (by omega) hl1 hl2 (HB1.out.keep (by (repeat' (first | (with_reducible exact Below.refl _ _) | (with_reducible assumption) | (with_reducible refine Below.alloc ?_ ?_ _) | (with_reducible refine Below.setCell ?_ ?_ _) | (with_reducible refine Below.drew ?_) | (with_reducible refine below_drewN ?_ _) | (with_reducible refine below_via ?_ (by with_reducible assumption) ?_) | omega | (simp; done) | (simp; omega))))) (HB2.out.keep (by (repeat' (first | (with_reducible exact Below.refl _ _) | (with_reducible assumption) | (with_reducible refine Below.alloc ?_ ?_ _) | (with_reducible refine Below.setCell ?_ ?_ _) | (with_reducible refine Below.drew ?_) | (with_reducible refine below_drewN ?_ _) | (with_reducible refine below_via ?_ (by with_reducible assumption) ?_) | omega | (simp; done) | (simp; omega)))))).mono ?_); rw [HO.out]; rintro e w2 ⟨rfl, hb2⟩; obtain ⟨fc2, fg2, hc2, hf2, hz2⟩ := bget hb2; (try simp at hz2)) | fail)
          go_roundw
          case rel =>
            have h10 : Below wr.heap.size wr w2 := (by (repeat' (first | (with_reducible exact Below.refl _ _) | (with_reducible assumption) | (with_reducible refine Below.alloc ?_ ?_ _) | (with_reducible refine Below.setCell ?_ ?_ _) | (with_reducible refine Below.drew ?_) | (with_reducible refine below_drewN ?_ _) | (with_reducible refine below_via ?_ (by with_reducible assumption) ?_) | omega | (simp; done) | (simp; omega))))
            refine ⟨k + 1, s2, A2, l2, c2, by omega, by go_num, by rw [HSK.out], ?_, by omega, ?_, ?_⟩
            · rw [HSK.out]
              exact HB2.out.keep h10
            · exact HBK.out.below h10 ug
            · have hbl := Hbl2.out
              (repeat' (first | (with_reducible exact Below.refl _ _) | (with_reducible assumption) | (with_reducible refine Below.alloc ?_ ?_ _) | (with_reducible refine Below.setCell ?_ ?_ _) | (with_reducible refine Below.drew ?_) | (with_reducible refine below_drewN ?_ _) | (with_reducible refine below_via ?_ (by with_reducible assumption) ?_) | omega | (simp; done) | (simp; omega)))
          case measure => simp [intOf]; omega
      · obtain rfl : k = 8 := by omega
        go_wp2_with fail
        have hbl := Hbl.out
        exact bigRet3 rfl rfl rfl rfl rfl u0 u1 HB2.out (by omega) (by (repeat' (first | (with_reducible exact Below.refl _ _) | (with_reducible assumption) | (with_reducible refine Below.alloc ?_ ?_ _) | (with_reducible refine Below.setCell ?_ ?_ _) | (with_reducible refine Below.drew ?_) | (with_reducible refine below_drewN ?_ _) | (with_reducible refine below_via ?_ (by with_reducible assumption) ?_) | omega | (simp; done) | (simp; omega))))
  · have hz := HZ.out h0
    have d0 : (code == 0) = false := by simpa using h0
    have CK := Lib.hid (fun W (h : Below w.heap.size w W) => CL.out W h 0)
    rw [hz]
    generalize f 0 = n at *
    clear HZ hz h0 CL
    go_enter Try.func19, Try.ntmps19
    go_wp2_with fail
    go_loopw [8, 9] (fun a i wr => i = .int .i64 0 ∧ Below (w.heap.size + 1) (w.alloc (.cells #[.bool false, .slice none 0 0] 34)) wr) (fun _ i _ => 8 - (intOf i).toNat)
    case atStart => exact ⟨rfl, by (repeat' (first | (with_reducible exact Below.refl _ _) | (with_reducible assumption) | (with_reducible refine Below.alloc ?_ ?_ _) | (with_reducible refine Below.setCell ?_ ?_ _) | (with_reducible refine Below.drew ?_) | (with_reducible refine below_drewN ?_ _) | (with_reducible refine below_via ?_ (by with_reducible assumption) ?_) | omega | (simp; done) | (simp; omega)))⟩
    case round =>
      obtain ⟨rfl, hbl2⟩ := hrel
      have hz2 := hbl2.size
      simp at hz2
      have u0 : wr.cell? ⟨w.heap.size, 0, none⟩ = some (.bool false) := (hbl2.cell (p := ⟨w.heap.size, 0, none⟩) (by simp)).trans (by simp [go_sem])
      have u1 : wr.cell? ⟨w.heap.size, 1, none⟩ = some (.slice none 0 0) := (hbl2.cell (p := ⟨w.heap.size, 1, none⟩) (by simp)).trans (by simp [go_sem])
      have v0 : wr.frozen? ⟨w.heap.size, 0, none⟩ = false := (hbl2.frozen (p := ⟨w.heap.size, 0, none⟩) (by simp)).trans (by simp [go_sem])
      have v1 : wr.frozen? ⟨w.heap.size, 1, none⟩ = false := (hbl2.frozen (p := ⟨w.heap.size, 1, none⟩) (by simp)).trans (by simp [go_sem])
      have Hbl := Lib.hid (show Below w.heap.size w wr from ((Below.refl _ _).alloc (Nat.le_refl _) _).trans (hbl2.mono (Nat.le_succ _)))
      have hz := Hbl.out.size
      have Hbl2 := Lib.hid hbl2
      clear hbl2
      go_wp2_with (first | (go_at_call 15; (with_reducible refine (CK.out _ (by have hbl := Hbl.out; (repeat' (first | (with_reducible exact Below.refl _ _) | (with_reducible assumption) | (with_reducible refine Below.alloc ?_ ?_ _) | (with_reducible refine Below.setCell ?_ ?_ _) | (with_reducible refine Below.drew ?_) | (with_reducible refine below_drewN ?_ _) | (with_reducible refine below_via ?_ (by with_reducible assumption) ?_) | omega | (simp; done) | (simp; omega))))).mono ?_); rintro e w1 ⟨s1, A1, l1, c1, rfl, hB1, hl1, hb1⟩; have HB1 := Lib.hid hB1; clear hB1; obtain ⟨fc1, fg1, hc1, hf1, hz1⟩ := bget hb1; (try simp at hz1)) | fail)
      have hbl := Hbl.out
      exact bigRet3 (s := false) (A := none) (l := []) (c := 0) rfl rfl rfl rfl rfl (by first | (simp [go_sem, *]; done) | (simp [go_sem, *, ↓IntWalk.iteOmega]; done)) (by first | (simp [go_sem, *]; done) | (simp [go_sem, *, ↓IntWalk.iteOmega]; done)) isBig_nil2 (by simp) (by (repeat' (first | (with_reducible exact Below.refl _ _) | (with_reducible assumption) | (with_reducible refine Below.alloc ?_ ?_ _) | (with_reducible refine Below.setCell ?_ ?_ _) | (with_reducible refine Below.drew ?_) | (with_reducible refine below_drewN ?_ _) | (with_reducible refine below_via ?_ (by with_reducible assumption) ?_) | omega | (simp; done) | (simp; omega))))
set_option maxRecDepth 100000 in
set_option maxHeartbeats 8000000 in
theorem ref24Margin (t : List InstV) (l : List Leg) (A B : Option Addr) (c d : Nat) (w : World) (ht : t.length ≤ 1000000) (hl : l.length ≤ 1000) (h64 : Legs64 l) (hrt : Rd w A 5 (t.map encInstV)) (hgt : ∀ x ∈ t, x.moves.val.length ≤ 1048576 ∧ GoodI w x) (hrl : Rd w B 2 (l.map encLeg)) :
    Calls Try.prog 17 #[.slice A t.length c, .slice B l.length d] w fun e w' => e = .returned (.tuple #[.int .i64 (marginN t l), .int .i64 (marginC t l)]) ∧ Below w.heap.size w w' := by
  have CM := Lib.hid (fun W (h : Below w.heap.size w W) => ref24Most t l A B c d W ht hl h64 (hrt.keep h) (fun x hx => ⟨(hgt x hx).1, (hgt x hx).2.keep h⟩) (hrl.keep h))
  have hmn : marginN t l = if lossC t l = 0 then (if in64 (mostN (lossN t l) 8).1 then (mostN (lossN t l) 8).1 else 0) else 0 := rfl
  have hmc : marginC t l = if lossC t l = 0 then (if in64 (mostN (lossN t l) 8).1 then 0 else 7) else lossC t l := rfl
  generalize marginN t l = mn at *
  generalize marginC t l = mc at *
  generalize mostN (lossN t l) 8 = M at *
  obtain ⟨m, at_⟩ := M
  simp only at CM hmn hmc
  generalize lossC t l = code at *
  clear ht hl h64 hrt hgt hrl
  by_cases h0 : code = 0
  · subst h0
    rw [if_pos rfl] at hmn hmc
    cases h64 : in64 m
    · rw [h64] at hmn hmc
      simp only [Bool.false_eq_true, if_false] at hmn hmc
      subst hmn hmc
      have H64 := Lib.hid h64
      clear h64
      go_enter Try.func17, Try.ntmps17
      go_wp2_with (first | (go_at_call 19; (with_reducible refine (CM.out _ (by (repeat' (first | (with_reducible exact Below.refl _ _) | (with_reducible assumption) | (with_reducible refine Below.alloc ?_ ?_ _) | (with_reducible refine Below.setCell ?_ ?_ _) | (with_reducible refine Below.drew ?_) | (with_reducible refine below_drewN ?_ _) | (with_reducible refine below_via ?_ (by with_reducible assumption) ?_) | omega | (simp; done) | (simp; omega))))).mono ?_); rintro e w1 ⟨s1, A1, l1, c1, rfl, hB1, hl1, hb1⟩; have HB1 := Lib.hid hB1; clear hB1; obtain ⟨fc1, fg1, hc1, hf1, hz1⟩ := bget hb1; (try simp at hz1)) | (go_at_call 26; (with_reducible refine (bigFits m s1 l1 A1 c1 2000 _ (by omega) hl1 (HB1.out.keep (by (repeat' (first | (with_reducible exact Below.refl _ _) | (with_reducible assumption) | (with_reducible refine Below.alloc ?_ ?_ _) | (with_reducible refine Below.setCell ?_ ?_ _) | (with_reducible refine Below.drew ?_) | (with_reducible refine below_drewN ?_ _) | (with_reducible refine below_via ?_ (by with_reducible assumption) ?_) | omega | (simp; done) | (simp; omega)))))).mono ?_); rw [H64.out]; rintro e w2 ⟨rfl, hb2⟩; obtain ⟨fc2, fg2, hc2, hf2, hz2⟩ := bget hb2; (try simp at hz2)) | fail)
      go_ret2
      exact ⟨rfl, by (repeat' (first | (with_reducible exact Below.refl _ _) | (with_reducible assumption) | (with_reducible refine Below.alloc ?_ ?_ _) | (with_reducible refine Below.setCell ?_ ?_ _) | (with_reducible refine Below.drew ?_) | (with_reducible refine below_drewN ?_ _) | (with_reducible refine below_via ?_ (by with_reducible assumption) ?_) | omega | (simp; done) | (simp; omega)))⟩
    · rw [h64] at hmn hmc
      simp only [if_true] at hmn hmc
      subst hmn hmc
      have H64 := Lib.hid h64
      have HI := Lib.hid (in64_iff.1 h64)
      clear h64
      go_enter Try.func17, Try.ntmps17
      go_wp2_with (first | (go_at_call 19; (with_reducible refine (CM.out _ (by (repeat' (first | (with_reducible exact Below.refl _ _) | (with_reducible assumption) | (with_reducible refine Below.alloc ?_ ?_ _) | (with_reducible refine Below.setCell ?_ ?_ _) | (with_reducible refine Below.drew ?_) | (with_reducible refine below_drewN ?_ _) | (with_reducible refine below_via ?_ (by with_reducible assumption) ?_) | omega | (simp; done) | (simp; omega))))).mono ?_); rintro e w1 ⟨s1, A1, l1, c1, rfl, hB1, hl1, hb1⟩; have HB1 := Lib.hid hB1; clear hB1; obtain ⟨fc1, fg1, hc1, hf1, hz1⟩ := bget hb1; (try simp at hz1)) | (go_at_call 26; (with_reducible refine (bigFits mn s1 l1 A1 c1 2000 _ (by omega) hl1 (HB1.out.keep (by (repeat' (first | (with_reducible exact Below.refl _ _) | (with_reducible assumption) | (with_reducible refine Below.alloc ?_ ?_ _) | (with_reducible refine Below.setCell ?_ ?_ _) | (with_reducible refine Below.drew ?_) | (with_reducible refine below_drewN ?_ _) | (with_reducible refine below_via ?_ (by with_reducible assumption) ?_) | omega | (simp; done) | (simp; omega)))))).mono ?_); rw [H64.out]; rintro e w2 ⟨rfl, hb2⟩; obtain ⟨fc2, fg2, hc2, hf2, hz2⟩ := bget hb2; (try simp at hz2)) | (go_at_call 27; (with_reducible refine (bigInt mn s1 l1 A1 c1 _ (by omega) HI.out (HB1.out.keep (by (repeat' (first | (with_reducible exact Below.refl _ _) | (with_reducible assumption) | (with_reducible refine Below.alloc ?_ ?_ _) | (with_reducible refine Below.setCell ?_ ?_ _) | (with_reducible refine Below.drew ?_) | (with_reducible refine below_drewN ?_ _) | (with_reducible refine below_via ?_ (by with_reducible assumption) ?_) | omega | (simp; done) | (simp; omega)))))).mono ?_); rintro e w3 ⟨rfl, hb3⟩; obtain ⟨fc3, fg3, hc3, hf3, hz3⟩ := bget hb3; (try simp at hz3)) | fail)
      go_ret2
      exact ⟨rfl, by (repeat' (first | (with_reducible exact Below.refl _ _) | (with_reducible assumption) | (with_reducible refine Below.alloc ?_ ?_ _) | (with_reducible refine Below.setCell ?_ ?_ _) | (with_reducible refine Below.drew ?_) | (with_reducible refine below_drewN ?_ _) | (with_reducible refine below_via ?_ (by with_reducible assumption) ?_) | omega | (simp; done) | (simp; omega)))⟩
  · rw [if_neg h0] at hmn hmc
    subst hmn hmc
    have d0 : (mc == 0) = false := by simpa using h0
    clear h0
    go_enter Try.func17, Try.ntmps17
    go_wp2_with (first | (go_at_call 19; (with_reducible refine (CM.out _ (by (repeat' (first | (with_reducible exact Below.refl _ _) | (with_reducible assumption) | (with_reducible refine Below.alloc ?_ ?_ _) | (with_reducible refine Below.setCell ?_ ?_ _) | (with_reducible refine Below.drew ?_) | (with_reducible refine below_drewN ?_ _) | (with_reducible refine below_via ?_ (by with_reducible assumption) ?_) | omega | (simp; done) | (simp; omega))))).mono ?_); rintro e w1 ⟨s1, A1, l1, c1, rfl, hB1, hl1, hb1⟩; have HB1 := Lib.hid hB1; clear hB1; obtain ⟨fc1, fg1, hc1, hf1, hz1⟩ := bget hb1; (try simp at hz1)) | fail)
    go_ret2
    exact ⟨rfl, by (repeat' (first | (with_reducible exact Below.refl _ _) | (with_reducible assumption) | (with_reducible refine Below.alloc ?_ ?_ _) | (with_reducible refine Below.setCell ?_ ?_ _) | (with_reducible refine Below.drew ?_) | (with_reducible refine below_drewN ?_ _) | (with_reducible refine below_via ?_ (by with_reducible assumption) ?_) | omega | (simp; done) | (simp; omega)))⟩
theorem most_lossesL (t : List InstV) (l : List Leg) : mostN (fun s => (lossesL t l).getD s.toNat 0) (lossesL t l).length = mostN (lossN t l) 8 := by
  unfold lossesL
  by_cases h : lossC t l = 0
  · rw [if_pos h, show (losses8 (lossN t l) 8).length = 8 from by unfold losses8; simp, most_losses _ 8 8 (Nat.le_refl _)]
  · rw [if_neg h, most_zero (loss_no h)]; rfl
theorem lossesL_in {t : List InstV} {l : List Leg} (h : Legs64 l) (hl : l.length ≤ 1000) : (∀ z ∈ lossesL t l, In128 z) ∧ (lossesL t l).length ≤ 8 := by
  unfold lossesL
  split
  · refine ⟨fun z hz => ?_, by unfold losses8; simp⟩
    unfold losses8 at hz
    obtain ⟨k, _, rfl⟩ := List.mem_map.1 hz
    exact loss_in h hl
  · exact ⟨fun z hz => absurd hz (by simp), by simp⟩
set_option maxRecDepth 100000 in
set_option maxHeartbeats 8000000 in
theorem gridMargin (t : List InstV) (l : List Leg) (A B : Option Addr) (c d : Nat) (w : World) (ht : t.length ≤ 1000000) (hl : l.length ≤ 1000) (h64 : Legs64 l) (hrt : Rd w A 5 (t.map encInstV)) (hgt : ∀ x ∈ t, x.moves.val.length ≤ 1048576 ∧ GoodI w x) (hrl : Rd w B 2 (l.map encLeg)) :
    Calls Try.prog 16 #[.slice A t.length c, .slice B l.length d] w fun e w' => e = .returned (.tuple #[.int .i64 (marginN t l), .int .i64 (marginC t l)]) ∧ Below w.heap.size w w' := by
  have CL := Lib.hid (fun W (h : Below w.heap.size w W) => gridLosses t l A B c d W ht hl h64 (hrt.keep h) (fun x hx => ⟨(hgt x hx).1, (hgt x hx).2.keep h⟩) (hrl.keep h))
  have hll := lossesL_in (t := t) h64 hl
  have cw := fun W A1 c1 h => most_lossesL t l ▸ gridWorst (lossesL t l) A1 c1 W (by omega) hll.1 h
  have hmi := most_in (fun s => loss_in (t := t) (s := s) h64 hl) 8
  have hmn : marginN t l = if lossC t l = 0 then (if in64 (mostN (lossN t l) 8).1 then (mostN (lossN t l) 8).1 else 0) else 0 := rfl
  have hmc : marginC t l = if lossC t l = 0 then (if in64 (mostN (lossN t l) 8).1 then 0 else 7) else lossC t l := rfl
  generalize marginN t l = mn at *
  generalize marginC t l = mc at *
  generalize mostN (lossN t l) 8 = M at *
  obtain ⟨m, at_⟩ := M
  simp only at cw hmn hmc hmi
  have CW := Lib.hid cw
  clear cw hll
  generalize lossesL t l = L at *
  generalize lossC t l = code at *
  clear ht hl h64 hrt hgt hrl
  by_cases h0 : code = 0
  · subst h0
    rw [if_pos rfl] at hmn hmc
    cases h64 : in64 m
    · rw [h64] at hmn hmc
      simp only [Bool.false_eq_true, if_false] at hmn hmc
      subst hmn hmc
      have CI := Lib.hid (fun W => wideIntNo m W hmi (in64_no h64))
      clear h64 hmi
      go_enter Try.func16, Try.ntmps16
      go_wp2_with (first | (go_at_call 80; (with_reducible refine (CL.out _ (by (repeat' (first | (with_reducible exact Below.refl _ _) | (with_reducible assumption) | (with_reducible refine Below.alloc ?_ ?_ _) | (with_reducible refine Below.setCell ?_ ?_ _) | (with_reducible refine Below.drew ?_) | (with_reducible refine below_drewN ?_ _) | (with_reducible refine below_via ?_ (by with_reducible assumption) ?_) | omega | (simp; done) | (simp; omega))))).mono ?_); rintro e w1 ⟨v1, rfl, hown1, hb1⟩; obtain ⟨A1, c1, rfl, hrs1, _⟩ := hown1.rs; (rw [List.length_map]); have HR1 := Lib.hid hrs1.rd; clear hown1 hrs1; obtain ⟨fc1, fg1, hc1, hf1, hz1⟩ := bget hb1; (try simp at hz1)) | (go_at_call 81; (with_reducible refine (CW.out _ _ _ (HR1.out.keep (by (repeat' (first | (with_reducible exact Below.refl _ _) | (with_reducible assumption) | (with_reducible refine Below.alloc ?_ ?_ _) | (with_reducible refine Below.setCell ?_ ?_ _) | (with_reducible refine Below.drew ?_) | (with_reducible refine below_drewN ?_ _) | (with_reducible refine below_via ?_ (by with_reducible assumption) ?_) | omega | (simp; done) | (simp; omega)))))).mono ?_); rintro e w2 ⟨rfl, hb2⟩; obtain ⟨fc2, fg2, hc2, hf2, hz2⟩ := bget hb2; (try simp at hz2)) | (go_at_call 82; (with_reducible refine (CI.out _).mono ?_); rintro e w3 ⟨rfl, hb3⟩; obtain ⟨fc3, fg3, hc3, hf3, hz3⟩ := bget hb3; (try simp at hz3)) | fail)
      go_ret2
      exact ⟨rfl, by (repeat' (first | (with_reducible exact Below.refl _ _) | (with_reducible assumption) | (with_reducible refine Below.alloc ?_ ?_ _) | (with_reducible refine Below.setCell ?_ ?_ _) | (with_reducible refine Below.drew ?_) | (with_reducible refine below_drewN ?_ _) | (with_reducible refine below_via ?_ (by with_reducible assumption) ?_) | omega | (simp; done) | (simp; omega)))⟩
    · rw [h64] at hmn hmc
      simp only [if_true] at hmn hmc
      subst hmn hmc
      have CI := Lib.hid (fun W => wideIntYes mn W (in64_iff.1 h64))
      clear h64 hmi
      go_enter Try.func16, Try.ntmps16
      go_wp2_with (first | (go_at_call 80; (with_reducible refine (CL.out _ (by (repeat' (first | (with_reducible exact Below.refl _ _) | (with_reducible assumption) | (with_reducible refine Below.alloc ?_ ?_ _) | (with_reducible refine Below.setCell ?_ ?_ _) | (with_reducible refine Below.drew ?_) | (with_reducible refine below_drewN ?_ _) | (with_reducible refine below_via ?_ (by with_reducible assumption) ?_) | omega | (simp; done) | (simp; omega))))).mono ?_); rintro e w1 ⟨v1, rfl, hown1, hb1⟩; obtain ⟨A1, c1, rfl, hrs1, _⟩ := hown1.rs; (rw [List.length_map]); have HR1 := Lib.hid hrs1.rd; clear hown1 hrs1; obtain ⟨fc1, fg1, hc1, hf1, hz1⟩ := bget hb1; (try simp at hz1)) | (go_at_call 81; (with_reducible refine (CW.out _ _ _ (HR1.out.keep (by (repeat' (first | (with_reducible exact Below.refl _ _) | (with_reducible assumption) | (with_reducible refine Below.alloc ?_ ?_ _) | (with_reducible refine Below.setCell ?_ ?_ _) | (with_reducible refine Below.drew ?_) | (with_reducible refine below_drewN ?_ _) | (with_reducible refine below_via ?_ (by with_reducible assumption) ?_) | omega | (simp; done) | (simp; omega)))))).mono ?_); rintro e w2 ⟨rfl, hb2⟩; obtain ⟨fc2, fg2, hc2, hf2, hz2⟩ := bget hb2; (try simp at hz2)) | (go_at_call 82; (with_reducible refine (CI.out _).mono ?_); rintro e w3 ⟨rfl, hb3⟩; obtain ⟨fc3, fg3, hc3, hf3, hz3⟩ := bget hb3; (try simp at hz3)) | fail)
      go_ret2
      exact ⟨rfl, by (repeat' (first | (with_reducible exact Below.refl _ _) | (with_reducible assumption) | (with_reducible refine Below.alloc ?_ ?_ _) | (with_reducible refine Below.setCell ?_ ?_ _) | (with_reducible refine Below.drew ?_) | (with_reducible refine below_drewN ?_ _) | (with_reducible refine below_via ?_ (by with_reducible assumption) ?_) | omega | (simp; done) | (simp; omega)))⟩
  · rw [if_neg h0] at hmn hmc
    subst hmn hmc
    have d0 : (mc == 0) = false := by simpa using h0
    clear h0 hmi
    go_enter Try.func16, Try.ntmps16
    go_wp2_with (first | (go_at_call 80; (with_reducible refine (CL.out _ (by (repeat' (first | (with_reducible exact Below.refl _ _) | (with_reducible assumption) | (with_reducible refine Below.alloc ?_ ?_ _) | (with_reducible refine Below.setCell ?_ ?_ _) | (with_reducible refine Below.drew ?_) | (with_reducible refine below_drewN ?_ _) | (with_reducible refine below_via ?_ (by with_reducible assumption) ?_) | omega | (simp; done) | (simp; omega))))).mono ?_); rintro e w1 ⟨v1, rfl, hown1, hb1⟩; obtain ⟨A1, c1, rfl, hrs1, _⟩ := hown1.rs; (rw [List.length_map]); have HR1 := Lib.hid hrs1.rd; clear hown1 hrs1; obtain ⟨fc1, fg1, hc1, hf1, hz1⟩ := bget hb1; (try simp at hz1)) | fail)
    go_ret2
    exact ⟨rfl, by (repeat' (first | (with_reducible exact Below.refl _ _) | (with_reducible assumption) | (with_reducible refine Below.alloc ?_ ?_ _) | (with_reducible refine Below.setCell ?_ ?_ _) | (with_reducible refine Below.drew ?_) | (with_reducible refine below_drewN ?_ _) | (with_reducible refine below_via ?_ (by with_reducible assumption) ?_) | omega | (simp; done) | (simp; omega)))⟩
set_option maxRecDepth 100000 in
set_option maxHeartbeats 8000000 in
theorem gridWorstAt (t : List InstV) (l : List Leg) (A B : Option Addr) (c d : Nat) (w : World) (ht : t.length ≤ 1000000) (hl : l.length ≤ 1000) (h64 : Legs64 l) (hrt : Rd w A 5 (t.map encInstV)) (hgt : ∀ x ∈ t, x.moves.val.length ≤ 1048576 ∧ GoodI w x) (hrl : Rd w B 2 (l.map encLeg)) :
    Calls Try.prog 18 #[.slice A t.length c, .slice B l.length d] w fun e w' => e = .returned (.tuple #[.int .i64 (mostN (lossN t l) 8).2, .int .i64 (lossC t l)]) ∧ Below w.heap.size w w' := by
  have CL := Lib.hid (fun W (h : Below w.heap.size w W) => gridLosses t l A B c d W ht hl h64 (hrt.keep h) (fun x hx => ⟨(hgt x hx).1, (hgt x hx).2.keep h⟩) (hrl.keep h))
  have hll := lossesL_in (t := t) h64 hl
  have cw := fun W A1 c1 h => most_lossesL t l ▸ gridWorst (lossesL t l) A1 c1 W (by omega) hll.1 h
  generalize mostN (lossN t l) 8 = M at *
  obtain ⟨m, at_⟩ := M
  simp only at cw
  have CW := Lib.hid cw
  clear cw hll
  generalize lossesL t l = L at *
  generalize lossC t l = code at *
  clear ht hl h64 hrt hgt hrl
  go_enter Try.func18, Try.ntmps18
  go_wp2_with (first | (go_at_call 80; (with_reducible refine (CL.out _ (by (repeat' (first | (with_reducible exact Below.refl _ _) | (with_reducible assumption) | (with_reducible refine Below.alloc ?_ ?_ _) | (with_reducible refine Below.setCell ?_ ?_ _) | (with_reducible refine Below.drew ?_) | (with_reducible refine below_drewN ?_ _) | (with_reducible refine below_via ?_ (by with_reducible assumption) ?_) | omega | (simp; done) | (simp; omega))))).mono ?_); rintro e w1 ⟨v1, rfl, hown1, hb1⟩; obtain ⟨A1, c1, rfl, hrs1, _⟩ := hown1.rs; (rw [List.length_map]); have HR1 := Lib.hid hrs1.rd; clear hown1 hrs1; obtain ⟨fc1, fg1, hc1, hf1, hz1⟩ := bget hb1; (try simp at hz1)) | (go_at_call 81; (with_reducible refine (CW.out _ _ _ (HR1.out.keep (by (repeat' (first | (with_reducible exact Below.refl _ _) | (with_reducible assumption) | (with_reducible refine Below.alloc ?_ ?_ _) | (with_reducible refine Below.setCell ?_ ?_ _) | (with_reducible refine Below.drew ?_) | (with_reducible refine below_drewN ?_ _) | (with_reducible refine below_via ?_ (by with_reducible assumption) ?_) | omega | (simp; done) | (simp; omega)))))).mono ?_); rintro e w2 ⟨rfl, hb2⟩; obtain ⟨fc2, fg2, hc2, hf2, hz2⟩ := bget hb2; (try simp at hz2)) | fail)
  go_ret2
  exact ⟨rfl, by (repeat' (first | (with_reducible exact Below.refl _ _) | (with_reducible assumption) | (with_reducible refine Below.alloc ?_ ?_ _) | (with_reducible refine Below.setCell ?_ ?_ _) | (with_reducible refine Below.drew ?_) | (with_reducible refine below_drewN ?_ _) | (with_reducible refine below_via ?_ (by with_reducible assumption) ?_) | omega | (simp; done) | (simp; omega)))⟩
end Go.Proofs.Ytiidplinmempcaa

/- Layer 20's Insts: a table of instruments that may be, of any. -/
namespace Go.Proofs.Ytiidplinmempcaa
open Go.RowKit
def short9 (x : InstV) : InstV := { x with moves := ⟨x.moves.A, x.moves.c, x.moves.val.take 9⟩ }
theorem good9 {w : World} {x : InstV} (h : GoodI w x) : GoodI w (short9 x) ∧ (short9 x).moves.val.length ≤ 9 := by
  refine ⟨?_, by simp [short9]; omega⟩
  unfold GoodI at *
  have := h.take 9
  rw [← List.map_take] at this
  exact this
def insts10 (l : List InstV) : List InstV := tabInstVN okV ((l.take 10).map short9) 10
theorem put_mem20 {ob : Bool} {t : List InstV} {m x : InstV} (h : x ∈ putInstVL ob t m) : x ∈ t ∨ x = m := by
  unfold putInstVL at h
  split at h
  · unfold insInstV at h
    rcases List.mem_append.1 h with h | h
    · exact .inl ((List.takeWhile_sublist _).subset h)
    · rcases List.mem_cons.1 h with h | h
      · exact .inr h
      · exact .inl ((List.dropWhile_sublist _).subset h)
  · cases h
theorem tab_mem20 (okf : InstV → Bool) (l : List InstV) : ∀ k, ∀ x ∈ tabInstVN okf l k, x ∈ l
  | 0, x, h => by simp [tabInstVN] at h
  | k + 1, x, h => by
    rcases Nat.lt_or_ge k l.length with hk | hk
    · rw [tabInstVN_succ hk] at h
      unfold stepInstV at h
      split at h
      · rcases put_mem20 h with h | h
        · exact tab_mem20 okf l k x h
        · subst h; exact List.getElem_mem hk
      · exact tab_mem20 okf l k x h
    · have e : tabInstVN okf l (k + 1) = tabInstVN okf l k := by unfold tabInstVN; rw [List.take_of_length_le (by omega), List.take_of_length_le hk]
      rw [e] at h
      exact tab_mem20 okf l k x h
theorem insts_good {w : World} {l : List InstV} (h : ∀ x ∈ l, GoodI w x) : ∀ x ∈ insts10 l, x.moves.val.length ≤ 9 ∧ GoodI w x := by
  intro x hx
  have h1 := tab_mem20 _ _ _ x hx
  obtain ⟨y, hy, rfl⟩ := List.mem_map.1 h1
  have := good9 (h y (List.mem_of_mem_take hy))
  exact ⟨this.2, this.1⟩
theorem insts_len (l : List InstV) : (insts10 l).length ≤ 10 := tabInstVN_len _ _ _
theorem row5 (a b c d : Int) (A : Option Addr) (n m : Nat) : ∀ r ∈ [[Value.int .i64 a, .int .i64 b, .int .i64 c, .int .i64 d, .slice A n m]], r.length = 5 ∧ ∀ u ∈ r, u.oneCell' = true := by
  intro r hr
  simp only [List.mem_singleton] at hr
  subst hr
  refine ⟨rfl, ?_⟩
  simp only [List.mem_cons, List.not_mem_nil, or_false, forall_eq_or_imp, forall_eq]
  exact ⟨rfl, rfl, rfl, rfl, rfl⟩
set_option maxRecDepth 100000 in
set_option maxHeartbeats 8000000 in
theorem law20Insts (l : List InstV) (A : Option Addr) (c : Nat) (w : World) (hl : l.length ≤ maxLen) (hr : Rd w A 5 (l.map encInstV)) (hg : ∀ x ∈ l, GoodI w x) :
    Calls Try.prog 12 #[.slice A l.length c] w fun e w' => ∃ v, e = .returned v ∧ Own w' w.heap.size 112 5 v ((insts10 l).map encInstV) ∧ Below w.heap.size w w' := by
  have HR := Lib.hid hr
  have HG := Lib.hid hg
  have hml : (l.length : Int) ≤ 9223372036854775807 := by unfold maxLen at hl; omega
  have htb := fun (W : World) (A : Option Addr) (c : Nat) (hb : Below w.heap.size w W) (hrs : Rs W 5 (((l.take 10).map short9).map encInstV) A c) => ref13Table okV ((l.take 10).map short9) A c W (by rw [List.length_map, List.length_take]; unfold maxLen; omega) hrs.rd (fun m hm W' hW' => ref13IsV m W' (by
    obtain ⟨y, hy, rfl⟩ := List.mem_map.1 hm
    have := (good9 (hg y (List.mem_of_mem_take hy))).2; omega) (by
    obtain ⟨y, hy, rfl⟩ := List.mem_map.1 hm
    exact (good9 (hg y (List.mem_of_mem_take hy))).1.keep (hb.trans (hW'.mono hb.size))))
  obtain ⟨fl, hfl⟩ : ∃ fl, fl = (l.take 10).map short9 := ⟨_, rfl⟩
  have hin : insts10 l = tabInstVN okV fl 10 := by unfold insts10; rw [hfl]
  rw [← hfl] at htb
  rw [hin]
  have HFL := Lib.hid hfl
  have HTB := Lib.hid htb
  clear hr hg hl htb hfl hin
  go_enter Try.func12, Try.ntmps12
  go_wp2_with fail
  go_loopw [3, 4] (fun v i wr => ∃ q : Nat, q ≤ l.length ∧ q ≤ 10 ∧ i = .int .i64 q ∧ Own wr w.heap.size 112 5 v (((l.take q).map short9).map encInstV) ∧ Below w.heap.size w wr) (fun _ i _ => l.length - (intOf i).toNat)
  case atStart => exact ⟨0, Nat.zero_le _, Nat.zero_le _, rfl, Own.nil _ _ _ _, by (repeat' (first | (with_reducible exact Below.refl _ _) | (with_reducible assumption) | (with_reducible refine Below.alloc ?_ ?_ _) | (with_reducible refine Below.setCell ?_ ?_ _) | (with_reducible refine Below.drew ?_) | (with_reducible refine below_drewN ?_ _) | (with_reducible refine below_via ?_ (by with_reducible assumption) ?_) | omega | (simp; done) | (simp; omega)))⟩
  case round =>
    obtain ⟨q, hq, hq10, rfl, hown, hbl⟩ := hrel
    have Hown := Lib.hid hown
    have Hbl := Lib.hid hbl
    have hz := hbl.size
    clear hown hbl
    by_cases hgo : q < l.length ∧ q < 10
    · obtain ⟨hlt, h10⟩ := hgo
      have hqi : (q : Int) < (l.length : Int) := by omega
      have dl : decide ((q : Int) < (l.length : Int)) = true := by simpa using hlt
      have d10 : decide ((q : Int) < 10) = true := by simp; omega
      have hx := HG.out l[q] (List.getElem_mem hlt)
      have hlen : ((l.take q).map short9).length ≤ 10 := by simp; omega
      obtain ⟨b, o, rfl, hb, hc⟩ := HR.out q (encInstV l[q]) (by simp [hlt])
      have e0 := (Hbl.out.cell (p := ⟨b, o + q * 5 + 0, none⟩) hb).trans (hc 0 _ rfl)
      have e1 := (Hbl.out.cell (p := ⟨b, o + q * 5 + 1, none⟩) hb).trans (hc 1 _ rfl)
      have e2 := (Hbl.out.cell (p := ⟨b, o + q * 5 + 2, none⟩) hb).trans (hc 2 _ rfl)
      have e3 := (Hbl.out.cell (p := ⟨b, o + q * 5 + 3, none⟩) hb).trans (hc 3 _ rfl)
      have e4 := (Hbl.out.cell (p := ⟨b, o + q * 5 + 4, none⟩) hb).trans (hc 4 _ rfl)
      simp only [Nat.add_zero] at e0
      clear hc
      have hcap := hx.cap
      have hroom := hx.room
      rw [List.length_map] at hcap
      unfold maxLen at hroom
      by_cases h9 : 9 < l[q].moves.val.length
      · have d9 : decide (9 < (l[q].moves.val.length : Int)) = true := by simp; omega
        obtain ⟨bm, om, hA, hbm, _⟩ := hx.rd 0 (encI (l[q].moves.val[0]'(by omega))) (by rw [List.getElem?_map, List.getElem?_eq_getElem (by omega)]; rfl)
        rw [hA] at e4
        have HS : Hid (((l.take (q + 1)).map short9).map encInstV = ((l.take q).map short9).map encInstV ++ [[.int .i64 l[q].id, .int .i64 l[q].mult, .int .i64 l[q].price, .int .i64 l[q].next, .slice (some ⟨bm, om, none⟩) 9 l[q].moves.c]]) := by
          unfold Hid
          rw [map_snoc hlt short9, List.map_append]
          congr 1
          simp [encInstV, short9, hA]
          omega
        clear hx hA
        have n9 : 9 ≤ l[q].moves.c := by omega
        have n9i : (9 : Int) ≤ (l[q].moves.c : Int) := by omega
        go_wp2_with (at_builtin; refine wpList_app rfl _ _ _ rfl elInstV w.heap.size _ _ rfl (Hown.out.keep (by (repeat' (first | (with_reducible exact Below.refl _ _) | (with_reducible assumption) | (with_reducible refine Below.alloc ?_ ?_ _) | (with_reducible refine Below.setCell ?_ ?_ _) | (with_reducible refine Below.drew ?_) | (with_reducible refine below_drewN ?_ _) | (with_reducible refine below_via ?_ (by with_reducible assumption) ?_) | omega | (simp; done) | (simp; omega))))) (some ⟨_, 0, none⟩) 1 1 rfl [[.int .i64 l[q].id, .int .i64 l[q].mult, .int .i64 l[q].price, .int .i64 l[q].next, .slice (some ⟨bm, om, none⟩) 9 l[q].moves.c]] rfl (fun h => by cases h) (rd_oneN (by simp)) (row5 _ _ _ _ _ _ _) (by unfold maxLen; simp; omega) (by simp; omega) (by first | omega | (simp; done) | (simp; omega)) ?_; intro v3 w3 hown3 hb3)
        go_roundw
        case rel => exact ⟨q + 1, by omega, by omega, by go_num, by rw [HS.out]; exact hown3, by have hbl := Hbl.out; (repeat' (first | (with_reducible exact Below.refl _ _) | (with_reducible assumption) | (with_reducible refine Below.alloc ?_ ?_ _) | (with_reducible refine Below.setCell ?_ ?_ _) | (with_reducible refine Below.drew ?_) | (with_reducible refine below_drewN ?_ _) | (with_reducible refine below_via ?_ (by with_reducible assumption) ?_) | omega | (simp; done) | (simp; omega)))⟩
        case measure => simp [intOf]; omega
      · have d9 : decide (9 < (l[q].moves.val.length : Int)) = false := by simp; omega
        have HS : Hid (((l.take (q + 1)).map short9).map encInstV = ((l.take q).map short9).map encInstV ++ [[.int .i64 l[q].id, .int .i64 l[q].mult, .int .i64 l[q].price, .int .i64 l[q].next, .slice l[q].moves.A l[q].moves.val.length l[q].moves.c]]) := by
          unfold Hid
          rw [map_snoc hlt short9, List.map_append]
          congr 1
          simp [encInstV, short9]
          omega
        clear hx
        go_wp2_with (at_builtin; refine wpList_app rfl _ _ _ rfl elInstV w.heap.size _ _ rfl (Hown.out.keep (by (repeat' (first | (with_reducible exact Below.refl _ _) | (with_reducible assumption) | (with_reducible refine Below.alloc ?_ ?_ _) | (with_reducible refine Below.setCell ?_ ?_ _) | (with_reducible refine Below.drew ?_) | (with_reducible refine below_drewN ?_ _) | (with_reducible refine below_via ?_ (by with_reducible assumption) ?_) | omega | (simp; done) | (simp; omega))))) (some ⟨_, 0, none⟩) 1 1 rfl [[.int .i64 l[q].id, .int .i64 l[q].mult, .int .i64 l[q].price, .int .i64 l[q].next, .slice l[q].moves.A l[q].moves.val.length l[q].moves.c]] rfl (fun h => by cases h) (rd_oneN (by simp)) (row5 _ _ _ _ _ _ _) (by unfold maxLen; simp; omega) (by simp; omega) (by first | omega | (simp; done) | (simp; omega)) ?_; intro v3 w3 hown3 hb3)
        go_roundw
        case rel => exact ⟨q + 1, by omega, by omega, by go_num, by rw [HS.out]; exact hown3, by have hbl := Hbl.out; (repeat' (first | (with_reducible exact Below.refl _ _) | (with_reducible assumption) | (with_reducible refine Below.alloc ?_ ?_ _) | (with_reducible refine Below.setCell ?_ ?_ _) | (with_reducible refine Below.drew ?_) | (with_reducible refine below_drewN ?_ _) | (with_reducible refine below_via ?_ (by with_reducible assumption) ?_) | omega | (simp; done) | (simp; omega)))⟩
        case measure => simp [intOf]; omega
    · have HT := Lib.hid (show (l.take q).map short9 = fl from by
        rw [HFL.out]
        congr 1
        rcases Nat.lt_or_ge q 10 with h | h
        · rw [List.take_of_length_le (by omega), List.take_of_length_le (by omega)]
        · rw [show q = 10 by omega])
      have hown := Hown.out
      rw [HT.out] at hown
      obtain ⟨A4, c4, rfl, hrs4, _⟩ := own_formInstV hown
      have HRS := Lib.hid hrs4
      clear hown hrs4
      by_cases hlt : q < l.length
      · have dl : decide ((q : Int) < (l.length : Int)) = true := by simpa using hlt
        have d10 : decide ((q : Int) < 10) = false := by simp; omega
        go_wp2_with (go_at_call 70; (with_reducible refine (HTB.out _ _ _ (by have hbl := Hbl.out; (repeat' (first | (with_reducible exact Below.refl _ _) | (with_reducible assumption) | (with_reducible refine Below.alloc ?_ ?_ _) | (with_reducible refine Below.setCell ?_ ?_ _) | (with_reducible refine Below.drew ?_) | (with_reducible refine below_drewN ?_ _) | (with_reducible refine below_via ?_ (by with_reducible assumption) ?_) | omega | (simp; done) | (simp; omega)))) (by have h1 := HRS.out; exact h1)).mono ?_); rintro e w5 ⟨v5, rfl, hown5, hb5⟩; obtain ⟨fc5, fg5, hc5, hf5, hz5⟩ := bget hb5; (try simp at hz5))
        go_ret
        exact ⟨_, rfl, hown5.mono (by omega), by have hbl := Hbl.out; (repeat' (first | (with_reducible exact Below.refl _ _) | (with_reducible assumption) | (with_reducible refine Below.alloc ?_ ?_ _) | (with_reducible refine Below.setCell ?_ ?_ _) | (with_reducible refine Below.drew ?_) | (with_reducible refine below_drewN ?_ _) | (with_reducible refine below_via ?_ (by with_reducible assumption) ?_) | omega | (simp; done) | (simp; omega)))⟩
      · have dl : decide ((q : Int) < (l.length : Int)) = false := by simpa using hlt
        go_wp2_with (go_at_call 70; (with_reducible refine (HTB.out _ _ _ (by have hbl := Hbl.out; (repeat' (first | (with_reducible exact Below.refl _ _) | (with_reducible assumption) | (with_reducible refine Below.alloc ?_ ?_ _) | (with_reducible refine Below.setCell ?_ ?_ _) | (with_reducible refine Below.drew ?_) | (with_reducible refine below_drewN ?_ _) | (with_reducible refine below_via ?_ (by with_reducible assumption) ?_) | omega | (simp; done) | (simp; omega)))) (by have h1 := HRS.out; exact h1)).mono ?_); rintro e w5 ⟨v5, rfl, hown5, hb5⟩; obtain ⟨fc5, fg5, hc5, hf5, hz5⟩ := bget hb5; (try simp at hz5))
        go_ret
        exact ⟨_, rfl, hown5.mono (by omega), by have hbl := Hbl.out; (repeat' (first | (with_reducible exact Below.refl _ _) | (with_reducible assumption) | (with_reducible refine Below.alloc ?_ ?_ _) | (with_reducible refine Below.setCell ?_ ?_ _) | (with_reducible refine Below.drew ?_) | (with_reducible refine below_drewN ?_ _) | (with_reducible refine below_via ?_ (by with_reducible assumption) ?_) | omega | (simp; done) | (simp; omega)))⟩
end Go.Proofs.Ytiidplinmempcaa

/- Contracts of the reference's Neg, Gross (11). -/
namespace Go.Proofs.Ytiidplinmempcaa
open Go.RowKit
set_option maxRecDepth 100000 in
set_option maxHeartbeats 4000000 in
theorem ref11Neg (l : List Leg) (A : Option Addr) (c : Nat) (w : World) (hl : l.length ≤ 1099511627776) (h64 : Legs64 l) (hr : Rd w A 2 (l.map encLeg)) :
    Calls Try.prog 102 #[.slice A l.length c] w (LegsPost w (negC l) (negL l)) := by
  have HR := Lib.hid hr
  have H64 := Lib.hid h64
  have c1 := fun W (h : Rd W A 2 (l.map encLeg)) => refIs11 l A c W hl h
  have HC := Lib.hid (negC_ref l)
  have HA := Lib.hid (negL_ref l)
  clear hr h64
  cases hv : isV l
  · rw [hv] at c1 HC HA
    have C1 := Lib.hid c1
    clear c1 hv
    go_enter Try.func102, Try.ntmps102
    go_wp2_with (go_at_call 76; (with_reducible refine (C1.out _ HR.out).mono ?_); rintro e w1 ⟨rfl, hb1⟩; obtain ⟨fc1, fg1, hc1, hf1, hz1⟩ := bget hb1; try simp at hz1)
    go_ret2
    exact ⟨_, by rw [← HC.out]; rfl, by rw [← HA.out]; exact Own.nil _ _ _ _, by (repeat' (first | (with_reducible exact Below.refl _ _) | (with_reducible assumption) | (with_reducible refine Below.alloc ?_ ?_ _) | (with_reducible refine Below.setCell ?_ ?_ _) | (with_reducible refine Below.drew ?_) | (with_reducible refine below_drewN ?_ _) | (with_reducible refine below_via ?_ (by with_reducible assumption) ?_) | omega | (simp; done) | (simp; omega)))⟩
  rw [hv] at c1 HC HA
  have C1 := Lib.hid c1
  have hmk := make8
  clear c1 hv
  go_enter Try.func102, Try.ntmps102
  go_wp2_with (go_at_call 76; (with_reducible refine (C1.out _ HR.out).mono ?_); rintro e w2 ⟨rfl, hb2⟩; obtain ⟨fc2, fg2, hc2, hf2, hz2⟩ := bget hb2; (try simp at hz2); have Hb2 := Lib.hid hb2; clear hb2)
  clear hmk hc2 hf2
  go_loopw [5] (fun i wr => ∃ j : Nat, j ≤ 8 ∧ i = .int .i64 j ∧ OwnB wr w.heap.size (66 + j) (.slice (some ⟨w2.heap.size, 0, none⟩) 8 8) (mix (f8 (fun i => - getF i l)) (f8 (sumG [])) j) ∧ Below w.heap.size w wr) (fun i _ => 8 - (intOf i).toNat)
  case atStart => exact ⟨0, Nat.zero_le _, rfl, by rw [mix_zero, f8_zero]; exact ownB_zeros w2 8 (by unfold maxLen; omega) _ rfl (by omega) _, by have hb2 := Hb2.out; (repeat' (first | (with_reducible exact Below.refl _ _) | (with_reducible assumption) | (with_reducible refine Below.alloc ?_ ?_ _) | (with_reducible refine Below.setCell ?_ ?_ _) | (with_reducible refine Below.drew ?_) | (with_reducible refine below_drewN ?_ _) | (with_reducible refine below_via ?_ (by with_reducible assumption) ?_) | omega | (simp; done) | (simp; omega)))⟩
  case round =>
    obtain ⟨j, hj, rfl, hown, hbl⟩ := hrel
    have Hown := Lib.hid hown
    have Hbl := Lib.hid hbl
    have hz := hbl.size
    clear hown hbl
    by_cases h8 : j < 8
    · have hfz := Hown.out.frozen.1
      have hgz := Hown.out.frozen.2.2
      obtain ⟨s, A1, l1, d1, e0, e1, _, hl1⟩ := Hown.out.at (mix_at (by rw [f8_len, f8_len]) (by rw [f8_len]; exact h8) (f8_at _ h8))
      have c3 := fun W (h : Rd W A 2 (l.map encLeg)) => refGet11 l ((j : Int) + 1) A c W hl h
      have I3 := get64 (i := (j : Int) + 1) H64.out
      have HAT := Lib.hid (f8_at (fun i => - getF i l) h8)
      obtain ⟨n, hn⟩ : ∃ n, n = getF ((j : Int) + 1) l := ⟨_, rfl⟩
      rw [← hn] at c3 I3 HAT
      have C3 := Lib.hid c3
      have HK3 := Lib.hid (HR.out.keep Hbl.out)
      have jb : (j : Int) < 8 := by omega
      clear c3 hn
      go_wp2_with (first | (go_at_call 84; (with_reducible refine (C3.out _ (HK3.out.keep (by (repeat' (first | (with_reducible exact Below.refl _ _) | (with_reducible assumption) | (with_reducible refine Below.alloc ?_ ?_ _) | (with_reducible refine Below.setCell ?_ ?_ _) | (with_reducible refine Below.drew ?_) | (with_reducible refine below_drewN ?_ _) | (with_reducible refine below_via ?_ (by with_reducible assumption) ?_) | omega | (simp; done) | (simp; omega)))))).mono ?_); rintro e w3 ⟨rfl, hb3⟩; obtain ⟨fc3, fg3, hc3, hf3, hz3⟩ := bget hb3; try simp at hz3) | (go_at_call 25; (with_reducible refine (bigOf n _ I3).mono ?_); rintro e w4 ⟨s4, A4, l4, c4, rfl, hB4, hl4, hb4⟩; have HB4 := Lib.hid hB4; clear hB4; obtain ⟨fc4, fg4, hc4, hf4, hz4⟩ := bget hb4; (try simp at hz4)) | (go_at_call 133; (with_reducible refine (bigNeg n s4 l4 A4 c4 (65 + j) _ (by omega) (by omega) (HB4.out.keep (by (repeat' (first | (with_reducible exact Below.refl _ _) | (with_reducible assumption) | (with_reducible refine Below.alloc ?_ ?_ _) | (with_reducible refine Below.setCell ?_ ?_ _) | (with_reducible refine Below.drew ?_) | (with_reducible refine below_drewN ?_ _) | (with_reducible refine below_via ?_ (by with_reducible assumption) ?_) | omega | (simp; done) | (simp; omega)))))).mono ?_); rintro e w5 ⟨s5, A5, l5, c5, rfl, hB5, hl5, hb5⟩; have HB5 := Lib.hid hB5; clear hB5; obtain ⟨fc5, fg5, hc5, hf5, hz5⟩ := bget hb5; (try simp at hz5)))
      have HNX := Lib.hid (mix_set (a := f8 (fun i => - getF i l)) (b := f8 (sumG [])) (k := j) (by rw [f8_len, f8_len]) (by rw [f8_len]; exact h8) HAT.out).symm
      have HST := Lib.hid ((Hown.out.keep (w' := w5) (by (repeat' (first | (with_reducible exact Below.refl _ _) | (with_reducible assumption) | (with_reducible refine Below.alloc ?_ ?_ _) | (with_reducible refine Below.setCell ?_ ?_ _) | (with_reducible refine Below.drew ?_) | (with_reducible refine below_drewN ?_ _) | (with_reducible refine below_via ?_ (by with_reducible assumption) ?_) | omega | (simp; done) | (simp; omega))))).store (M := 66 + (j + 1)) (i := j) (by rw [mix_len (by rw [f8_len, f8_len]) (by rw [f8_len]; omega), f8_len]; exact h8) HB5.out (by omega) (by omega))
      have Hb5 : Hid (Below w.heap.size w w5) := by have hbl := Hbl.out; unfold Hid; (repeat' (first | (with_reducible exact Below.refl _ _) | (with_reducible assumption) | (with_reducible refine Below.alloc ?_ ?_ _) | (with_reducible refine Below.setCell ?_ ?_ _) | (with_reducible refine Below.drew ?_) | (with_reducible refine below_drewN ?_ _) | (with_reducible refine below_via ?_ (by with_reducible assumption) ?_) | omega | (simp; done) | (simp; omega)))
      have hgg := Hown.out.frozen.2.1
      go_roundw
      case rel => exact ⟨j + 1, by omega, by go_num, by rw [HNX.out]; exact HST.out, by have hbl := Hb5.out; (repeat' (first | (with_reducible exact Below.refl _ _) | (with_reducible assumption) | (with_reducible refine Below.alloc ?_ ?_ _) | (with_reducible refine Below.setCell ?_ ?_ _) | (with_reducible refine Below.drew ?_) | (with_reducible refine below_drewN ?_ _) | (with_reducible refine below_via ?_ (by with_reducible assumption) ?_) | omega | (simp; done) | (simp; omega)))⟩
      case measure => simp [intOf]; omega
    · obtain rfl : j = 8 := by omega
      have ho := Hown.out
      rw [mix_all (by rw [f8_len]; omega) (by rw [f8_len]; omega)] at ho
      have HO := Lib.hid (ho.mono (M := 900000) (Nat.le_refl _) (by omega))
      clear ho
      go_wp2_with (go_at_call 85; (with_reducible refine (ref11Of (fun i => - getF i l) _ _ w.heap.size 900000 _ (by omega) HO.out).mono ?_); rintro e w5 ⟨v, rfl, hown5, hb5⟩)
      go_ret2
      exact ⟨_, by rw [← HC.out]; rfl, by rw [← HA.out]; exact hown5.mono hz, by (have hbl := Hbl.out; (repeat' (first | (with_reducible exact Below.refl _ _) | (with_reducible assumption) | (with_reducible refine Below.alloc ?_ ?_ _) | (with_reducible refine Below.setCell ?_ ?_ _) | (with_reducible refine Below.drew ?_) | (with_reducible refine below_drewN ?_ _) | (with_reducible refine below_via ?_ (by with_reducible assumption) ?_) | omega | (simp; done) | (simp; omega))))⟩
end Go.Proofs.Ytiidplinmempcaa

/- Contract of the reference's Gross (11). -/
namespace Go.Proofs.Ytiidplinmempcaa
open Go.RowKit
theorem isBig_abs {w : World} {n : Int} {s : Bool} {A : Option Addr} {l : List Int} {c : Nat} (h : IsBig w n s A l c) : IsBig w (iabs n) false A l c :=
  ⟨h.rd, h.bit, h.top, by rw [h.val]; unfold iabs; split <;> (try split) <;> omega, h.cap, h.room, by symm; rw [decide_eq_false_iff_not]; unfold iabs; split <;> omega⟩
theorem absL_snoc {l : List Leg} {k : Nat} (h : k < l.length) : (absL (l.take (k + 1))).sum = (absL (l.take k)).sum + iabs l[k].qty := by
  unfold absL; rw [map_snoc h, List.sum_append]; simp
end Go.Proofs.Ytiidplinmempcaa

/- The law VecBack: its walk. -/
namespace Go.Proofs.Ytiidplinmempcaa
open Go.RowKit
/-- The legs of a row that was handed in, as the law takes them: 12 at most. -/
theorem take12 {w : World} {l0 : List Leg} {A : Option Addr} {c : Nat} (hr : Rs w 2 (l0.map encLeg) A c) (h64 : Legs64 l0) : ∃ l, l = l0.take 12 ∧ l.length ≤ 12 ∧ Legs64 l ∧ Rs w 2 (l.map encLeg) A c :=
  ⟨_, rfl, by rw [List.length_take]; omega, fun x hx => h64 x (List.mem_of_mem_take hx), hr.takeL 12⟩
theorem addC_len (ls : List (List Leg)) : (addL ls).length ≤ 8 := addL_len ls
end Go.Proofs.Ytiidplinmempcaa

/- The law VecTurns: its walk. -/
namespace Go.Proofs.Ytiidplinmempcaa
open Go.RowKit
theorem rss_one {α : Type} {k : Nat} {enc : α → List Value} {W : World} {g : Nat} {v1 : Value} {l1 : List α} (h1 : IsSl k enc W v1 l1) (hg : g < W.heap.size) (c1 : W.cell? ⟨g, 0, none⟩ = some v1) : RsS k enc W [l1] (some ⟨g, 0, none⟩) 1 := by
  refine ⟨⟨[v1], ⟨rfl, fun i a b ha hb => ?_⟩, ⟨fun i r hr => ⟨g, 0, rfl, hg, fun j v hv => ?_⟩, by simp, by unfold maxLen; omega, fun e => by cases e⟩⟩⟩
  · match i with
    | 0 => simp at ha hb; subst ha hb; exact h1
    | i + 1 => simp at ha
  · match i with
    | 0 =>
      simp [enc1] at hr; subst hr
      match j with
      | 0 => simp at hv; subst hv; simpa using c1
      | j + 1 => simp at hv
    | i + 1 => simp at hr
theorem ref11Add1 (l1 : List Leg) (g : Nat) (w : World) (v1 : Value) (h1 : l1.length ≤ 1099511627776) (q1 : Legs64 l1) (r1 : IsSl 2 encLeg w v1 l1) (hg : g < w.heap.size) (c1 : w.cell? ⟨g, 0, none⟩ = some v1) :
    Calls Try.prog 23 #[.slice (some ⟨g, 0, none⟩) 1 1] w (LegsPost w (addC [l1]) (addL [l1])) :=
  ref11Add [l1] (some ⟨g, 0, none⟩) 1 w (by simp) ⟨by simp, by simp [h1]⟩ (by simp [q1]) (rss_one r1 hg c1)
theorem ref11Add2 (l1 l2 : List Leg) (g : Nat) (w : World) (v1 v2 : Value) (h1 : l1.length ≤ 1099511627776) (h2 : l2.length ≤ 1099511627776) (q1 : Legs64 l1) (q2 : Legs64 l2) (r1 : IsSl 2 encLeg w v1 l1) (r2 : IsSl 2 encLeg w v2 l2) (hg : g < w.heap.size) (c1 : w.cell? ⟨g, 0, none⟩ = some v1) (c2 : w.cell? ⟨g, 1, none⟩ = some v2) :
    Calls Try.prog 23 #[.slice (some ⟨g, 0, none⟩) 2 2] w (LegsPost w (addC [l1, l2]) (addL [l1, l2])) :=
  ref11Add [l1, l2] (some ⟨g, 0, none⟩) 2 w (by simp) ⟨by simp, by simp [h1, h2]⟩ (by simp [q1, q2]) (rss_two r1 r2 hg c1 c2)
theorem add_nil (l : List Leg) : addC [l, []] = addC [l] ∧ addL [l, []] = addL [l] := by
  have h1 : allV [l, []] = allV [l] := by unfold allV; simp [isV, isF]
  have h2 : sumG [l, []] = sumG [l] := by funext i; unfold sumG; simp [getF]
  unfold addC addL
  rw [h1, h2]; exact ⟨rfl, rfl⟩
theorem add_bad (l : List Leg) (x : Leg) (h : x.qty = 0) : addC [l, [x]] = 3 ∧ addL [l, [x]] = [] := by
  have h1 : allV [l, [x]] = false := by unfold allV; simp [isV, isF, h]
  unfold addC addL
  rw [h1]; exact ⟨rfl, rfl⟩
theorem with_yes {l : List Leg} {x : Leg} (h : (x.qty == 0) = false) : withC l x = addC [l, [x]] ∧ withL l x = addL [l, [x]] := by
  have hne : x.qty ≠ 0 := by simpa using h
  have e : withLs l x = [l, [x]] := by unfold withLs; rw [if_neg hne]
  exact ⟨by unfold withC; rw [if_neg (fun h => hne h.1), e], by unfold withL; rw [if_neg (fun h => hne h.1), e]⟩
theorem with_zero {l : List Leg} {x : Leg} (h : (x.qty == 0) = true) (h1 : 1 ≤ x.inst) (h2 : x.inst ≤ 8) : withC l x = addC [l] ∧ withL l x = addL [l] := by
  have hz : x.qty = 0 := by simpa using h
  have e : withLs l x = [l, []] := by unfold withLs; rw [if_pos hz]
  exact ⟨by unfold withC; rw [if_neg (by omega), e, (add_nil l).1], by unfold withL; rw [if_neg (by omega), e, (add_nil l).2]⟩
theorem with_bad {l : List Leg} {x : Leg} (h : (x.qty == 0) = true) (h1 : ¬ (1 ≤ x.inst ∧ x.inst ≤ 8)) : withC l x = addC [l, [x]] ∧ withL l x = addL [l, [x]] := by
  have hz : x.qty = 0 := by simpa using h
  obtain ⟨e1, e2⟩ := add_bad l x hz
  unfold withC withL
  rw [if_pos ⟨hz, by omega⟩, if_pos ⟨hz, by omega⟩, e1, e2]; exact ⟨rfl, rfl⟩
theorem withL_len (l : List Leg) (x : Leg) : (withL l x).length ≤ 8 := by
  unfold withL; split
  · simp
  · exact addL_len _
end Go.Proofs.Ytiidplinmempcaa
