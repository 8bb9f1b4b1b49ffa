/- Joined: Ref24b. -/
import Derived.Test.YtiidplinmempcaaJb11
/- Layer 24: contracts of the reference's Most, Margin; of grid.Margin, Worst. -/
namespace Go.Proofs.Ytiidplinmempcaa
open Go.RowKit
/-- A big number and two numbers. -/
def BigPost3 (w : World) (n : Int) (L : Nat) (at_ code : Int) (e : Ending) (w' : World) : Prop :=
  ∃ s A l c, e = .returned (.tuple #[.agg #[.bool s, .slice A l.length c], .int .i64 at_, .int .i64 code]) ∧ IsBig w' n s A l c ∧ l.length ≤ L ∧ Below w.heap.size w w'
theorem bigRet3 {fn : Func} {slot s2 s3 : Nat} (hfn : fn.results = #[.cell slot 34, .tmp s2, .tmp s3]) {a : Act} {w wf : World} {g L : Nat} {n at_ code : Int} {s : Bool} {A : Option Addr} {l : List Int} {c : Nat}
    (ha : a.tmps[slot]?.getD undef = .pointer (some ⟨g, 0, none⟩)) (ha2 : a.tmps[s2]?.getD undef = .int .i64 at_) (ha3 : a.tmps[s3]?.getD undef = .int .i64 code) (hd : a.defers = []) (h0 : wf.cell? ⟨g, 0, none⟩ = some (.bool false)) (h1 : wf.cell? ⟨g, 1, none⟩ = some (.slice none 0 0))
    (hB : IsBig wf n s A l c) (hl : l.length ≤ L) (hb : Below w.heap.size w ((wf.setCell ⟨g, 0, none⟩ (.bool s)).setCell ⟨g, 1, none⟩ (.slice A l.length c))) :
    bodyPost Try.prog fn (BigPost3 w n L at_ code) .ret a ((wf.setCell ⟨g, 0, none⟩ (.bool s)).setCell ⟨g, 1, none⟩ (.slice A l.length c)) := by
  refine bodyPost_ret (v := .tuple #[.agg #[.bool s, .slice A l.length c], .int .i64 at_, .int .i64 code]) (by simp [results, hfn, ha, ha2, ha3, go_sem, h0, h1]; try rfl) hd ⟨s, A, l, c, rfl, (hB.far h0 (by simp) _).far ((World.cell?_setCell_other _ _ _ _ (by simp)).trans h1) (by simp) _, hl, hb⟩
set_option maxRecDepth 100000 in
set_option maxHeartbeats 16000000 in
theorem ref24Most (t : List InstV) (l : List Leg) (A B : Option Addr) (c d : Nat) (w : World) (ht : t.length ≤ 1000000) (hl : l.length ≤ 1000) (h64 : Legs64 l) (hrt : Rd w A 5 (t.map encInstV)) (hgt : ∀ x ∈ t, x.moves.val.length ≤ 1048576 ∧ GoodI w x) (hrl : Rd w B 2 (l.map encLeg)) :
    Calls Try.prog 19 #[.slice A t.length c, .slice B l.length d] w (BigPost3 w (mostN (lossN t l) 8).1 2000 (mostN (lossN t l) 8).2 (lossC t l)) := by
  have CL := Lib.hid (fun W (h : Below w.heap.size w W) s => ref24Loss t l s A B c d W ht hl h64 (hrt.keep h) (fun x hx => ⟨(hgt x hx).1, (hgt x hx).2.keep h⟩) (hrl.keep h))
  have HZ := Lib.hid (fun h => most_zero (loss_no (t := t) (l := l) h) 8)
  generalize lossN t l = f at *
  generalize lossC t l = code at *
  clear ht hl h64 hrt hgt hrl
  by_cases h0 : code = 0
  · subst h0
    have HST := Lib.hid (fun k => show mostN f (k + 1) = if (mostN f k).1 < f k then (f k, (k : Int)) else mostN f k from rfl)
    have HS0 := Lib.hid (show mostN f 0 = (0, -1) from rfl)
    generalize mostN f = M at *
    clear HZ
    go_enter Try.func19, Try.ntmps19
    go_wp2_with fail
    go_loopw [8, 9] (fun a i wr => ∃ (k : Nat) (s2 : Bool) (A2 : Option Addr) (l2 : List Int) (c2 : Nat), k ≤ 8 ∧ i = .int .i64 k ∧ a = .int .i64 (M k).2 ∧ IsBig wr (M k).1 s2 A2 l2 c2 ∧ l2.length ≤ 2000 ∧ Blk wr (w.heap.size + 1) 34 #[.bool s2, .slice A2 l2.length c2] ∧ Below (w.heap.size + 1) (w.alloc (.cells #[.bool false, .slice none 0 0] 34)) wr) (fun _ i _ => 8 - (intOf i).toNat)
    case atStart => exact ⟨0, false, none, [], 0, Nat.zero_le _, rfl, by rw [HS0.out], by rw [HS0.out]; exact isBig_nil2, by simp, Blk.here (by simp), by (repeat' (first | (with_reducible exact Below.refl _ _) | (with_reducible assumption) | (with_reducible refine Below.alloc ?_ ?_ _) | (with_reducible refine Below.setCell ?_ ?_ _) | (with_reducible refine Below.drew ?_) | (with_reducible refine below_drewN ?_ _) | (with_reducible refine below_via ?_ (by with_reducible assumption) ?_) | omega | (simp; done) | (simp; omega)))⟩
    case round =>
      obtain ⟨k, s2, A2, l2, c2, hk, rfl, rfl, hB2, hl2, hbk, hbl2⟩ := hrel
      have hz2 := hbl2.size
      simp at hz2
      have u0 : wr.cell? ⟨w.heap.size, 0, none⟩ = some (.bool false) := (hbl2.cell (p := ⟨w.heap.size, 0, none⟩) (by simp)).trans (by simp [go_sem])
      have u1 : wr.cell? ⟨w.heap.size, 1, none⟩ = some (.slice none 0 0) := (hbl2.cell (p := ⟨w.heap.size, 1, none⟩) (by simp)).trans (by simp [go_sem])
      have v0 : wr.frozen? ⟨w.heap.size, 0, none⟩ = false := (hbl2.frozen (p := ⟨w.heap.size, 0, none⟩) (by simp)).trans (by simp [go_sem])
      have v1 : wr.frozen? ⟨w.heap.size, 1, none⟩ = false := (hbl2.frozen (p := ⟨w.heap.size, 1, none⟩) (by simp)).trans (by simp [go_sem])
      have Hbl := Lib.hid (show Below w.heap.size w wr from ((Below.refl _ _).alloc (Nat.le_refl _) _).trans (hbl2.mono (Nat.le_succ _)))
      have hz := Hbl.out.size
      have Hbl2 := Lib.hid hbl2
      clear hbl2
      have b0 := hbk.cell 0
      have b1 := hbk.cell 1
      have z0 := hbk.frozen 0
      have z1 := hbk.frozen 1
      have ug := hbk.lt
      simp at b0 b1
      have HB2 := Lib.hid hB2
      have HBK := Lib.hid hbk
      clear hB2 hbk
      by_cases hlt : k < 8
      · have dl : decide ((k : Int) < 8) = true := by simp; omega
        have CK := Lib.hid (fun W (h : Below w.heap.size w W) => CL.out W h k)
        have hst := HST.out k
        obtain ⟨m, at_, hm⟩ : ∃ m at_, M k = (m, at_) := ⟨_, _, rfl⟩
        rw [hm] at hst HB2 ⊢
        simp only at hst HB2 ⊢
        obtain ⟨n, hn⟩ : ∃ n, n = f (k : Int) := ⟨_, rfl⟩
        rw [← hn] at CK hst
        clear hn hm
        by_cases hlt2 : m < n
        · rw [if_pos hlt2] at hst
          have HO := Lib.hid (show ord n m = 1 from by unfold ord; rw [if_neg (by omega), if_pos hlt2])
          have HSK := Lib.hid hst
          clear hst hlt2
          go_wp2_with (first | (go_at_call 15; (with_reducible refine (CK.out _ (by have hbl := Hbl.out; (repeat' (first | (with_reducible exact Below.refl _ _) | (with_reducible assumption) | (with_reducible refine Below.alloc ?_ ?_ _) | (with_reducible refine Below.setCell ?_ ?_ _) | (with_reducible refine Below.drew ?_) | (with_reducible refine below_drewN ?_ _) | (with_reducible refine below_via ?_ (by with_reducible assumption) ?_) | omega | (simp; done) | (simp; omega))))).mono ?_); rintro e w1 ⟨s1, A1, l1, c1, rfl, hB1, hl1, hb1⟩; have HB1 := Lib.hid hB1; clear hB1; obtain ⟨fc1, fg1, hc1, hf1, hz1⟩ := bget hb1; (try simp at hz1)) | (go_at_call 20; (with_reducible refine (bigCmp n m s1 s2 l1 l2 A1 A2 c1 c2 2000 _ (by omega) hl1 hl2 (HB1.out.keep (by (repeat' (first | (with_reducible exact Below.refl _ _) | (with_reducible assumption) | (with_reducible refine Below.alloc ?_ ?_ _) | (with_reducible refine Below.setCell ?_ ?_ _) | (with_reducible refine Below.drew ?_) | (with_reducible refine below_drewN ?_ _) | (with_reducible refine below_via ?_ (by with_reducible assumption) ?_) | omega | (simp; done) | (simp; omega))))) (HB2.out.keep (by (repeat' (first | (with_reducible exact Below.refl _ _) | (with_reducible assumption) | (with_reducible refine Below.alloc ?_ ?_ _) | (with_reducible refine Below.setCell ?_ ?_ _) | (with_reducible refine Below.drew ?_) | (with_reducible refine below_drewN ?_ _) | (with_reducible refine below_via ?_ (by with_reducible assumption) ?_) | omega | (simp; done) | (simp; omega)))))).mono ?_); rw [HO.out]; rintro e w2 ⟨rfl, hb2⟩; obtain ⟨fc2, fg2, hc2, hf2, hz2⟩ := bget hb2; (try simp at hz2)) | fail)
          go_roundw
          case rel =>
            have h12 : Below w1.heap.size w1 w2 := (by (repeat' (first | (with_reducible exact Below.refl _ _) | (with_reducible assumption) | (with_reducible refine Below.alloc ?_ ?_ _) | (with_reducible refine Below.setCell ?_ ?_ _) | (with_reducible refine Below.drew ?_) | (with_reducible refine below_drewN ?_ _) | (with_reducible refine below_via ?_ (by with_reducible assumption) ?_) | omega | (simp; done) | (simp; omega))))
            have h10 : Below wr.heap.size wr w2 := (by clear h12; (repeat' (first | (with_reducible exact Below.refl _ _) | (with_reducible assumption) | (with_reducible refine Below.alloc ?_ ?_ _) | (with_reducible refine Below.setCell ?_ ?_ _) | (with_reducible refine Below.drew ?_) | (with_reducible refine below_drewN ?_ _) | (with_reducible refine below_via ?_ (by with_reducible assumption) ?_) | omega | (simp; done) | (simp; omega))))
            have hk10 := HBK.out.below h10 ug
            have t2 := hk10.cell 0
            have t3 := hk10.cell 1
            simp at t2 t3
            refine ⟨k + 1, s1, A1, l1, c1, by omega, by go_num, by rw [HSK.out], ?_, by omega, ?_, ?_⟩
            · rw [HSK.out]
              exact ((HB1.out.keep h12).far t2 (by simp) _).far ((World.cell?_setCell_other _ _ _ _ (by simp)).trans t3) (by simp) _
            · have h5 := (hk10.set 0 (.bool s1)).set 1 (.slice A1 l1.length c1)
              simpa using h5
            · have hbl := Hbl2.out
              (repeat' (first | (with_reducible exact Below.refl _ _) | (with_reducible assumption) | (with_reducible refine Below.alloc ?_ ?_ _) | (with_reducible refine Below.setCell ?_ ?_ _) | (with_reducible refine Below.drew ?_) | (with_reducible refine below_drewN ?_ _) | (with_reducible refine below_via ?_ (by with_reducible assumption) ?_) | omega | (simp; done) | (simp; omega)))
          case measure => simp [intOf]; omega
        · rw [if_neg hlt2] at hst
          have HSK := Lib.hid hst
          obtain ⟨oo, ho⟩ : ∃ oo, ord n m = oo := ⟨_, rfl⟩
          have d0 : decide (0 < oo) = false := by rw [← ho]; unfold ord; rw [if_neg hlt2]; split <;> simp
          have HO := Lib.hid ho
          clear hst hlt2 ho
          go_wp2_with (first | (go_at_call 15; (with_reducible refine (CK.out _ (by have hbl := Hbl.out; (repeat' (first | (with_reducible exact Below.refl _ _) | (with_reducible assumption) | (with_reducible refine Below.alloc ?_ ?_ _) | (with_reducible refine Below.setCell ?_ ?_ _) | (with_reducible refine Below.drew ?_) | (with_reducible refine below_drewN ?_ _) | (with_reducible refine below_via ?_ (by with_reducible assumption) ?_) | omega | (simp; done) | (simp; omega))))).mono ?_); rintro e w1 ⟨s1, A1, l1, c1, rfl, hB1, hl1, hb1⟩; have HB1 := Lib.hid hB1; clear hB1; obtain ⟨fc1, fg1, hc1, hf1, hz1⟩ := bget hb1; (try simp at hz1)) | (go_at_call 20; (with_reducible refine (bigCmp n m s1 s2 l1 l2 A1 A2 c1 c2 2000 _ (by omega) hl1 hl2 (HB1.out.keep (by (repeat' (first | (with_reducible exact Below.refl _ _) | (with_reducible assumption) | (with_reducible refine Below.alloc ?_ ?_ _) | (with_reducible refine Below.setCell ?_ ?_ _) | (with_reducible refine Below.drew ?_) | (with_reducible refine below_drewN ?_ _) | (with_reducible refine below_via ?_ (by with_reducible assumption) ?_) | omega | (simp; done) | (simp; omega))))) (HB2.out.keep (by (repeat' (first | (with_reducible exact Below.refl _ _) | (with_reducible assumption) | (with_reducible refine Below.alloc ?_ ?_ _) | (with_reducible refine Below.setCell ?_ ?_ _) | (with_reducible refine Below.drew ?_) | (with_reducible refine below_drewN ?_ _) | (with_reducible refine below_via ?_ (by with_reducible assumption) ?_) | omega | (simp; done) | (simp; omega)))))).mono ?_); rw [HO.out]; rintro e w2 ⟨rfl, hb2⟩; obtain ⟨fc2, fg2, hc2, hf2, hz2⟩ := bget hb2; (try simp at hz2)) | fail)
          go_roundw
          case rel =>
            have h10 : Below wr.heap.size wr w2 := (by (repeat' (first | (with_reducible exact Below.refl _ _) | (with_reducible assumption) | (with_reducible refine Below.alloc ?_ ?_ _) | (with_reducible refine Below.setCell ?_ ?_ _) | (with_reducible refine Below.drew ?_) | (with_reducible refine below_drewN ?_ _) | (with_reducible refine below_via ?_ (by with_reducible assumption) ?_) | omega | (simp; done) | (simp; omega))))
            refine ⟨k + 1, s2, A2, l2, c2, by omega, by go_num, by rw [HSK.out], ?_, by omega, ?_, ?_⟩
            · rw [HSK.out]
              exact HB2.out.keep h10
            · exact HBK.out.below h10 ug
            · have hbl := Hbl2.out
              (repeat' (first | (with_reducible exact Below.refl _ _) | (with_reducible assumption) | (with_reducible refine Below.alloc ?_ ?_ _) | (with_reducible refine Below.setCell ?_ ?_ _) | (with_reducible refine Below.drew ?_) | (with_reducible refine below_drewN ?_ _) | (with_reducible refine below_via ?_ (by with_reducible assumption) ?_) | omega | (simp; done) | (simp; omega)))
          case measure => simp [intOf]; omega
      · obtain rfl : k = 8 := by omega
        go_wp2_with fail
        have hbl := Hbl.out
        exact bigRet3 rfl rfl rfl rfl rfl u0 u1 HB2.out (by omega) (by (repeat' (first | (with_reducible exact Below.refl _ _) | (with_reducible assumption) | (with_reducible refine Below.alloc ?_ ?_ _) | (with_reducible refine Below.setCell ?_ ?_ _) | (with_reducible refine Below.drew ?_) | (with_reducible refine below_drewN ?_ _) | (with_reducible refine below_via ?_ (by with_reducible assumption) ?_) | omega | (simp; done) | (simp; omega))))
  · have hz := HZ.out h0
    have d0 : (code == 0) = false := by simpa using h0
    have CK := Lib.hid (fun W (h : Below w.heap.size w W) => CL.out W h 0)
    rw [hz]
    generalize f 0 = n at *
    clear HZ hz h0 CL
    go_enter Try.func19, Try.ntmps19
    go_wp2_with fail
    go_loopw [8, 9] (fun a i wr => i = .int .i64 0 ∧ Below (w.heap.size + 1) (w.alloc (.cells #[.bool false, .slice none 0 0] 34)) wr) (fun _ i _ => 8 - (intOf i).toNat)
    case atStart => exact ⟨rfl, by (repeat' (first | (with_reducible exact Below.refl _ _) | (with_reducible assumption) | (with_reducible refine Below.alloc ?_ ?_ _) | (with_reducible refine Below.setCell ?_ ?_ _) | (with_reducible refine Below.drew ?_) | (with_reducible refine below_drewN ?_ _) | (with_reducible refine below_via ?_ (by with_reducible assumption) ?_) | omega | (simp; done) | (simp; omega)))⟩
    case round =>
      obtain ⟨rfl, hbl2⟩ := hrel
      have hz2 := hbl2.size
      simp at hz2
      have u0 : wr.cell? ⟨w.heap.size, 0, none⟩ = some (.bool false) := (hbl2.cell (p := ⟨w.heap.size, 0, none⟩) (by simp)).trans (by simp [go_sem])
      have u1 : wr.cell? ⟨w.heap.size, 1, none⟩ = some (.slice none 0 0) := (hbl2.cell (p := ⟨w.heap.size, 1, none⟩) (by simp)).trans (by simp [go_sem])
      have v0 : wr.frozen? ⟨w.heap.size, 0, none⟩ = false := (hbl2.frozen (p := ⟨w.heap.size, 0, none⟩) (by simp)).trans (by simp [go_sem])
      have v1 : wr.frozen? ⟨w.heap.size, 1, none⟩ = false := (hbl2.frozen (p := ⟨w.heap.size, 1, none⟩) (by simp)).trans (by simp [go_sem])
      have Hbl := Lib.hid (show Below w.heap.size w wr from ((Below.refl _ _).alloc (Nat.le_refl _) _).trans (hbl2.mono (Nat.le_succ _)))
      have hz := Hbl.out.size
      have Hbl2 := Lib.hid hbl2
      clear hbl2
      go_wp2_with (first | (go_at_call 15; (with_reducible refine (CK.out _ (by have hbl := Hbl.out; (repeat' (first | (with_reducible exact Below.refl _ _) | (with_reducible assumption) | (with_reducible refine Below.alloc ?_ ?_ _) | (with_reducible refine Below.setCell ?_ ?_ _) | (with_reducible refine Below.drew ?_) | (with_reducible refine below_drewN ?_ _) | (with_reducible refine below_via ?_ (by with_reducible assumption) ?_) | omega | (simp; done) | (simp; omega))))).mono ?_); rintro e w1 ⟨s1, A1, l1, c1, rfl, hB1, hl1, hb1⟩; have HB1 := Lib.hid hB1; clear hB1; obtain ⟨fc1, fg1, hc1, hf1, hz1⟩ := bget hb1; (try simp at hz1)) | fail)
      have hbl := Hbl.out
      exact bigRet3 (s := false) (A := none) (l := []) (c := 0) rfl rfl rfl rfl rfl (by first | (simp [go_sem, *]; done) | (simp [go_sem, *, ↓IntWalk.iteOmega]; done)) (by first | (simp [go_sem, *]; done) | (simp [go_sem, *, ↓IntWalk.iteOmega]; done)) isBig_nil2 (by simp) (by (repeat' (first | (with_reducible exact Below.refl _ _) | (with_reducible assumption) | (with_reducible refine Below.alloc ?_ ?_ _) | (with_reducible refine Below.setCell ?_ ?_ _) | (with_reducible refine Below.drew ?_) | (with_reducible refine below_drewN ?_ _) | (with_reducible refine below_via ?_ (by with_reducible assumption) ?_) | omega | (simp; done) | (simp; omega))))
set_option maxRecDepth 100000 in
set_option maxHeartbeats 8000000 in
theorem ref24Margin (t : List InstV) (l : List Leg) (A B : Option Addr) (c d : Nat) (w : World) (ht : t.length ≤ 1000000) (hl : l.length ≤ 1000) (h64 : Legs64 l) (hrt : Rd w A 5 (t.map encInstV)) (hgt : ∀ x ∈ t, x.moves.val.length ≤ 1048576 ∧ GoodI w x) (hrl : Rd w B 2 (l.map encLeg)) :
    Calls Try.prog 17 #[.slice A t.length c, .slice B l.length d] w fun e w' => e = .returned (.tuple #[.int .i64 (marginN t l), .int .i64 (marginC t l)]) ∧ Below w.heap.size w w' := by
  have CM := Lib.hid (fun W (h : Below w.heap.size w W) => ref24Most t l A B c d W ht hl h64 (hrt.keep h) (fun x hx => ⟨(hgt x hx).1, (hgt x hx).2.keep h⟩) (hrl.keep h))
  have hmn : marginN t l = if lossC t l = 0 then (if in64 (mostN (lossN t l) 8).1 then (mostN (lossN t l) 8).1 else 0) else 0 := rfl
  have hmc : marginC t l = if lossC t l = 0 then (if in64 (mostN (lossN t l) 8).1 then 0 else 7) else lossC t l := rfl
  generalize marginN t l = mn at *
  generalize marginC t l = mc at *
  generalize mostN (lossN t l) 8 = M at *
  obtain ⟨m, at_⟩ := M
  simp only at CM hmn hmc
  generalize lossC t l = code at *
  clear ht hl h64 hrt hgt hrl
  by_cases h0 : code = 0
  · subst h0
    rw [if_pos rfl] at hmn hmc
    cases h64 : in64 m
    · rw [h64] at hmn hmc
      simp only [Bool.false_eq_true, if_false] at hmn hmc
      subst hmn hmc
      have H64 := Lib.hid h64
      clear h64
      go_enter Try.func17, Try.ntmps17
      go_wp2_with (first | (go_at_call 19; (with_reducible refine (CM.out _ (by (repeat' (first | (with_reducible exact Below.refl _ _) | (with_reducible assumption) | (with_reducible refine Below.alloc ?_ ?_ _) | (with_reducible refine Below.setCell ?_ ?_ _) | (with_reducible refine Below.drew ?_) | (with_reducible refine below_drewN ?_ _) | (with_reducible refine below_via ?_ (by with_reducible assumption) ?_) | omega | (simp; done) | (simp; omega))))).mono ?_); rintro e w1 ⟨s1, A1, l1, c1, rfl, hB1, hl1, hb1⟩; have HB1 := Lib.hid hB1; clear hB1; obtain ⟨fc1, fg1, hc1, hf1, hz1⟩ := bget hb1; (try simp at hz1)) | (go_at_call 26; (with_reducible refine (bigFits m s1 l1 A1 c1 2000 _ (by omega) hl1 (HB1.out.keep (by (repeat' (first | (with_reducible exact Below.refl _ _) | (with_reducible assumption) | (with_reducible refine Below.alloc ?_ ?_ _) | (with_reducible refine Below.setCell ?_ ?_ _) | (with_reducible refine Below.drew ?_) | (with_reducible refine below_drewN ?_ _) | (with_reducible refine below_via ?_ (by with_reducible assumption) ?_) | omega | (simp; done) | (simp; omega)))))).mono ?_); rw [H64.out]; rintro e w2 ⟨rfl, hb2⟩; obtain ⟨fc2, fg2, hc2, hf2, hz2⟩ := bget hb2; (try simp at hz2)) | fail)
      go_ret2
      exact ⟨rfl, by (repeat' (first | (with_reducible exact Below.refl _ _) | (with_reducible assumption) | (with_reducible refine Below.alloc ?_ ?_ _) | (with_reducible refine Below.setCell ?_ ?_ _) | (with_reducible refine Below.drew ?_) | (with_reducible refine below_drewN ?_ _) | (with_reducible refine below_via ?_ (by with_reducible assumption) ?_) | omega | (simp; done) | (simp; omega)))⟩
    · rw [h64] at hmn hmc
      simp only [if_true] at hmn hmc
      subst hmn hmc
      have H64 := Lib.hid h64
      have HI := Lib.hid (in64_iff.1 h64)
      clear h64
      go_enter Try.func17, Try.ntmps17
      go_wp2_with (first | (go_at_call 19; (with_reducible refine (CM.out _ (by (repeat' (first | (with_reducible exact Below.refl _ _) | (with_reducible assumption) | (with_reducible refine Below.alloc ?_ ?_ _) | (with_reducible refine Below.setCell ?_ ?_ _) | (with_reducible refine Below.drew ?_) | (with_reducible refine below_drewN ?_ _) | (with_reducible refine below_via ?_ (by with_reducible assumption) ?_) | omega | (simp; done) | (simp; omega))))).mono ?_); rintro e w1 ⟨s1, A1, l1, c1, rfl, hB1, hl1, hb1⟩; have HB1 := Lib.hid hB1; clear hB1; obtain ⟨fc1, fg1, hc1, hf1, hz1⟩ := bget hb1; (try simp at hz1)) | (go_at_call 26; (with_reducible refine (bigFits mn s1 l1 A1 c1 2000 _ (by omega) hl1 (HB1.out.keep (by (repeat' (first | (with_reducible exact Below.refl _ _) | (with_reducible assumption) | (with_reducible refine Below.alloc ?_ ?_ _) | (with_reducible refine Below.setCell ?_ ?_ _) | (with_reducible refine Below.drew ?_) | (with_reducible refine below_drewN ?_ _) | (with_reducible refine below_via ?_ (by with_reducible assumption) ?_) | omega | (simp; done) | (simp; omega)))))).mono ?_); rw [H64.out]; rintro e w2 ⟨rfl, hb2⟩; obtain ⟨fc2, fg2, hc2, hf2, hz2⟩ := bget hb2; (try simp at hz2)) | (go_at_call 27; (with_reducible refine (bigInt mn s1 l1 A1 c1 _ (by omega) HI.out (HB1.out.keep (by (repeat' (first | (with_reducible exact Below.refl _ _) | (with_reducible assumption) | (with_reducible refine Below.alloc ?_ ?_ _) | (with_reducible refine Below.setCell ?_ ?_ _) | (with_reducible refine Below.drew ?_) | (with_reducible refine below_drewN ?_ _) | (with_reducible refine below_via ?_ (by with_reducible assumption) ?_) | omega | (simp; done) | (simp; omega)))))).mono ?_); rintro e w3 ⟨rfl, hb3⟩; obtain ⟨fc3, fg3, hc3, hf3, hz3⟩ := bget hb3; (try simp at hz3)) | fail)
      go_ret2
      exact ⟨rfl, by (repeat' (first | (with_reducible exact Below.refl _ _) | (with_reducible assumption) | (with_reducible refine Below.alloc ?_ ?_ _) | (with_reducible refine Below.setCell ?_ ?_ _) | (with_reducible refine Below.drew ?_) | (with_reducible refine below_drewN ?_ _) | (with_reducible refine below_via ?_ (by with_reducible assumption) ?_) | omega | (simp; done) | (simp; omega)))⟩
  · rw [if_neg h0] at hmn hmc
    subst hmn hmc
    have d0 : (mc == 0) = false := by simpa using h0
    clear h0
    go_enter Try.func17, Try.ntmps17
    go_wp2_with (first | (go_at_call 19; (with_reducible refine (CM.out _ (by (repeat' (first | (with_reducible exact Below.refl _ _) | (with_reducible assumption) | (with_reducible refine Below.alloc ?_ ?_ _) | (with_reducible refine Below.setCell ?_ ?_ _) | (with_reducible refine Below.drew ?_) | (with_reducible refine below_drewN ?_ _) | (with_reducible refine below_via ?_ (by with_reducible assumption) ?_) | omega | (simp; done) | (simp; omega))))).mono ?_); rintro e w1 ⟨s1, A1, l1, c1, rfl, hB1, hl1, hb1⟩; have HB1 := Lib.hid hB1; clear hB1; obtain ⟨fc1, fg1, hc1, hf1, hz1⟩ := bget hb1; (try simp at hz1)) | fail)
    go_ret2
    exact ⟨rfl, by (repeat' (first | (with_reducible exact Below.refl _ _) | (with_reducible assumption) | (with_reducible refine Below.alloc ?_ ?_ _) | (with_reducible refine Below.setCell ?_ ?_ _) | (with_reducible refine Below.drew ?_) | (with_reducible refine below_drewN ?_ _) | (with_reducible refine below_via ?_ (by with_reducible assumption) ?_) | omega | (simp; done) | (simp; omega)))⟩
theorem most_lossesL (t : List InstV) (l : List Leg) : mostN (fun s => (lossesL t l).getD s.toNat 0) (lossesL t l).length = mostN (lossN t l) 8 := by
  unfold lossesL
  by_cases h : lossC t l = 0
  · rw [if_pos h, show (losses8 (lossN t l) 8).length = 8 from by unfold losses8; simp, most_losses _ 8 8 (Nat.le_refl _)]
  · rw [if_neg h, most_zero (loss_no h)]; rfl
theorem lossesL_in {t : List InstV} {l : List Leg} (h : Legs64 l) (hl : l.length ≤ 1000) : (∀ z ∈ lossesL t l, In128 z) ∧ (lossesL t l).length ≤ 8 := by
  unfold lossesL
  split
  · refine ⟨fun z hz => ?_, by unfold losses8; simp⟩
    unfold losses8 at hz
    obtain ⟨k, _, rfl⟩ := List.mem_map.1 hz
    exact loss_in h hl
  · exact ⟨fun z hz => absurd hz (by simp), by simp⟩
set_option maxRecDepth 100000 in
set_option maxHeartbeats 8000000 in
theorem gridMargin (t : List InstV) (l : List Leg) (A B : Option Addr) (c d : Nat) (w : World) (ht : t.length ≤ 1000000) (hl : l.length ≤ 1000) (h64 : Legs64 l) (hrt : Rd w A 5 (t.map encInstV)) (hgt : ∀ x ∈ t, x.moves.val.length ≤ 1048576 ∧ GoodI w x) (hrl : Rd w B 2 (l.map encLeg)) :
    Calls Try.prog 16 #[.slice A t.length c, .slice B l.length d] w fun e w' => e = .returned (.tuple #[.int .i64 (marginN t l), .int .i64 (marginC t l)]) ∧ Below w.heap.size w w' := by
  have CL := Lib.hid (fun W (h : Below w.heap.size w W) => gridLosses t l A B c d W ht hl h64 (hrt.keep h) (fun x hx => ⟨(hgt x hx).1, (hgt x hx).2.keep h⟩) (hrl.keep h))
  have hll := lossesL_in (t := t) h64 hl
  have cw := fun W A1 c1 h => most_lossesL t l ▸ gridWorst (lossesL t l) A1 c1 W (by omega) hll.1 h
  have hmi := most_in (fun s => loss_in (t := t) (s := s) h64 hl) 8
  have hmn : marginN t l = if lossC t l = 0 then (if in64 (mostN (lossN t l) 8).1 then (mostN (lossN t l) 8).1 else 0) else 0 := rfl
  have hmc : marginC t l = if lossC t l = 0 then (if in64 (mostN (lossN t l) 8).1 then 0 else 7) else lossC t l := rfl
  generalize marginN t l = mn at *
  generalize marginC t l = mc at *
  generalize mostN (lossN t l) 8 = M at *
  obtain ⟨m, at_⟩ := M
  simp only at cw hmn hmc hmi
  have CW := Lib.hid cw
  clear cw hll
  generalize lossesL t l = L at *
  generalize lossC t l = code at *
  clear ht hl h64 hrt hgt hrl
  by_cases h0 : code = 0
  · subst h0
    rw [if_pos rfl] at hmn hmc
    cases h64 : in64 m
    · rw [h64] at hmn hmc
      simp only [Bool.false_eq_true, if_false] at hmn hmc
      subst hmn hmc
      have CI := Lib.hid (fun W => wideIntNo m W hmi (in64_no h64))
      clear h64 hmi
      go_enter Try.func16, Try.ntmps16
      go_wp2_with (first | (go_at_call 80; (with_reducible refine (CL.out _ (by (repeat' (first | (with_reducible exact Below.refl _ _) | (with_reducible assumption) | (with_reducible refine Below.alloc ?_ ?_ _) | (with_reducible refine Below.setCell ?_ ?_ _) | (with_reducible refine Below.drew ?_) | (with_reducible refine below_drewN ?_ _) | (with_reducible refine below_via ?_ (by with_reducible assumption) ?_) | omega | (simp; done) | (simp; omega))))).mono ?_); rintro e w1 ⟨v1, rfl, hown1, hb1⟩; obtain ⟨A1, c1, rfl, hrs1, _⟩ := hown1.rs; (rw [List.length_map]); have HR1 := Lib.hid hrs1.rd; clear hown1 hrs1; obtain ⟨fc1, fg1, hc1, hf1, hz1⟩ := bget hb1; (try simp at hz1)) | (go_at_call 81; (with_reducible refine (CW.out _ _ _ (HR1.out.keep (by (repeat' (first | (with_reducible exact Below.refl _ _) | (with_reducible assumption) | (with_reducible refine Below.alloc ?_ ?_ _) | (with_reducible refine Below.setCell ?_ ?_ _) | (with_reducible refine Below.drew ?_) | (with_reducible refine below_drewN ?_ _) | (with_reducible refine below_via ?_ (by with_reducible assumption) ?_) | omega | (simp; done) | (simp; omega)))))).mono ?_); rintro e w2 ⟨rfl, hb2⟩; obtain ⟨fc2, fg2, hc2, hf2, hz2⟩ := bget hb2; (try simp at hz2)) | (go_at_call 82; (with_reducible refine (CI.out _).mono ?_); rintro e w3 ⟨rfl, hb3⟩; obtain ⟨fc3, fg3, hc3, hf3, hz3⟩ := bget hb3; (try simp at hz3)) | fail)
      go_ret2
      exact ⟨rfl, by (repeat' (first | (with_reducible exact Below.refl _ _) | (with_reducible assumption) | (with_reducible refine Below.alloc ?_ ?_ _) | (with_reducible refine Below.setCell ?_ ?_ _) | (with_reducible refine Below.drew ?_) | (with_reducible refine below_drewN ?_ _) | (with_reducible refine below_via ?_ (by with_reducible assumption) ?_) | omega | (simp; done) | (simp; omega)))⟩
    · rw [h64] at hmn hmc
      simp only [if_true] at hmn hmc
      subst hmn hmc
      have CI := Lib.hid (fun W => wideIntYes mn W (in64_iff.1 h64))
      clear h64 hmi
      go_enter Try.func16, Try.ntmps16
      go_wp2_with (first | (go_at_call 80; (with_reducible refine (CL.out _ (by (repeat' (first | (with_reducible exact Below.refl _ _) | (with_reducible assumption) | (with_reducible refine Below.alloc ?_ ?_ _) | (with_reducible refine Below.setCell ?_ ?_ _) | (with_reducible refine Below.drew ?_) | (with_reducible refine below_drewN ?_ _) | (with_reducible refine below_via ?_ (by with_reducible assumption) ?_) | omega | (simp; done) | (simp; omega))))).mono ?_); rintro e w1 ⟨v1, rfl, hown1, hb1⟩; obtain ⟨A1, c1, rfl, hrs1, _⟩ := hown1.rs; (rw [List.length_map]); have HR1 := Lib.hid hrs1.rd; clear hown1 hrs1; obtain ⟨fc1, fg1, hc1, hf1, hz1⟩ := bget hb1; (try simp at hz1)) | (go_at_call 81; (with_reducible refine (CW.out _ _ _ (HR1.out.keep (by (repeat' (first | (with_reducible exact Below.refl _ _) | (with_reducible assumption) | (with_reducible refine Below.alloc ?_ ?_ _) | (with_reducible refine Below.setCell ?_ ?_ _) | (with_reducible refine Below.drew ?_) | (with_reducible refine below_drewN ?_ _) | (with_reducible refine below_via ?_ (by with_reducible assumption) ?_) | omega | (simp; done) | (simp; omega)))))).mono ?_); rintro e w2 ⟨rfl, hb2⟩; obtain ⟨fc2, fg2, hc2, hf2, hz2⟩ := bget hb2; (try simp at hz2)) | (go_at_call 82; (with_reducible refine (CI.out _).mono ?_); rintro e w3 ⟨rfl, hb3⟩; obtain ⟨fc3, fg3, hc3, hf3, hz3⟩ := bget hb3; (try simp at hz3)) | fail)
      go_ret2
      exact ⟨rfl, by (repeat' (first | (with_reducible exact Below.refl _ _) | (with_reducible assumption) | (with_reducible refine Below.alloc ?_ ?_ _) | (with_reducible refine Below.setCell ?_ ?_ _) | (with_reducible refine Below.drew ?_) | (with_reducible refine below_drewN ?_ _) | (with_reducible refine below_via ?_ (by with_reducible assumption) ?_) | omega | (simp; done) | (simp; omega)))⟩
  · rw [if_neg h0] at hmn hmc
    subst hmn hmc
    have d0 : (mc == 0) = false := by simpa using h0
    clear h0 hmi
    go_enter Try.func16, Try.ntmps16
    go_wp2_with (first | (go_at_call 80; (with_reducible refine (CL.out _ (by (repeat' (first | (with_reducible exact Below.refl _ _) | (with_reducible assumption) | (with_reducible refine Below.alloc ?_ ?_ _) | (with_reducible refine Below.setCell ?_ ?_ _) | (with_reducible refine Below.drew ?_) | (with_reducible refine below_drewN ?_ _) | (with_reducible refine below_via ?_ (by with_reducible assumption) ?_) | omega | (simp; done) | (simp; omega))))).mono ?_); rintro e w1 ⟨v1, rfl, hown1, hb1⟩; obtain ⟨A1, c1, rfl, hrs1, _⟩ := hown1.rs; (rw [List.length_map]); have HR1 := Lib.hid hrs1.rd; clear hown1 hrs1; obtain ⟨fc1, fg1, hc1, hf1, hz1⟩ := bget hb1; (try simp at hz1)) | fail)
    go_ret2
    exact ⟨rfl, by (repeat' (first | (with_reducible exact Below.refl _ _) | (with_reducible assumption) | (with_reducible refine Below.alloc ?_ ?_ _) | (with_reducible refine Below.setCell ?_ ?_ _) | (with_reducible refine Below.drew ?_) | (with_reducible refine below_drewN ?_ _) | (with_reducible refine below_via ?_ (by with_reducible assumption) ?_) | omega | (simp; done) | (simp; omega)))⟩
set_option maxRecDepth 100000 in
set_option maxHeartbeats 8000000 in
theorem gridWorstAt (t : List InstV) (l : List Leg) (A B : Option Addr) (c d : Nat) (w : World) (ht : t.length ≤ 1000000) (hl : l.length ≤ 1000) (h64 : Legs64 l) (hrt : Rd w A 5 (t.map encInstV)) (hgt : ∀ x ∈ t, x.moves.val.length ≤ 1048576 ∧ GoodI w x) (hrl : Rd w B 2 (l.map encLeg)) :
    Calls Try.prog 18 #[.slice A t.length c, .slice B l.length d] w fun e w' => e = .returned (.tuple #[.int .i64 (mostN (lossN t l) 8).2, .int .i64 (lossC t l)]) ∧ Below w.heap.size w w' := by
  have CL := Lib.hid (fun W (h : Below w.heap.size w W) => gridLosses t l A B c d W ht hl h64 (hrt.keep h) (fun x hx => ⟨(hgt x hx).1, (hgt x hx).2.keep h⟩) (hrl.keep h))
  have hll := lossesL_in (t := t) h64 hl
  have cw := fun W A1 c1 h => most_lossesL t l ▸ gridWorst (lossesL t l) A1 c1 W (by omega) hll.1 h
  generalize mostN (lossN t l) 8 = M at *
  obtain ⟨m, at_⟩ := M
  simp only at cw
  have CW := Lib.hid cw
  clear cw hll
  generalize lossesL t l = L at *
  generalize lossC t l = code at *
  clear ht hl h64 hrt hgt hrl
  go_enter Try.func18, Try.ntmps18
  go_wp2_with (first | (go_at_call 80; (with_reducible refine (CL.out _ (by (repeat' (first | (with_reducible exact Below.refl _ _) | (with_reducible assumption) | (with_reducible refine Below.alloc ?_ ?_ _) | (with_reducible refine Below.setCell ?_ ?_ _) | (with_reducible refine Below.drew ?_) | (with_reducible refine below_drewN ?_ _) | (with_reducible refine below_via ?_ (by with_reducible assumption) ?_) | omega | (simp; done) | (simp; omega))))).mono ?_); rintro e w1 ⟨v1, rfl, hown1, hb1⟩; obtain ⟨A1, c1, rfl, hrs1, _⟩ := hown1.rs; (rw [List.length_map]); have HR1 := Lib.hid hrs1.rd; clear hown1 hrs1; obtain ⟨fc1, fg1, hc1, hf1, hz1⟩ := bget hb1; (try simp at hz1)) | (go_at_call 81; (with_reducible refine (CW.out _ _ _ (HR1.out.keep (by (repeat' (first | (with_reducible exact Below.refl _ _) | (with_reducible assumption) | (with_reducible refine Below.alloc ?_ ?_ _) | (with_reducible refine Below.setCell ?_ ?_ _) | (with_reducible refine Below.drew ?_) | (with_reducible refine below_drewN ?_ _) | (with_reducible refine below_via ?_ (by with_reducible assumption) ?_) | omega | (simp; done) | (simp; omega)))))).mono ?_); rintro e w2 ⟨rfl, hb2⟩; obtain ⟨fc2, fg2, hc2, hf2, hz2⟩ := bget hb2; (try simp at hz2)) | fail)
  go_ret2
  exact ⟨rfl, by (repeat' (first | (with_reducible exact Below.refl _ _) | (with_reducible assumption) | (with_reducible refine Below.alloc ?_ ?_ _) | (with_reducible refine Below.setCell ?_ ?_ _) | (with_reducible refine Below.drew ?_) | (with_reducible refine below_drewN ?_ _) | (with_reducible refine below_via ?_ (by with_reducible assumption) ?_) | omega | (simp; done) | (simp; omega)))⟩
end Go.Proofs.Ytiidplinmempcaa
