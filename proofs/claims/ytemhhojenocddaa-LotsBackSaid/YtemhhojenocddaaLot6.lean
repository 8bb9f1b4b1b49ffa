/- Lots: contract of lots.Take. -/
import Derived.Test.YtemhhojenocddaaLot4
namespace Go.Proofs.Ytemhhojenocddaa
open Go.RowKit
set_option maxRecDepth 100000 in
set_option maxHeartbeats 8000000 in
theorem lotTake (l : List Lot) (x : Lot) (A : Option Addr) (c : Nat) (w : World) (hl : l.length ≤ 900000) (hin : ∀ y ∈ l, In64 y.qty) (hx : In64 x.qty) (hr : Rs w 3 (l.map encLot) A c) :
    Calls Try.prog 48 #[.slice A l.length c, .agg #[.int .i64 x.asset, .int .i64 x.tag, .int .i64 x.qty]] w (LotsPost w (takLL l x) (takLC l x)) := by
  have HR := Lib.hid hr
  have c1 := fun W h => lotChecked l x A c W (by omega) h
  clear hr
  by_cases hc : codeL l x = 0
  rotate_left
  · have hb : (codeL l x == 0) = false := by simpa using hc
    have hn : (codeL l x != 0) = true := by simpa using hc
    have HQ := Lib.hid (show takLC l x = codeL l x from if_neg hc)
    have HP := Lib.hid (show takLL l x = [] from if_neg (by unfold takLC; rw [if_neg hc]; exact hc))
    generalize codeL l x = cc at *
    have C1 := Lib.hid c1
    clear c1 hc
    go_enter Try.func48, Try.ntmps48
    go_wp2_with (first | (go_at_call 77; (with_reducible refine (C1.out _ (HR.out.rd.keep (by (repeat' (first | (with_reducible exact Below.refl _ _) | (with_reducible assumption) | (with_reducible refine Below.alloc ?_ ?_ _) | (with_reducible refine Below.setCell ?_ ?_ _) | (with_reducible refine Below.drew ?_) | (with_reducible refine below_drewN ?_ _) | (with_reducible refine below_via ?_ (by with_reducible assumption) ?_) | omega | (simp; done) | (simp; omega)))))).mono ?_); rintro e w1 ⟨rfl, hb1⟩; obtain ⟨fc1, fg1, hc1, hf1, hz1⟩ := bget hb1; try simp at hz1) | fail)
    go_ret2
    exact ⟨_, by rw [HQ.out]; rfl, by rw [HP.out]; exact Own.nil _ _ _ _, by (repeat' (first | (with_reducible exact Below.refl _ _) | (with_reducible assumption) | (with_reducible refine Below.alloc ?_ ?_ _) | (with_reducible refine Below.setCell ?_ ?_ _) | (with_reducible refine Below.drew ?_) | (with_reducible refine below_drewN ?_ _) | (with_reducible refine below_via ?_ (by with_reducible assumption) ?_) | omega | (simp; done) | (simp; omega)))⟩
  have hr2 : isL l = true ∧ rightL x = true := by
    unfold codeL at hc
    cases h : isL l
    · rw [h] at hc; cases hc
    · rw [h] at hc
      cases h2 : rightL x
      · rw [h2] at hc; cases hc
      · exact ⟨rfl, rfl⟩
  have hxp := (rightL_iff.1 hr2.2).2.2.2.2
  have hq0 : takLC l x = (if thL l x = true ∧ x.qty ≤ (l.getD (plL l x) ⟨0, 0, 0⟩).qty then 0 else 23) := if_pos hc
  rw [hc] at c1
  have hs := isL_sort hr2.1
  have c2 := fun W (h : Rd W A 3 (l.map encLot)) => lotSearch l x A c W (by omega) h (sort_mono hs.1 x)
  have C1 := Lib.hid c1
  have hpos := hs.2.1
  clear c1 hc hr2 hs
  cases ht : thL l x
  · have c3 : ∀ W, Rd W A 3 (l.map encLot) → Calls Try.prog 78 #[.slice A l.length c, .agg #[.int .i64 x.asset, .int .i64 x.tag, .int .i64 x.qty], .func (Fn.func 72) #[] #[]] W fun e w' => e = .returned (.tuple #[.int .i64 (plL l x), .bool false]) ∧ Below W.heap.size W w' := by rw [← ht]; exact c2
    have hpl := plL_le l x
    rw [ht, if_neg (by simp)] at hq0
    have HQ := Lib.hid hq0
    have HP := Lib.hid (show takLL l x = [] from if_neg (by rw [hq0]; decide))
    clear c2 hq0
    generalize plL l x = n at *
    have C2 := Lib.hid c3
    clear c3 ht
    go_enter Try.func48, Try.ntmps48
    go_wp2_with (first | (go_at_call 77; (with_reducible refine (C1.out _ (HR.out.rd.keep (by (repeat' (first | (with_reducible exact Below.refl _ _) | (with_reducible assumption) | (with_reducible refine Below.alloc ?_ ?_ _) | (with_reducible refine Below.setCell ?_ ?_ _) | (with_reducible refine Below.drew ?_) | (with_reducible refine below_drewN ?_ _) | (with_reducible refine below_via ?_ (by with_reducible assumption) ?_) | omega | (simp; done) | (simp; omega)))))).mono ?_); rintro e w1 ⟨rfl, hb1⟩; obtain ⟨fc1, fg1, hc1, hf1, hz1⟩ := bget hb1; try simp at hz1) | (go_at_call 78; (with_reducible refine (C2.out _ (HR.out.rd.keep (by (repeat' (first | (with_reducible exact Below.refl _ _) | (with_reducible assumption) | (with_reducible refine Below.alloc ?_ ?_ _) | (with_reducible refine Below.setCell ?_ ?_ _) | (with_reducible refine Below.drew ?_) | (with_reducible refine below_drewN ?_ _) | (with_reducible refine below_via ?_ (by with_reducible assumption) ?_) | omega | (simp; done) | (simp; omega)))))).mono ?_); rintro e w2 ⟨rfl, hb2⟩; obtain ⟨fc2, fg2, hc2, hf2, hz2⟩ := bget hb2; try simp at hz2) | fail)
    go_quiet (fail)
    go_wp2_with fail
    go_ret2
    exact ⟨_, by rw [HQ.out]; rfl, by rw [HP.out]; exact Own.nil _ _ _ _, by (repeat' (first | (with_reducible exact Below.refl _ _) | (with_reducible assumption) | (with_reducible refine Below.alloc ?_ ?_ _) | (with_reducible refine Below.setCell ?_ ?_ _) | (with_reducible refine Below.drew ?_) | (with_reducible refine below_drewN ?_ _) | (with_reducible refine below_via ?_ (by with_reducible assumption) ?_) | omega | (simp; done) | (simp; omega)))⟩
  have hlt0 := thL_lt ht
  have hke := thL_eq ht
  have c3 : ∀ W, Rd W A 3 (l.map encLot) → Calls Try.prog 78 #[.slice A l.length c, .agg #[.int .i64 x.asset, .int .i64 x.tag, .int .i64 x.qty], .func (Fn.func 72) #[] #[]] W fun e w' => e = .returned (.tuple #[.int .i64 (plL l x), .bool true]) ∧ Below W.heap.size W w' := by rw [← ht]; exact c2
  rw [getD_at hlt0] at hq0
  have hp0 : takLC l x = 0 → takLL l x = (if l[plL l x].qty = x.qty then l.take (plL l x) ++ l.drop (plL l x + 1) else l.set (plL l x) ⟨l[plL l x].asset, l[plL l x].tag, l[plL l x].qty - x.qty⟩) := fun h => by
    unfold takLL; rw [if_pos h, getD_at hlt0, hke.1, hke.2]
  rw [ht] at hq0
  obtain ⟨n, hlt, hq1, hp1, c4⟩ : ∃ n, ∃ hlt : n < l.length, takLC l x = (if true = true ∧ x.qty ≤ l[n].qty then 0 else 23) ∧ (takLC l x = 0 → takLL l x = (if l[n].qty = x.qty then l.take n ++ l.drop (n + 1) else l.set n ⟨l[n].asset, l[n].tag, l[n].qty - x.qty⟩)) ∧ ∀ W, Rd W A 3 (l.map encLot) → Calls Try.prog 78 #[.slice A l.length c, .agg #[.int .i64 x.asset, .int .i64 x.tag, .int .i64 x.qty], .func (Fn.func 72) #[] #[]] W fun e w' => e = .returned (.tuple #[.int .i64 n, .bool true]) ∧ Below W.heap.size W w' := ⟨plL l x, hlt0, hq0, hp0, c3⟩
  clear hq0 hp0 c3 c2 hke
  have C2 := Lib.hid c4
  have hn64 := hin l[n] (List.getElem_mem hlt)
  have nl : (n : Int) < (l.length : Int) := by omega
  obtain ⟨b, o, hA, hb, hcc0⟩ := HR.out.rd n (encLot l[n]) (by simp [hlt])
  have e0 := hcc0 0 _ rfl
  have e1 := hcc0 1 _ rfl
  have e2 := hcc0 2 _ rfl
  simp only [Nat.add_zero] at e0
  subst hA
  have HCL := Lib.hid (fun W (h : Below w.heap.size w W) => lotClone l (some ⟨b, o, none⟩) c W (by omega) (HR.out.keep h))
  unfold In64 at hn64 hx
  clear c4 hcc0 ht hpos hin
  by_cases hlo : l[n].qty < x.qty
  · rw [if_neg (by omega)] at hq1
    have d1 := decide_eq_true hlo
    have HQ := Lib.hid hq1
    have HP := Lib.hid (show takLL l x = [] from if_neg (by rw [hq1]; decide))
    clear hq1 hp1 HCL
    go_enter Try.func48, Try.ntmps48
    go_wp2_with (first | (go_at_call 77; (with_reducible refine (C1.out _ (HR.out.rd.keep (by (repeat' (first | (with_reducible exact Below.refl _ _) | (with_reducible assumption) | (with_reducible refine Below.alloc ?_ ?_ _) | (with_reducible refine Below.setCell ?_ ?_ _) | (with_reducible refine Below.drew ?_) | (with_reducible refine below_drewN ?_ _) | (with_reducible refine below_via ?_ (by with_reducible assumption) ?_) | omega | (simp; done) | (simp; omega)))))).mono ?_); rintro e w1 ⟨rfl, hb1⟩; obtain ⟨fc1, fg1, hc1, hf1, hz1⟩ := bget hb1; try simp at hz1) | (go_at_call 78; (with_reducible refine (C2.out _ (HR.out.rd.keep (by (repeat' (first | (with_reducible exact Below.refl _ _) | (with_reducible assumption) | (with_reducible refine Below.alloc ?_ ?_ _) | (with_reducible refine Below.setCell ?_ ?_ _) | (with_reducible refine Below.drew ?_) | (with_reducible refine below_drewN ?_ _) | (with_reducible refine below_via ?_ (by with_reducible assumption) ?_) | omega | (simp; done) | (simp; omega)))))).mono ?_); rintro e w2 ⟨rfl, hb2⟩; obtain ⟨fc2, fg2, hc2, hf2, hz2⟩ := bget hb2; try simp at hz2) | fail)
    go_quiet (fail)
    go_wp2_with fail
    go_ret2
    exact ⟨_, by rw [HQ.out]; rfl, by rw [HP.out]; exact Own.nil _ _ _ _, by (repeat' (first | (with_reducible exact Below.refl _ _) | (with_reducible assumption) | (with_reducible refine Below.alloc ?_ ?_ _) | (with_reducible refine Below.setCell ?_ ?_ _) | (with_reducible refine Below.drew ?_) | (with_reducible refine below_drewN ?_ _) | (with_reducible refine below_via ?_ (by with_reducible assumption) ?_) | omega | (simp; done) | (simp; omega)))⟩
  have d1 := decide_eq_false hlo
  rw [if_pos ⟨rfl, by omega⟩] at hq1
  have HQ := Lib.hid hq1
  have hp2 := hp1 hq1
  clear hq1 hp1
  by_cases heq : l[n].qty = x.qty
  · rw [if_pos heq] at hp2
    have HP := Lib.hid hp2
    have b0 : (l[n].qty - x.qty == 0) = true := by rw [heq]; simp
    clear hp2
    go_enter Try.func48, Try.ntmps48
    go_wp2_with (first | (go_at_call 77; (with_reducible refine (C1.out _ (HR.out.rd.keep (by (repeat' (first | (with_reducible exact Below.refl _ _) | (with_reducible assumption) | (with_reducible refine Below.alloc ?_ ?_ _) | (with_reducible refine Below.setCell ?_ ?_ _) | (with_reducible refine Below.drew ?_) | (with_reducible refine below_drewN ?_ _) | (with_reducible refine below_via ?_ (by with_reducible assumption) ?_) | omega | (simp; done) | (simp; omega)))))).mono ?_); rintro e w1 ⟨rfl, hb1⟩; obtain ⟨fc1, fg1, hc1, hf1, hz1⟩ := bget hb1; try simp at hz1) | (go_at_call 78; (with_reducible refine (C2.out _ (HR.out.rd.keep (by (repeat' (first | (with_reducible exact Below.refl _ _) | (with_reducible assumption) | (with_reducible refine Below.alloc ?_ ?_ _) | (with_reducible refine Below.setCell ?_ ?_ _) | (with_reducible refine Below.drew ?_) | (with_reducible refine below_drewN ?_ _) | (with_reducible refine below_via ?_ (by with_reducible assumption) ?_) | omega | (simp; done) | (simp; omega)))))).mono ?_); rintro e w2 ⟨rfl, hb2⟩; obtain ⟨fc2, fg2, hc2, hf2, hz2⟩ := bget hb2; try simp at hz2) | fail)
    go_quiet (fail)
    go_upto_region 8 with (first | (go_at_call 80; (with_reducible refine (HCL.out _ (by (repeat' (first | (with_reducible exact Below.refl _ _) | (with_reducible assumption) | (with_reducible refine Below.alloc ?_ ?_ _) | (with_reducible refine Below.setCell ?_ ?_ _) | (with_reducible refine Below.drew ?_) | (with_reducible refine below_drewN ?_ _) | (with_reducible refine below_via ?_ (by with_reducible assumption) ?_) | omega | (simp; done) | (simp; omega))))).mono ?_); rintro e w4 ⟨v4, rfl, hown4, hb4⟩; have HO4 := Lib.hid (hown4.mono (b := w.heap.size + 1) (by first | omega | (simp; omega))); clear hown4; obtain ⟨fc4, fg4, hc4, hf4, hz4⟩ := bget hb4; (try simp at hz4)) | fail)
    obtain ⟨A4, c4, hv4, _, _⟩ := HO4.out.rs
    rw [List.length_map] at hv4
    subst hv4
    obtain ⟨g, rfl, hg1, hg2⟩ := HO4.out.at (by rw [List.length_map]; omega)
    obtain ⟨cur, hblk⟩ := HO4.out.blk rfl
    have fz := fun i => hblk.frozen i
    obtain ⟨b', o', e', hb', hcc⟩ := (HO4.out.rd).1 n (encLot l[n]) (by simp [hlt])
    injection e' with e'
    injection e' with e1' e2' _
    subst e1' e2'
    have q2 := hcc 2 _ rfl
    simp only [Nat.zero_add] at q2
    have HPU := Lib.hid (fun W (h : Own W (w.heap.size + 1) 58 3 (.slice (some ⟨g, 0, none⟩) l.length c4) (l.map encLot)) => show Own (W.setCell ⟨g, n * 3 + 2, none⟩ (.int .i64 (0))) (w.heap.size + 1) 58 3 (.slice (some ⟨g, 0, none⟩) l.length c4) ((l.set n ⟨l[n].asset, l[n].tag, 0⟩).map encLot) from by rw [List.map_set]; exact h.put rfl (i := n) (r := encLot l[n]) (by simp [hlt]) (show 2 < 3 by omega) (.int .i64 (0)))
    have hbl4 := Lib.hid (show Below w.heap.size w w4 from by (repeat' (first | (with_reducible exact Below.refl _ _) | (with_reducible assumption) | (with_reducible refine Below.alloc ?_ ?_ _) | (with_reducible refine Below.setCell ?_ ?_ _) | (with_reducible refine Below.drew ?_) | (with_reducible refine below_drewN ?_ _) | (with_reducible refine below_via ?_ (by with_reducible assumption) ?_) | omega | (simp; done) | (simp; omega))))
    have xq : w4.cell? ⟨w.heap.size, 2, none⟩ = some (.int .i64 x.qty) := (by simp [hc4, hc2, hc1, go_sem, ↓IntWalk.iteOmega])
    clear hcc hblk hc4 hf4 hc2 hf2 hc1 hf1
    have wk : IntKind.i64.wrap (l[n].qty - x.qty) = 0 := (IntWalk.i64_in _ (by omega)).trans (by omega)
    go_region_law (fail)
    all_goals clear wk
    all_goals go_wp2_with (first | (go_at_call 85; (with_reducible refine (delLotAt (l.set n ⟨l[n].asset, l[n].tag, 0⟩) n _ (w.heap.size + 1) _ (by rw [List.length_set]; exact hlt) (by rw [List.length_set]; omega) ?_ ?_).mono ?_); (focus (first | omega | (simp; omega))); (focus (first | exact HPU.out _ HO4.out | exact (HPU.out _ HO4.out).drew | exact (HPU.out _ HO4.out.drew).drew | exact HPU.out _ HO4.out.drew)); rintro e w6 ⟨v6, rfl, hown6, hb6⟩; have HO6 := Lib.hid hown6; clear hown6) | fail)
    all_goals
      go_ret2
      refine ⟨_, by rw [HQ.out]; rfl, ?_, by have hbl := hbl4.out; (repeat' (first | (with_reducible exact Below.refl _ _) | (with_reducible assumption) | (with_reducible refine Below.alloc ?_ ?_ _) | (with_reducible refine Below.setCell ?_ ?_ _) | (with_reducible refine Below.drew ?_) | (with_reducible refine below_drewN ?_ _) | (with_reducible refine below_via ?_ (by with_reducible assumption) ?_) | omega | (simp; done) | (simp; omega)))⟩
      rw [HP.out]
      have h6 := HO6.out
      rw [List.take_set_of_le (Nat.le_refl _), List.drop_set_of_lt (by omega)] at h6
      exact h6.mono (by omega)
  · rw [if_neg heq] at hp2
    have HP := Lib.hid hp2
    have b0 : (l[n].qty - x.qty == 0) = false := by rw [beq_eq_false_iff_ne]; omega
    clear hp2
    go_enter Try.func48, Try.ntmps48
    go_wp2_with (first | (go_at_call 77; (with_reducible refine (C1.out _ (HR.out.rd.keep (by (repeat' (first | (with_reducible exact Below.refl _ _) | (with_reducible assumption) | (with_reducible refine Below.alloc ?_ ?_ _) | (with_reducible refine Below.setCell ?_ ?_ _) | (with_reducible refine Below.drew ?_) | (with_reducible refine below_drewN ?_ _) | (with_reducible refine below_via ?_ (by with_reducible assumption) ?_) | omega | (simp; done) | (simp; omega)))))).mono ?_); rintro e w1 ⟨rfl, hb1⟩; obtain ⟨fc1, fg1, hc1, hf1, hz1⟩ := bget hb1; try simp at hz1) | (go_at_call 78; (with_reducible refine (C2.out _ (HR.out.rd.keep (by (repeat' (first | (with_reducible exact Below.refl _ _) | (with_reducible assumption) | (with_reducible refine Below.alloc ?_ ?_ _) | (with_reducible refine Below.setCell ?_ ?_ _) | (with_reducible refine Below.drew ?_) | (with_reducible refine below_drewN ?_ _) | (with_reducible refine below_via ?_ (by with_reducible assumption) ?_) | omega | (simp; done) | (simp; omega)))))).mono ?_); rintro e w2 ⟨rfl, hb2⟩; obtain ⟨fc2, fg2, hc2, hf2, hz2⟩ := bget hb2; try simp at hz2) | fail)
    go_quiet (fail)
    go_upto_region 8 with (first | (go_at_call 80; (with_reducible refine (HCL.out _ (by (repeat' (first | (with_reducible exact Below.refl _ _) | (with_reducible assumption) | (with_reducible refine Below.alloc ?_ ?_ _) | (with_reducible refine Below.setCell ?_ ?_ _) | (with_reducible refine Below.drew ?_) | (with_reducible refine below_drewN ?_ _) | (with_reducible refine below_via ?_ (by with_reducible assumption) ?_) | omega | (simp; done) | (simp; omega))))).mono ?_); rintro e w4 ⟨v4, rfl, hown4, hb4⟩; have HO4 := Lib.hid (hown4.mono (b := w.heap.size + 1) (by first | omega | (simp; omega))); clear hown4; obtain ⟨fc4, fg4, hc4, hf4, hz4⟩ := bget hb4; (try simp at hz4)) | fail)
    obtain ⟨A4, c4, hv4, _, _⟩ := HO4.out.rs
    rw [List.length_map] at hv4
    subst hv4
    obtain ⟨g, rfl, hg1, hg2⟩ := HO4.out.at (by rw [List.length_map]; omega)
    obtain ⟨cur, hblk⟩ := HO4.out.blk rfl
    have fz := fun i => hblk.frozen i
    obtain ⟨b', o', e', hb', hcc⟩ := (HO4.out.rd).1 n (encLot l[n]) (by simp [hlt])
    injection e' with e'
    injection e' with e1' e2' _
    subst e1' e2'
    have q2 := hcc 2 _ rfl
    simp only [Nat.zero_add] at q2
    have HPU := Lib.hid (fun W (h : Own W (w.heap.size + 1) 58 3 (.slice (some ⟨g, 0, none⟩) l.length c4) (l.map encLot)) => show Own (W.setCell ⟨g, n * 3 + 2, none⟩ (.int .i64 (l[n].qty - x.qty))) (w.heap.size + 1) 58 3 (.slice (some ⟨g, 0, none⟩) l.length c4) ((l.set n ⟨l[n].asset, l[n].tag, l[n].qty - x.qty⟩).map encLot) from by rw [List.map_set]; exact h.put rfl (i := n) (r := encLot l[n]) (by simp [hlt]) (show 2 < 3 by omega) (.int .i64 (l[n].qty - x.qty)))
    have hbl4 := Lib.hid (show Below w.heap.size w w4 from by (repeat' (first | (with_reducible exact Below.refl _ _) | (with_reducible assumption) | (with_reducible refine Below.alloc ?_ ?_ _) | (with_reducible refine Below.setCell ?_ ?_ _) | (with_reducible refine Below.drew ?_) | (with_reducible refine below_drewN ?_ _) | (with_reducible refine below_via ?_ (by with_reducible assumption) ?_) | omega | (simp; done) | (simp; omega))))
    have xq : w4.cell? ⟨w.heap.size, 2, none⟩ = some (.int .i64 x.qty) := (by simp [hc4, hc2, hc1, go_sem, ↓IntWalk.iteOmega])
    clear hcc hblk hc4 hf4 hc2 hf2 hc1 hf1
    have wk : IntKind.i64.wrap (l[n].qty - x.qty) = l[n].qty - x.qty := (IntWalk.i64_in _ (by omega)).trans (by omega)
    go_region_law (fail)
    all_goals clear wk
    all_goals
      go_wp2_with fail
      go_ret2
      refine ⟨_, by rw [HQ.out]; rfl, ?_, by have hbl := hbl4.out; (repeat' (first | (with_reducible exact Below.refl _ _) | (with_reducible assumption) | (with_reducible refine Below.alloc ?_ ?_ _) | (with_reducible refine Below.setCell ?_ ?_ _) | (with_reducible refine Below.drew ?_) | (with_reducible refine below_drewN ?_ _) | (with_reducible refine below_via ?_ (by with_reducible assumption) ?_) | omega | (simp; done) | (simp; omega)))⟩
      rw [HP.out]
      refine Own.mono (base := w.heap.size + 1) ?_ (by omega)
      first | exact HPU.out _ HO4.out | exact (HPU.out _ HO4.out).drew | exact (HPU.out _ HO4.out.drew).drew | exact HPU.out _ HO4.out.drew
end Go.Proofs.Ytemhhojenocddaa
