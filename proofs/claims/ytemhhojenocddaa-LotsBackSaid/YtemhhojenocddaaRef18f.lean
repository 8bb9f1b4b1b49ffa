/- Lots: contract of the reference's Draw. -/
import Derived.Test.YtemhhojenocddaaLot8
import Derived.Test.YtemhhojenocddaaRef18b
import Derived.Test.YtemhhojenocddaaRef18c
namespace Go.Proofs.Ytemhhojenocddaa
open Go.RowKit
theorem at_own {w : World} {u v : Value} {n : Nat} (h : v.ownBlock = u.ownBlock ∨ v.ownBlock = some w.heap.size) (hn : n ≤ w.heap.size) : ∀ g, v.ownBlock = some g → u.ownBlock = some g ∨ n ≤ g := fun g hg => by
  rcases h with h | h
  · exact .inl (h.symm.trans hg)
  · rw [h] at hg
    injection hg with hg
    exact .inr (by omega)
theorem addQ_map (T : List Lot) (y : Lot) (q : Int) : (T ++ addQ y q).map encLot = T.map encLot ++ (if q = 0 then [] else [encLot (withQ y q)]) := by
  rw [List.map_append]; unfold addQ; split <;> rfl
theorem own_ne' {w : World} {base E k n : Nat} {v : Value} {rows : List (List Value)} (h : Own w base E k v rows) (hn : w.heap.size ≤ n) : v.ownBlock ≠ some n := fun e => by
  have := (h.block _ e).2; omega
set_option maxRecDepth 100000 in
set_option maxHeartbeats 16000000 in
theorem ref18Draw (l : List Lot) (a q : Int) (A : Option Addr) (c : Nat) (w : World) (hl : l.length ≤ 40) (hin : ∀ y ∈ l, In64 y.qty) (hq : In64 q) (hr : Rd w A 3 (l.map encLot)) :
    Calls Try.prog 53 #[.slice A l.length c, .int .i64 a, .int .i64 q] w (DrawPost w (drawT l a q) (drawR l a q) (drawC l a q)) := by
  have HR := Lib.hid hr
  have c1 := fun W h => ref18Is l A c W (by omega) h
  have C2 := Lib.hid (fun W h => ref18Sum l a A c W (by omega) hin h)
  clear hr
  cases h1 : isL l
  · have hc : drawC l a q = 3 := by unfold drawC; rw [h1]; rfl
    have HQ := Lib.hid hc
    have HT := Lib.hid (show drawT l a q = [] from if_neg (by rw [hc]; decide))
    have HV := Lib.hid (show drawR l a q = [] from if_neg (by rw [hc]; decide))
    rw [h1] at c1
    have C1 := Lib.hid c1
    clear c1 hc h1
    go_enter Try.func53, Try.ntmps53
    go_wp2_with (first | (go_at_call 40; (with_reducible refine (C1.out _ (HR.out.keep (by (repeat' (first | (with_reducible exact Below.refl _ _) | (with_reducible assumption) | (with_reducible refine Below.alloc ?_ ?_ _) | (with_reducible refine Below.setCell ?_ ?_ _) | (with_reducible refine Below.drew ?_) | (with_reducible refine below_drewN ?_ _) | (with_reducible refine below_via ?_ (by with_reducible assumption) ?_) | omega | (simp; done) | (simp; omega)))))).mono ?_); rintro e w1 ⟨rfl, hb1⟩; obtain ⟨fc1, fg1, hc1, hf1, hz1⟩ := bget hb1; (try simp at hz1)) | fail)
    refine bodyPost_ret (v := .tuple #[.slice none 0 0, .slice none 0 0, .int .i64 (drawC l a q)]) (by rw [HQ.out]; simp [results, Try.results53, go_sem]; try rfl) rfl ⟨_, _, rfl, by rw [HT.out]; exact Own.nil _ _ _ _, by rw [HV.out]; exact Own.nil _ _ _ _, ?_⟩
    (repeat' (first | (with_reducible exact Below.refl _ _) | (with_reducible assumption) | (with_reducible refine Below.alloc ?_ ?_ _) | (with_reducible refine Below.setCell ?_ ?_ _) | (with_reducible refine Below.drew ?_) | (with_reducible refine below_drewN ?_ _) | (with_reducible refine below_via ?_ (by with_reducible assumption) ?_) | omega | (simp; done) | (simp; omega)))
  rw [h1] at c1
  have C1 := Lib.hid c1
  have hpos : ∀ y ∈ l, 0 < y.qty := fun y hy => (rightL_iff.1 ((isL_sort h1).2.1 y hy)).2.2.2.2
  have hc0 : drawC l a q = (if q < 0 then 2 else if sumL l a < q then 23 else 0) := by unfold drawC; rw [h1]; rfl
  clear c1 h1
  by_cases h2 : q < 0
  · rw [if_pos h2] at hc0
    have d2 := decide_eq_true h2
    have HQ := Lib.hid hc0
    have HT := Lib.hid (show drawT l a q = [] from if_neg (by rw [hc0]; decide))
    have HV := Lib.hid (show drawR l a q = [] from if_neg (by rw [hc0]; decide))
    clear hc0
    go_enter Try.func53, Try.ntmps53
    go_wp2_with (first | (go_at_call 40; (with_reducible refine (C1.out _ (HR.out.keep (by (repeat' (first | (with_reducible exact Below.refl _ _) | (with_reducible assumption) | (with_reducible refine Below.alloc ?_ ?_ _) | (with_reducible refine Below.setCell ?_ ?_ _) | (with_reducible refine Below.drew ?_) | (with_reducible refine below_drewN ?_ _) | (with_reducible refine below_via ?_ (by with_reducible assumption) ?_) | omega | (simp; done) | (simp; omega)))))).mono ?_); rintro e w1 ⟨rfl, hb1⟩; obtain ⟨fc1, fg1, hc1, hf1, hz1⟩ := bget hb1; (try simp at hz1)) | fail)
    refine bodyPost_ret (v := .tuple #[.slice none 0 0, .slice none 0 0, .int .i64 (drawC l a q)]) (by rw [HQ.out]; simp [results, Try.results53, go_sem]; try rfl) rfl ⟨_, _, rfl, by rw [HT.out]; exact Own.nil _ _ _ _, by rw [HV.out]; exact Own.nil _ _ _ _, ?_⟩
    (repeat' (first | (with_reducible exact Below.refl _ _) | (with_reducible assumption) | (with_reducible refine Below.alloc ?_ ?_ _) | (with_reducible refine Below.setCell ?_ ?_ _) | (with_reducible refine Below.drew ?_) | (with_reducible refine below_drewN ?_ _) | (with_reducible refine below_via ?_ (by with_reducible assumption) ?_) | omega | (simp; done) | (simp; omega)))
  rw [if_neg h2] at hc0
  have d2 := decide_eq_false h2
  obtain ⟨sm, hsm⟩ : ∃ sm, sm = sumL l a := ⟨_, rfl⟩
  rw [← hsm] at hc0 C2
  clear hsm
  by_cases h3 : sm < q
  · rw [if_pos h3] at hc0
    have HO := Lib.hid (show ord sm q = -1 from by unfold ord; rw [if_pos h3])
    have HQ := Lib.hid hc0
    have HT := Lib.hid (show drawT l a q = [] from if_neg (by rw [hc0]; decide))
    have HV := Lib.hid (show drawR l a q = [] from if_neg (by rw [hc0]; decide))
    clear hc0
    go_enter Try.func53, Try.ntmps53
    go_wp2_with (first | (go_at_call 40; (with_reducible refine (C1.out _ (HR.out.keep (by (repeat' (first | (with_reducible exact Below.refl _ _) | (with_reducible assumption) | (with_reducible refine Below.alloc ?_ ?_ _) | (with_reducible refine Below.setCell ?_ ?_ _) | (with_reducible refine Below.drew ?_) | (with_reducible refine below_drewN ?_ _) | (with_reducible refine below_via ?_ (by with_reducible assumption) ?_) | omega | (simp; done) | (simp; omega)))))).mono ?_); rintro e w1 ⟨rfl, hb1⟩; obtain ⟨fc1, fg1, hc1, hf1, hz1⟩ := bget hb1; (try simp at hz1)) | (go_at_call 45; (with_reducible refine (C2.out _ (HR.out.keep (by (repeat' (first | (with_reducible exact Below.refl _ _) | (with_reducible assumption) | (with_reducible refine Below.alloc ?_ ?_ _) | (with_reducible refine Below.setCell ?_ ?_ _) | (with_reducible refine Below.drew ?_) | (with_reducible refine below_drewN ?_ _) | (with_reducible refine below_via ?_ (by with_reducible assumption) ?_) | omega | (simp; done) | (simp; omega)))))).mono ?_); rintro e w2 ⟨s2, A2, l2, c2, rfl, hB2, hl2, hb2⟩; have HB2 := Lib.hid hB2; clear hB2; obtain ⟨fc2, fg2, hc2, hf2, hz2⟩ := bget hb2; (try simp at hz2)) | (go_at_call 57; (with_reducible refine (bigOf q _ hq).mono ?_); rintro e w3 ⟨s3, A3, l3, c3, rfl, hB3, hl3, hb3⟩; have HB3 := Lib.hid hB3; clear hB3; obtain ⟨fc3, fg3, hc3, hf3, hz3⟩ := bget hb3; (try simp at hz3)) | (go_at_call 43; (with_reducible refine (bigCmp sm q s2 s3 l2 l3 A2 A3 c2 c3 200 _ (by omega) (by omega) (by omega) (HB2.out.keep (by (repeat' (first | (with_reducible exact Below.refl _ _) | (with_reducible assumption) | (with_reducible refine Below.alloc ?_ ?_ _) | (with_reducible refine Below.setCell ?_ ?_ _) | (with_reducible refine Below.drew ?_) | (with_reducible refine below_drewN ?_ _) | (with_reducible refine below_via ?_ (by with_reducible assumption) ?_) | omega | (simp; done) | (simp; omega))))) (HB3.out.keep (by (repeat' (first | (with_reducible exact Below.refl _ _) | (with_reducible assumption) | (with_reducible refine Below.alloc ?_ ?_ _) | (with_reducible refine Below.setCell ?_ ?_ _) | (with_reducible refine Below.drew ?_) | (with_reducible refine below_drewN ?_ _) | (with_reducible refine below_via ?_ (by with_reducible assumption) ?_) | omega | (simp; done) | (simp; omega)))))).mono ?_); rw [HO.out]; rintro e w4 ⟨rfl, hb4⟩; obtain ⟨fc4, fg4, hc4, hf4, hz4⟩ := bget hb4; (try simp at hz4)) | fail)
    refine bodyPost_ret (v := .tuple #[.slice none 0 0, .slice none 0 0, .int .i64 (drawC l a q)]) (by rw [HQ.out]; simp [results, Try.results53, go_sem]; try rfl) rfl ⟨_, _, rfl, by rw [HT.out]; exact Own.nil _ _ _ _, by rw [HV.out]; exact Own.nil _ _ _ _, ?_⟩
    (repeat' (first | (with_reducible exact Below.refl _ _) | (with_reducible assumption) | (with_reducible refine Below.alloc ?_ ?_ _) | (with_reducible refine Below.setCell ?_ ?_ _) | (with_reducible refine Below.drew ?_) | (with_reducible refine below_drewN ?_ _) | (with_reducible refine below_via ?_ (by with_reducible assumption) ?_) | omega | (simp; done) | (simp; omega)))
  rw [if_neg h3] at hc0
  obtain ⟨oo, hoo⟩ : ∃ oo, oo = ord sm q := ⟨_, rfl⟩
  have d3 : decide (oo < 0) = false := by rw [hoo]; unfold ord; rw [if_neg h3]; split <;> simp
  have HO := Lib.hid hoo.symm
  have HQ := Lib.hid hc0
  have HT := Lib.hid (show drawT l a q = (drawG a q l).1 from if_pos hc0)
  have HV := Lib.hid (show drawR l a q = (drawG a q l).2 from if_pos hc0)
  have HPOS := Lib.hid hpos
  have HIN := Lib.hid hin
  clear hc0 h3 hpos hin hoo
  go_enter Try.func53, Try.ntmps53
  go_wp2_with (first | (go_at_call 40; (with_reducible refine (C1.out _ (HR.out.keep (by (repeat' (first | (with_reducible exact Below.refl _ _) | (with_reducible assumption) | (with_reducible refine Below.alloc ?_ ?_ _) | (with_reducible refine Below.setCell ?_ ?_ _) | (with_reducible refine Below.drew ?_) | (with_reducible refine below_drewN ?_ _) | (with_reducible refine below_via ?_ (by with_reducible assumption) ?_) | omega | (simp; done) | (simp; omega)))))).mono ?_); rintro e w1 ⟨rfl, hb1⟩; obtain ⟨fc1, fg1, hc1, hf1, hz1⟩ := bget hb1; (try simp at hz1)) | (go_at_call 45; (with_reducible refine (C2.out _ (HR.out.keep (by (repeat' (first | (with_reducible exact Below.refl _ _) | (with_reducible assumption) | (with_reducible refine Below.alloc ?_ ?_ _) | (with_reducible refine Below.setCell ?_ ?_ _) | (with_reducible refine Below.drew ?_) | (with_reducible refine below_drewN ?_ _) | (with_reducible refine below_via ?_ (by with_reducible assumption) ?_) | omega | (simp; done) | (simp; omega)))))).mono ?_); rintro e w2 ⟨s2, A2, l2, c2, rfl, hB2, hl2, hb2⟩; have HB2 := Lib.hid hB2; clear hB2; obtain ⟨fc2, fg2, hc2, hf2, hz2⟩ := bget hb2; (try simp at hz2)) | (go_at_call 57; (with_reducible refine (bigOf q _ hq).mono ?_); rintro e w3 ⟨s3, A3, l3, c3, rfl, hB3, hl3, hb3⟩; have HB3 := Lib.hid hB3; clear hB3; obtain ⟨fc3, fg3, hc3, hf3, hz3⟩ := bget hb3; (try simp at hz3)) | (go_at_call 43; (with_reducible refine (bigCmp sm q s2 s3 l2 l3 A2 A3 c2 c3 200 _ (by omega) (by omega) (by omega) (HB2.out.keep (by (repeat' (first | (with_reducible exact Below.refl _ _) | (with_reducible assumption) | (with_reducible refine Below.alloc ?_ ?_ _) | (with_reducible refine Below.setCell ?_ ?_ _) | (with_reducible refine Below.drew ?_) | (with_reducible refine below_drewN ?_ _) | (with_reducible refine below_via ?_ (by with_reducible assumption) ?_) | omega | (simp; done) | (simp; omega))))) (HB3.out.keep (by (repeat' (first | (with_reducible exact Below.refl _ _) | (with_reducible assumption) | (with_reducible refine Below.alloc ?_ ?_ _) | (with_reducible refine Below.setCell ?_ ?_ _) | (with_reducible refine Below.drew ?_) | (with_reducible refine below_drewN ?_ _) | (with_reducible refine below_via ?_ (by with_reducible assumption) ?_) | omega | (simp; done) | (simp; omega)))))).mono ?_); rw [HO.out]; rintro e w4 ⟨rfl, hb4⟩; obtain ⟨fc4, fg4, hc4, hf4, hz4⟩ := bget hb4; (try simp at hz4)) | fail)
  have hb0 : Below w.heap.size w w4 := by (repeat' (first | (with_reducible exact Below.refl _ _) | (with_reducible assumption) | (with_reducible refine Below.alloc ?_ ?_ _) | (with_reducible refine Below.setCell ?_ ?_ _) | (with_reducible refine Below.drew ?_) | (with_reducible refine below_drewN ?_ _) | (with_reducible refine below_via ?_ (by with_reducible assumption) ?_) | omega | (simp; done) | (simp; omega)))
  have Hb0 := Lib.hid hb0
  clear hb0
  go_loopw [2, 9, 10, 11] (fun qv u v i wr => ∃ (k : Nat) (z : Int) (T R : List Lot), k ≤ l.length ∧ i = .int .i64 k ∧ qv = .int .i64 z ∧ 0 ≤ z ∧ In64 z ∧ Own wr w4.heap.size 58 3 u (T.map encLot) ∧ Own wr w4.heap.size 58 3 v (R.map encLot) ∧ Apart u v ∧ (drawG a q l).1 = T ++ (drawG a z (l.drop k)).1 ∧ (drawG a q l).2 = R ++ (drawG a z (l.drop k)).2 ∧ T.length ≤ k ∧ R.length ≤ k ∧ Below w4.heap.size w4 wr) (fun _ _ _ i _ => l.length - (intOf i).toNat)
  case atStart => exact ⟨0, q, [], [], Nat.zero_le _, rfl, rfl, by omega, hq, Own.nil _ _ _ _, Own.nil _ _ _ _, fun g hg => by simp [Value.ownBlock] at hg, rfl, rfl, by simp, by simp, Below.refl _ _⟩
  case round =>
    obtain ⟨k, z, T, R, hk, rfl, rfl, hz0, hz64, hT, hR, hap, g1, g2, hTl, hRl, hbl⟩ := hrel
    have HoT := Lib.hid hT
    have HoR := Lib.hid hR
    have Hap := Lib.hid hap
    have Hbl := Lib.hid hbl
    have hz := hbl.size
    clear hT hR hap hbl hb1 hc1 hf1 hz1 hb2 hc2 hf2 hb3 hc3 hf3 hb4 hc4 hf4
    by_cases hlt : k < l.length
    · have kl : (k : Int) < (l.length : Int) := by omega
      have dl : decide ((k : Int) < (l.length : Int)) = true := by simpa using hlt
      rw [drop_cons' hlt] at g1 g2
      obtain ⟨b, o, rfl, hb, hc⟩ := HR.out k (encLot l[k]) (by simp [hlt])
      have hbx := Hb0.out.trans (Hbl.out.mono Hb0.out.size)
      have e0 := (hbx.cell (p := ⟨b, o + k * 3 + 0, none⟩) hb).trans (hc 0 _ rfl)
      have e1 := (hbx.cell (p := ⟨b, o + k * 3 + 1, none⟩) hb).trans (hc 1 _ rfl)
      have e2 := (hbx.cell (p := ⟨b, o + k * 3 + 2, none⟩) hb).trans (hc 2 _ rfl)
      simp only [Nat.add_zero] at e0
      have hps := HPOS.out l[k] (List.getElem_mem hlt)
      have hy64 := HIN.out l[k] (List.getElem_mem hlt)
      have hbw : b < wr.heap.size := Nat.lt_of_lt_of_le hb hbx.size
      clear hc hbx
      unfold In64 at hz64 hy64
      cases h1 : (l[k].asset == a)
      · have na : (l[k].asset != a) = true := by simp only [bne, h1]; rfl
        have HP := Lib.hid (show partQ a z l[k] = 0 from by unfold partQ; rw [h1]; rfl)
        have G1 := Lib.hid (draw_step1 g1 HP.out (show z - (0) = z by omega))
        have G2 := Lib.hid (draw_step2 g2 HP.out (show z - (0) = z by omega) (show l[k].qty - (0) = l[k].qty by omega))
        have hl1 := addQ_len l[k] (0)
        have hl2 := addQ_len l[k] (l[k].qty)
        clear g1 g2
        go_wp2_with fail
        go_region_held3 (fun w' => w'.cell? ⟨b, o + k * 3, none⟩ = some (.int .i64 l[k].asset) ∧ w'.cell? ⟨b, o + k * 3 + 1, none⟩ = some (.int .i64 l[k].tag) ∧ w'.cell? ⟨b, o + k * 3 + 2, none⟩ = some (.int .i64 l[k].qty)) (first | (simp [go_sem]; done) | (repeat' (first | (with_reducible assumption) | (with_reducible refine And.intro ?_ ?_) | (with_reducible refine cell_drew ?_) | (with_reducible refine cell_via (by with_reducible assumption) ?_ ?_) | (simp [*]; done) | (simp [go_sem]; done) | (with_reducible refine cell_alloc ?_ ?_) | (with_reducible refine cell_set_far ?_ ?_) | omega | (simp; omega)))) (fail)
        all_goals
          go_wp2_with (first | (at_builtin; refine wpList_appAt rfl _ _ _ rfl elLot w4.heap.size u10 (R.map encLot) rfl ?_ ⟨_, 0, none⟩ 1 1 rfl [encLot (withQ l[k] (l[k].qty))] rfl (rd_oneN (by simp)) (rowsLot [withQ l[k] (l[k].qty)]) (by unfold maxLen; first | (simp; done) | omega | (simp; omega)) (by first | (simp; done) | omega | (simp; omega)) (by first | omega | (simp; done) | (simp; omega)) ?_; (focus (repeat' (first | (with_reducible exact HoR.out) | (with_reducible refine Own.alloc ?_ _) | (with_reducible refine Own.far ?_ ?_ _) | (with_reducible refine Own.drew ?_) | (intro h; have := (HoR.out.block _ h).2; (first | omega | (simp at this; done) | (simp at this; omega)))))); intro v6 w6 hown6 hb6 hg6 ha6; have HoR6 := Lib.hid hown6; have HoT6 := Lib.hid (Own.grown (v := u9) (rows := T.map encLot) (base := w4.heap.size) (E := 58) (k := 3) (by (repeat' (first | (with_reducible exact HoT.out) | (with_reducible refine Own.alloc ?_ _) | (with_reducible refine Own.far ?_ ?_ _) | (with_reducible refine Own.drew ?_) | (intro h; have := (HoT.out.block _ h).2; (first | omega | (simp at this; done) | (simp at this; omega)))))) hg6 (fun g h1 h2 => Hap.out g h1 h2)); have Hap6 := Lib.hid (apart_next2 (w := wr) Hap.out HoT.out (at_own ha6 (by first | omega | (simp; done) | (simp; omega)))); have Hb6 := Lib.hid hb6; clear hown6 hb6 hg6 ha6) | fail)
          go_roundw
          case rel => exact ⟨k + 1, z, T ++ addQ l[k] (0), R ++ addQ l[k] (l[k].qty), by omega, by go_num, by go_num, by omega, by unfold In64; omega, (by rw [addQ_map]; (first | (rw [if_neg (by omega)]; exact HoT6.out) | (rw [if_pos (by omega), List.append_nil]; exact HoT6.out))), (by rw [addQ_map]; (first | (rw [if_neg (by omega)]; exact HoR6.out) | (rw [if_pos (by omega), List.append_nil]; exact HoR6.out))), Hap6.out, G1.out, G2.out, by rw [List.length_append]; omega, by rw [List.length_append]; omega, (by have h1 := Hbl.out; have h3 := Hb6.out; (repeat' (first | (with_reducible exact Below.refl _ _) | (with_reducible assumption) | (with_reducible refine Below.alloc ?_ ?_ _) | (with_reducible refine Below.setCell ?_ ?_ _) | (with_reducible refine Below.drew ?_) | (with_reducible refine below_drewN ?_ _) | (with_reducible refine below_via ?_ (by with_reducible assumption) ?_) | omega | (simp; done) | (simp; omega))))⟩
          case measure => simp [intOf]; omega
      · have na : (l[k].asset != a) = false := by simp only [bne, h1]; rfl
        by_cases hm : z < l[k].qty
        · have HP := Lib.hid (show partQ a z l[k] = z from by unfold partQ; rw [h1, if_pos rfl]; omega)
          by_cases hz00 : z = 0
          · have hP0 := HP.out.trans hz00
            have HP := Lib.hid hP0
            clear hP0
            have G1 := Lib.hid (draw_step1 g1 HP.out (show z - (0) = 0 by omega))
            have G2 := Lib.hid (draw_step2 g2 HP.out (show z - (0) = 0 by omega) (show l[k].qty - (0) = l[k].qty by omega))
            have hl1 := addQ_len l[k] (0)
            have hl2 := addQ_len l[k] (l[k].qty)
            clear g1 g2
            go_wp2_with fail
            go_region_held3 (fun w' => w'.cell? ⟨b, o + k * 3, none⟩ = some (.int .i64 l[k].asset) ∧ w'.cell? ⟨b, o + k * 3 + 1, none⟩ = some (.int .i64 l[k].tag) ∧ w'.cell? ⟨b, o + k * 3 + 2, none⟩ = some (.int .i64 l[k].qty)) (first | (simp [go_sem]; done) | (repeat' (first | (with_reducible assumption) | (with_reducible refine And.intro ?_ ?_) | (with_reducible refine cell_drew ?_) | (with_reducible refine cell_via (by with_reducible assumption) ?_ ?_) | (simp [*]; done) | (simp [go_sem]; done) | (with_reducible refine cell_alloc ?_ ?_) | (with_reducible refine cell_set_far ?_ ?_) | omega | (simp; omega)))) (fail)
            all_goals
              go_wp2_with (first | (at_builtin; refine wpList_appAt rfl _ _ _ rfl elLot w4.heap.size u10 (R.map encLot) rfl ?_ ⟨_, 0, none⟩ 1 1 rfl [encLot (withQ l[k] (l[k].qty))] rfl (rd_oneN (by simp)) (rowsLot [withQ l[k] (l[k].qty)]) (by unfold maxLen; first | (simp; done) | omega | (simp; omega)) (by first | (simp; done) | omega | (simp; omega)) (by first | omega | (simp; done) | (simp; omega)) ?_; (focus (repeat' (first | (with_reducible exact HoR.out) | (with_reducible refine Own.alloc ?_ _) | (with_reducible refine Own.far ?_ ?_ _) | (with_reducible refine Own.drew ?_) | (intro h; have := (HoR.out.block _ h).2; (first | omega | (simp at this; done) | (simp at this; omega)))))); intro v6 w6 hown6 hb6 hg6 ha6; have HoR6 := Lib.hid hown6; have HoT6 := Lib.hid (Own.grown (v := u9) (rows := T.map encLot) (base := w4.heap.size) (E := 58) (k := 3) (by (repeat' (first | (with_reducible exact HoT.out) | (with_reducible refine Own.alloc ?_ _) | (with_reducible refine Own.far ?_ ?_ _) | (with_reducible refine Own.drew ?_) | (intro h; have := (HoT.out.block _ h).2; (first | omega | (simp at this; done) | (simp at this; omega)))))) hg6 (fun g h1 h2 => Hap.out g h1 h2)); have Hap6 := Lib.hid (apart_next2 (w := wr) Hap.out HoT.out (at_own ha6 (by first | omega | (simp; done) | (simp; omega)))); have Hb6 := Lib.hid hb6; clear hown6 hb6 hg6 ha6) | fail)
              go_roundw
              case rel => exact ⟨k + 1, 0, T ++ addQ l[k] (0), R ++ addQ l[k] (l[k].qty), by omega, by go_num, by go_num, by omega, by unfold In64; omega, (by rw [addQ_map]; (first | (rw [if_neg (by omega)]; exact HoT6.out) | (rw [if_pos (by omega), List.append_nil]; exact HoT6.out))), (by rw [addQ_map]; (first | (rw [if_neg (by omega)]; exact HoR6.out) | (rw [if_pos (by omega), List.append_nil]; exact HoR6.out))), Hap6.out, G1.out, G2.out, by rw [List.length_append]; omega, by rw [List.length_append]; omega, (by have h1 := Hbl.out; have h3 := Hb6.out; (repeat' (first | (with_reducible exact Below.refl _ _) | (with_reducible assumption) | (with_reducible refine Below.alloc ?_ ?_ _) | (with_reducible refine Below.setCell ?_ ?_ _) | (with_reducible refine Below.drew ?_) | (with_reducible refine below_drewN ?_ _) | (with_reducible refine below_via ?_ (by with_reducible assumption) ?_) | omega | (simp; done) | (simp; omega))))⟩
              case measure => simp [intOf]; omega
          · have G1 := Lib.hid (draw_step1 g1 HP.out (show z - (z) = 0 by omega))
            have G2 := Lib.hid (draw_step2 g2 HP.out (show z - (z) = 0 by omega) (show l[k].qty - (z) = l[k].qty - z by omega))
            have hl1 := addQ_len l[k] (z)
            have hl2 := addQ_len l[k] (l[k].qty - z)
            clear g1 g2
            go_wp2_with fail
            go_region_held3 (fun w' => w'.cell? ⟨b, o + k * 3, none⟩ = some (.int .i64 l[k].asset) ∧ w'.cell? ⟨b, o + k * 3 + 1, none⟩ = some (.int .i64 l[k].tag) ∧ w'.cell? ⟨b, o + k * 3 + 2, none⟩ = some (.int .i64 l[k].qty)) (first | (simp [go_sem]; done) | (repeat' (first | (with_reducible assumption) | (with_reducible refine And.intro ?_ ?_) | (with_reducible refine cell_drew ?_) | (with_reducible refine cell_via (by with_reducible assumption) ?_ ?_) | (simp [*]; done) | (simp [go_sem]; done) | (with_reducible refine cell_alloc ?_ ?_) | (with_reducible refine cell_set_far ?_ ?_) | omega | (simp; omega)))) (fail)
            all_goals
              go_wp2_with (first | (at_builtin; refine wpList_appAt rfl _ _ _ rfl elLot w4.heap.size u9 (T.map encLot) rfl ?_ ⟨_, 0, none⟩ 1 1 rfl [encLot (withQ l[k] (z))] rfl (rd_oneN (by simp)) (rowsLot [withQ l[k] (z)]) (by unfold maxLen; first | (simp; done) | omega | (simp; omega)) (by first | (simp; done) | omega | (simp; omega)) (by first | omega | (simp; done) | (simp; omega)) ?_; (focus (repeat' (first | (with_reducible exact HoT.out) | (with_reducible refine Own.alloc ?_ _) | (with_reducible refine Own.far ?_ ?_ _) | (with_reducible refine Own.drew ?_) | (intro h; have := (HoT.out.block _ h).2; (first | omega | (simp at this; done) | (simp at this; omega)))))); intro v5 w5 hown5 hb5 hg5 ha5; have HoT5 := Lib.hid hown5; have HoR5 := Lib.hid (Own.grown (v := u10) (rows := R.map encLot) (base := w4.heap.size) (E := 58) (k := 3) (by (repeat' (first | (with_reducible exact HoR.out) | (with_reducible refine Own.alloc ?_ _) | (with_reducible refine Own.far ?_ ?_ _) | (with_reducible refine Own.drew ?_) | (intro h; have := (HoR.out.block _ h).2; (first | omega | (simp at this; done) | (simp at this; omega)))))) hg5 (fun g h1 h2 => Hap.out g h2 h1)); have Hap5 := Lib.hid (apart_next (n := wr.heap.size) Hap.out HoR.out (Nat.le_refl _) (at_own ha5 (by first | omega | (simp; done) | (simp; omega)))); have hc5 := fun o' => grown_cell hg5 (p := ⟨wr.heap.size, o', none⟩) (by first | omega | (simp; done) | (simp; omega)) (own_ne' HoT.out (Nat.le_refl _)); have hd5 := fun o' => grown_cell hg5 (p := ⟨wr.heap.size + 1, o', none⟩) (by first | omega | (simp; done) | (simp; omega)) (own_ne' HoT.out (Nat.le_succ _)); have hz5 := hb5.size; (try simp at hz5); have hs5 := hg5.size; (try simp at hs5); have Hb5 := Lib.hid hb5; clear hown5 hb5 hg5 ha5) | (at_builtin; refine wpList_appAt rfl _ _ _ rfl elLot w4.heap.size u10 (R.map encLot) rfl ?_ ⟨_, 0, none⟩ 1 1 rfl [encLot (withQ l[k] (l[k].qty - z))] rfl (rd_oneN (by simp)) (rowsLot [withQ l[k] (l[k].qty - z)]) (by unfold maxLen; first | (simp; done) | omega | (simp; omega)) (by first | (simp; done) | omega | (simp; omega)) (by first | omega | (simp; done) | (simp; omega)) ?_; (focus (repeat' (first | (with_reducible exact HoR5.out) | (with_reducible refine Own.alloc ?_ _) | (with_reducible refine Own.far ?_ ?_ _) | (with_reducible refine Own.drew ?_) | (intro h; have := (HoR5.out.block _ h).2; (first | omega | (simp at this; done) | (simp at this; omega)))))); intro v6 w6 hown6 hb6 hg6 ha6; have HoR6 := Lib.hid hown6; have HoT6 := Lib.hid (Own.grown (v := v5) (rows := T.map encLot ++ [encLot (withQ l[k] z)]) (base := w4.heap.size) (E := 58) (k := 3) (by (repeat' (first | (with_reducible exact HoT5.out) | (with_reducible refine Own.alloc ?_ _) | (with_reducible refine Own.far ?_ ?_ _) | (with_reducible refine Own.drew ?_) | (intro h; have := (HoT5.out.block _ h).2; (first | omega | (simp at this; done) | (simp at this; omega)))))) hg6 (fun g h1 h2 => Hap5.out g h1 h2)); have Hap6 := Lib.hid (apart_next2 (w := w5) Hap5.out HoT5.out (at_own ha6 (by first | omega | (simp; done) | (simp; omega)))); have Hb6 := Lib.hid hb6; clear hown6 hb6 hg6 ha6) | fail)
              go_roundw
              case rel => exact ⟨k + 1, 0, T ++ addQ l[k] (z), R ++ addQ l[k] (l[k].qty - z), by omega, by go_num, by go_num, by omega, by unfold In64; omega, (by rw [addQ_map]; (first | (rw [if_neg (by omega)]; exact HoT6.out) | (rw [if_pos (by omega), List.append_nil]; exact HoT6.out))), (by rw [addQ_map]; (first | (rw [if_neg (by omega)]; exact HoR6.out) | (rw [if_pos (by omega), List.append_nil]; exact HoR6.out))), Hap6.out, G1.out, G2.out, by rw [List.length_append]; omega, by rw [List.length_append]; omega, (by have h1 := Hbl.out; have h2 := Hb5.out; have h3 := Hb6.out; (repeat' (first | (with_reducible exact Below.refl _ _) | (with_reducible assumption) | (with_reducible refine Below.alloc ?_ ?_ _) | (with_reducible refine Below.setCell ?_ ?_ _) | (with_reducible refine Below.drew ?_) | (with_reducible refine below_drewN ?_ _) | (with_reducible refine below_via ?_ (by with_reducible assumption) ?_) | omega | (simp; done) | (simp; omega))))⟩
              case measure => simp [intOf]; omega
        · have HP := Lib.hid (show partQ a z l[k] = l[k].qty from by unfold partQ; rw [h1, if_pos rfl]; omega)
          have G1 := Lib.hid (draw_step1 g1 HP.out (show z - (l[k].qty) = z - l[k].qty by omega))
          have G2 := Lib.hid (draw_step2 g2 HP.out (show z - (l[k].qty) = z - l[k].qty by omega) (show l[k].qty - (l[k].qty) = 0 by omega))
          have hl1 := addQ_len l[k] (l[k].qty)
          have hl2 := addQ_len l[k] (0)
          clear g1 g2
          go_wp2_with fail
          go_region_held3 (fun w' => w'.cell? ⟨b, o + k * 3, none⟩ = some (.int .i64 l[k].asset) ∧ w'.cell? ⟨b, o + k * 3 + 1, none⟩ = some (.int .i64 l[k].tag) ∧ w'.cell? ⟨b, o + k * 3 + 2, none⟩ = some (.int .i64 l[k].qty)) (first | (simp [go_sem]; done) | (repeat' (first | (with_reducible assumption) | (with_reducible refine And.intro ?_ ?_) | (with_reducible refine cell_drew ?_) | (with_reducible refine cell_via (by with_reducible assumption) ?_ ?_) | (simp [*]; done) | (simp [go_sem]; done) | (with_reducible refine cell_alloc ?_ ?_) | (with_reducible refine cell_set_far ?_ ?_) | omega | (simp; omega)))) (fail)
          all_goals
            go_wp2_with (first | (at_builtin; refine wpList_appAt rfl _ _ _ rfl elLot w4.heap.size u9 (T.map encLot) rfl ?_ ⟨_, 0, none⟩ 1 1 rfl [encLot (withQ l[k] (l[k].qty))] rfl (rd_oneN (by simp)) (rowsLot [withQ l[k] (l[k].qty)]) (by unfold maxLen; first | (simp; done) | omega | (simp; omega)) (by first | (simp; done) | omega | (simp; omega)) (by first | omega | (simp; done) | (simp; omega)) ?_; (focus (repeat' (first | (with_reducible exact HoT.out) | (with_reducible refine Own.alloc ?_ _) | (with_reducible refine Own.far ?_ ?_ _) | (with_reducible refine Own.drew ?_) | (intro h; have := (HoT.out.block _ h).2; (first | omega | (simp at this; done) | (simp at this; omega)))))); intro v5 w5 hown5 hb5 hg5 ha5; have HoT5 := Lib.hid hown5; have HoR5 := Lib.hid (Own.grown (v := u10) (rows := R.map encLot) (base := w4.heap.size) (E := 58) (k := 3) (by (repeat' (first | (with_reducible exact HoR.out) | (with_reducible refine Own.alloc ?_ _) | (with_reducible refine Own.far ?_ ?_ _) | (with_reducible refine Own.drew ?_) | (intro h; have := (HoR.out.block _ h).2; (first | omega | (simp at this; done) | (simp at this; omega)))))) hg5 (fun g h1 h2 => Hap.out g h2 h1)); have Hap5 := Lib.hid (apart_next (n := wr.heap.size) Hap.out HoR.out (Nat.le_refl _) (at_own ha5 (by first | omega | (simp; done) | (simp; omega)))); have hc5 := fun o' => grown_cell hg5 (p := ⟨wr.heap.size, o', none⟩) (by first | omega | (simp; done) | (simp; omega)) (own_ne' HoT.out (Nat.le_refl _)); have hd5 := fun o' => grown_cell hg5 (p := ⟨wr.heap.size + 1, o', none⟩) (by first | omega | (simp; done) | (simp; omega)) (own_ne' HoT.out (Nat.le_succ _)); have hz5 := hb5.size; (try simp at hz5); have hs5 := hg5.size; (try simp at hs5); have Hb5 := Lib.hid hb5; clear hown5 hb5 hg5 ha5) | fail)
            go_roundw
            case rel => exact ⟨k + 1, z - l[k].qty, T ++ addQ l[k] (l[k].qty), R ++ addQ l[k] (0), by omega, by go_num, by go_num, by omega, by unfold In64; omega, (by rw [addQ_map]; (first | (rw [if_neg (by omega)]; exact HoT5.out) | (rw [if_pos (by omega), List.append_nil]; exact HoT5.out))), (by rw [addQ_map]; (first | (rw [if_neg (by omega)]; exact HoR5.out) | (rw [if_pos (by omega), List.append_nil]; exact HoR5.out))), Hap5.out, G1.out, G2.out, by rw [List.length_append]; omega, by rw [List.length_append]; omega, (by have h1 := Hbl.out; have h2 := Hb5.out; (repeat' (first | (with_reducible exact Below.refl _ _) | (with_reducible assumption) | (with_reducible refine Below.alloc ?_ ?_ _) | (with_reducible refine Below.setCell ?_ ?_ _) | (with_reducible refine Below.drew ?_) | (with_reducible refine below_drewN ?_ _) | (with_reducible refine below_via ?_ (by with_reducible assumption) ?_) | omega | (simp; done) | (simp; omega))))⟩
            case measure => simp [intOf]; omega
    · have dl : decide ((k : Int) < (l.length : Int)) = false := by simpa using hlt
      rw [List.drop_eq_nil_of_le (by omega)] at g1 g2
      have G1 := Lib.hid (show (drawG a q l).1 = T from by rw [g1]; simp [drawG])
      have G2 := Lib.hid (show (drawG a q l).2 = R from by rw [g2]; simp [drawG])
      clear g1 g2
      go_wp2_with fail
      refine bodyPost_ret (v := .tuple #[u9, u10, .int .i64 (drawC l a q)]) (by rw [HQ.out]; simp [results, Try.results53, go_sem]; try rfl) rfl ⟨_, _, rfl, by rw [HT.out, G1.out]; exact HoT.out.mono Hb0.out.size, by rw [HV.out, G2.out]; exact HoR.out.mono Hb0.out.size, ?_⟩
      exact Hb0.out.trans (Hbl.out.mono Hb0.out.size)
end Go.Proofs.Ytemhhojenocddaa
