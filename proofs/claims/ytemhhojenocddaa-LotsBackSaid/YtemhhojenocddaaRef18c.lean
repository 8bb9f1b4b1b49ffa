/- Lots: contract of the reference's Sum. -/
import Derived.Test.YtemhhojenocddaaRef18a
namespace Go.Proofs.Ytemhhojenocddaa
open Go.RowKit
theorem isBig_nil2 {w : World} : IsBig w 0 false none [] 0 := ⟨fun i r hr => by simp at hr, bit_nil, top_nil, rfl, by simp, by simp, rfl⟩
set_option maxRecDepth 100000 in
set_option maxHeartbeats 16000000 in
theorem ref18Sum (l : List Lot) (a : Int) (A : Option Addr) (c : Nat) (w : World) (h40 : l.length ≤ 40) (hin : ∀ y ∈ l, In64 y.qty) (hr : Rd w A 3 (l.map encLot)) :
    Calls Try.prog 45 #[.slice A l.length c, .int .i64 a] w (BigPost w (sumL l a) 200) := by
  have HR := Lib.hid hr
  have HIN := Lib.hid hin
  clear hr hin
  go_enter Try.func45, Try.ntmps45
  go_wp2_with fail
  go_loopw [6] (fun i wr => ∃ (k : Nat) (s2 : Bool) (A2 : Option Addr) (l2 : List Int) (c2 : Nat), k ≤ l.length ∧ i = .int .i64 k ∧ IsBig wr (sumL (l.take k) a) s2 A2 l2 c2 ∧ l2.length ≤ 65 + k ∧ Blk wr (w.heap.size + 1) 69 #[.bool s2, .slice A2 l2.length c2] ∧ Below (w.heap.size + 1) (w.alloc (.cells #[.bool false, .slice none 0 0] 69)) wr) (fun i _ => l.length - (intOf i).toNat)
  case atStart => exact ⟨0, false, none, [], 0, Nat.zero_le _, rfl, isBig_nil2, by simp, Blk.here (by simp), by (repeat' (first | (with_reducible exact Below.refl _ _) | (with_reducible assumption) | (with_reducible refine Below.alloc ?_ ?_ _) | (with_reducible refine Below.setCell ?_ ?_ _) | (with_reducible refine Below.drew ?_) | (with_reducible refine below_drewN ?_ _) | (with_reducible refine below_via ?_ (by with_reducible assumption) ?_) | omega | (simp; done) | (simp; omega)))⟩
  case round =>
    obtain ⟨k, s2, A2, l2, c2, hk, rfl, hB2, hl2, hbk, hbl⟩ := hrel
    have hz := hbl.size
    simp at hz
    have b0 := hbk.cell 0
    have b1 := hbk.cell 1
    have z0 := hbk.frozen 0
    have z1 := hbk.frozen 1
    have ug := hbk.lt
    have r0 := (hbl.cell (p := ⟨w.heap.size, 0, none⟩) (by simp))
    have r1 := (hbl.cell (p := ⟨w.heap.size, 1, none⟩) (by simp))
    have f0 := (hbl.frozen (p := ⟨w.heap.size, 0, none⟩) (by simp))
    have f1 := (hbl.frozen (p := ⟨w.heap.size, 1, none⟩) (by simp))
    simp [go_sem] at b0 b1 r0 r1 f0 f1
    have HB2 := Lib.hid hB2
    have Hbk := Lib.hid hbk
    have Hbl := Lib.hid hbl
    clear hB2 hbk hbl
    by_cases hlt : k < l.length
    · have d2 : decide ((k : Int) < (l.length : Int)) = true := by simpa using hlt
      have kl : (k : Int) < (l.length : Int) := by omega
      obtain ⟨b, o, rfl, hb, hc⟩ := HR.out k (encLot l[k]) (by simp [hlt])
      have hbw : b < wr.heap.size := by omega
      have e0 := (Hbl.out.cell (p := ⟨b, o + k * 3 + 0, none⟩) (by simp; omega)).trans ((World.cell?_alloc_lt w _ ⟨b, o + k * 3 + 0, none⟩ hb).trans (hc 0 _ rfl))
      have e1 := (Hbl.out.cell (p := ⟨b, o + k * 3 + 1, none⟩) (by simp; omega)).trans ((World.cell?_alloc_lt w _ ⟨b, o + k * 3 + 1, none⟩ hb).trans (hc 1 _ rfl))
      have e2 := (Hbl.out.cell (p := ⟨b, o + k * 3 + 2, none⟩) (by simp; omega)).trans ((World.cell?_alloc_lt w _ ⟨b, o + k * 3 + 2, none⟩ hb).trans (hc 2 _ rfl))
      simp only [Nat.add_zero] at e0
      clear hc
      have hq := qtyL_snoc hlt a
      have hx := HIN.out l[k] (List.getElem_mem hlt)
      cases h1 : (l[k].asset == a)
      · have HS := Lib.hid (show sumL (l.take (k + 1)) a = sumL (l.take k) a from by unfold sumL; rw [hq, h1]; simp)
        clear hq
        generalize sumL (l.take k) a = sm at *
        go_wp2_with fail
        go_roundw
        case rel => exact ⟨k + 1, s2, A2, l2, c2, by omega, by go_num, by rw [HS.out]; exact HB2.out, by omega, Hbk.out, Hbl.out⟩
        case measure => simp [intOf]; omega
      · have HS := Lib.hid (show sumL (l.take (k + 1)) a = sumL (l.take k) a + l[k].qty from by unfold sumL; rw [hq, h1, List.sum_append]; simp)
        clear hq
        generalize sumL (l.take k) a = sm at *
        go_wp2_with fail
        go_region_with (first | (go_at_call 57; (with_reducible refine (bigOf l[k].qty _ hx).mono ?_); rintro e w3 ⟨s3, A3, l3, c3, rfl, hB3, hl3, hb3⟩; have HB3 := Lib.hid hB3; clear hB3; obtain ⟨fc3, fg3, hc3, hf3, hz3⟩ := bget hb3; (try simp at hz3)) | (go_at_call 56; (with_reducible refine (bigAdd sm l[k].qty s2 s3 l2 l3 A2 A3 c2 c3 (65 + k) _ (by omega) (by omega) (by omega) (HB2.out.keep (by (repeat' (first | (with_reducible exact Below.refl _ _) | (with_reducible assumption) | (with_reducible refine Below.alloc ?_ ?_ _) | (with_reducible refine Below.setCell ?_ ?_ _) | (with_reducible refine Below.drew ?_) | (with_reducible refine below_drewN ?_ _) | (with_reducible refine below_via ?_ (by with_reducible assumption) ?_) | omega | (simp; done) | (simp; omega))))) (HB3.out.keep (by (repeat' (first | (with_reducible exact Below.refl _ _) | (with_reducible assumption) | (with_reducible refine Below.alloc ?_ ?_ _) | (with_reducible refine Below.setCell ?_ ?_ _) | (with_reducible refine Below.drew ?_) | (with_reducible refine below_drewN ?_ _) | (with_reducible refine below_via ?_ (by with_reducible assumption) ?_) | omega | (simp; done) | (simp; omega)))))).mono ?_); rintro e w4 ⟨s4, A4, l4, c4, rfl, hB4, hl4, hb4⟩; have HB4 := Lib.hid hB4; clear hB4; obtain ⟨fc4, fg4, hc4, hf4, hz4⟩ := bget hb4; (try simp at hz4)) | fail)
        all_goals
          go_wp2_with fail
          go_roundw
          case rel =>
            have h4 : Below wr.heap.size wr w4 := by (repeat' (first | (with_reducible exact Below.refl _ _) | (with_reducible assumption) | (with_reducible refine Below.alloc ?_ ?_ _) | (with_reducible refine Below.setCell ?_ ?_ _) | (with_reducible refine Below.drew ?_) | (with_reducible refine below_drewN ?_ _) | (with_reducible refine below_via ?_ (by with_reducible assumption) ?_) | omega | (simp; done) | (simp; omega)))
            have t0 : w4.cell? ⟨w.heap.size + 1, 0, none⟩ = some (.bool s2) := (h4.cell (p := ⟨w.heap.size + 1, 0, none⟩) ug).trans b0
            have t1 : w4.cell? ⟨w.heap.size + 1, 1, none⟩ = some (.slice A2 l2.length c2) := (h4.cell (p := ⟨w.heap.size + 1, 1, none⟩) ug).trans b1
            refine ⟨k + 1, s4, A4, l4, c4, by omega, by go_num, ?_, by omega, ?_, ?_⟩
            · rw [HS.out]
              exact (HB4.out.far t0 (by simp) _).far ((World.cell?_setCell_other _ _ _ _ (by simp)).trans t1) (by simp) _
            · have h5 := ((Hbk.out.below h4 ug).set 0 (.bool s4)).set 1 (.slice A4 l4.length c4)
              simpa using h5
            · have hbl := Hbl.out
              (repeat' (first | (with_reducible exact Below.refl _ _) | (with_reducible assumption) | (with_reducible refine Below.alloc ?_ ?_ _) | (with_reducible refine Below.setCell ?_ ?_ _) | (with_reducible refine Below.drew ?_) | (with_reducible refine below_drewN ?_ _) | (with_reducible refine below_via ?_ (by with_reducible assumption) ?_) | omega | (simp; done) | (simp; omega)))
          case measure => (simp [intOf]; omega)
    · have d2 : decide ((k : Int) < (l.length : Int)) = false := by simpa using hlt
      have hke : k = l.length := by omega
      have HSUM := Lib.hid (show IsBig wr (sumL l a) s2 A2 l2 c2 from by have h := HB2.out; rw [hke, List.take_length] at h; exact h)
      clear hke
      go_wp2_with fail
      refine bodyPost_ret (v := .agg #[.bool s2, .slice A2 l2.length c2]) (by simp [results, Try.results45, go_sem, r0, r1]; try rfl) rfl ⟨_, A2, l2, c2, rfl, (HSUM.out.far r0 (by simp) _).far ((World.cell?_setCell_other _ _ _ _ (by simp)).trans r1) (by simp) _, by omega, ?_⟩
      have hbl := Hbl.out.mono (show w.heap.size ≤ w.heap.size + 1 by omega)
      (repeat' (first | (with_reducible exact Below.refl _ _) | (with_reducible assumption) | (with_reducible refine Below.alloc ?_ ?_ _) | (with_reducible refine Below.setCell ?_ ?_ _) | (with_reducible refine Below.drew ?_) | (with_reducible refine below_drewN ?_ _) | (with_reducible refine below_via ?_ (by with_reducible assumption) ?_) | omega | (simp; done) | (simp; omega)))
end Go.Proofs.Ytemhhojenocddaa
