/- The law WideAdds: its walk. -/
import Derived.Test.YtjolddbfkcbnpaaLawW1
import Derived.Test.YtjolddbfkcbnpaaWide6
namespace Go.Proofs.Ytjolddbfkcbnpaa
open Go.RowKit
theorem take40 {w : World} {A : Option Addr} {l : List Int} (h : Rd w A 2 (l.map encW)) (k : Nat) : Rd w A 2 ((l.take k).map encW) := by
  intro i r hr
  rw [List.map_take, List.getElem?_take] at hr
  split at hr
  · exact h i r hr
  · cases hr
theorem isBig_nil0 {w : World} : IsBig w 0 false none [] 0 := ⟨fun i r hr => by simp at hr, bit_nil, top_nil, rfl, by simp, by simp, rfl⟩
set_option maxRecDepth 100000 in
set_option maxHeartbeats 8000000 in
theorem wideAddsAt (l0 l : List Int) (A : Option Addr) (c : Nat) (w : World) (hl0 : l0.length ≤ c) (hc0 : c ≤ maxLen) (hcut : (l0.length ≤ 40 ∧ l = l0) ∨ (40 < l0.length ∧ l = l0.take 40)) (hin : ∀ n ∈ l, In128 n) (hr : Rd w A 2 (l.map encW)) (hnil : 40 < l0.length → ∃ b o, A = some ⟨b, o, none⟩) :
    Calls Try.prog 8 #[.slice A l0.length c] w fun e w' => e = .returned (.bool true) ∧ Below w.heap.size w w' := by
  have h40 : l.length ≤ 40 := by
    rcases hcut with ⟨h, rfl⟩ | ⟨_, rfl⟩
    · exact h
    · rw [List.length_take]; omega
  have HR := Lib.hid hr
  have HIN := Lib.hid hin
  clear hr hin
  unfold maxLen at hc0
  go_enter Try.func8, Try.ntmps8
  rcases hcut with ⟨h, rfl⟩ | ⟨h, hl⟩
  · have d1 : decide ((40 : Int) < (l.length : Int)) = false := by simp; omega
    go_wp2_with fail
    go_loopw [4] (fun i wr => ∃ (k : Nat) (s2 : Bool) (A2 : Option Addr) (l2 : List Int) (c2 : Nat), k ≤ l.length ∧ i = .int .i64 k ∧ IsBig wr (l.take k).sum s2 A2 l2 c2 ∧ l2.length ≤ 194 + k ∧ Blk wr w.heap.size 29 #[.bool s2, .slice A2 l2.length c2] ∧ Below w.heap.size w wr) (fun i _ => l.length - (intOf i).toNat)
    case atStart => exact ⟨0, false, none, [], 0, Nat.zero_le _, rfl, isBig_nil0, by simp, Blk.new _ _ _, by (repeat' (first | (with_reducible exact Below.refl _ _) | (with_reducible assumption) | (with_reducible refine Below.alloc ?_ ?_ _) | (with_reducible refine Below.setCell ?_ ?_ _) | (with_reducible refine Below.drew ?_) | (with_reducible refine below_drewN ?_ _) | (with_reducible refine below_via ?_ (by with_reducible assumption) ?_) | omega | (simp; done) | (simp; omega)))⟩
    case round =>
      obtain ⟨k, s2, A2, l2, c2, hk, rfl, hB2, hl2, hbk, hbl⟩ := hrel
      have hz := hbl.size
      have b0 := hbk.cell 0
      have b1 := hbk.cell 1
      have z0 := hbk.frozen 0
      have z1 := hbk.frozen 1
      have ug := hbk.lt
      simp at b0 b1
      have HB2 := Lib.hid hB2
      have Hbk := Lib.hid hbk
      have Hbl := Lib.hid hbl
      clear hB2 hbk hbl
      by_cases hlt : k < l.length
      · obtain ⟨b, o, hA, hb, q⟩ := HR.out k (encW l[k]) (by simp [hlt])
        have q0 := (Hbl.out.cell (p := ⟨b, o + k * 2 + 0, none⟩) hb).trans (q 0 _ rfl)
        have q1 := (Hbl.out.cell (p := ⟨b, o + k * 2 + 1, none⟩) hb).trans (q 1 _ rfl)
        have hx := HIN.out l[k] (List.getElem_mem hlt)
        have HS := Lib.hid (sum_take_succ l k hlt)
        obtain ⟨x, hxe⟩ : ∃ x, x = l[k] := ⟨_, rfl⟩
        rw [← hxe] at q0 q1 hx HS
        have d2 : decide ((k : Int) < (l.length : Int)) = true := (by simpa using hlt)
        have hbw : b < wr.heap.size := (by omega)
        simp at q0
        clear hxe q
        cases hA
        go_wp2_with fail
        go_region_with (first | (go_at_call 15; (with_reducible refine (law01big x _ hx).mono ?_); rintro e w3 ⟨s3, A3, l3, c3, rfl, hB3, hl3, hb3⟩; have HB3 := Lib.hid hB3; clear hB3; obtain ⟨fc3, fg3, hc3, hf3, hz3⟩ := bget hb3; (try simp at hz3)) | (go_at_call 31; (with_reducible refine (bigAdd (l.take k).sum x s2 s3 l2 l3 A2 A3 c2 c3 (194 + k) _ (by omega) (by omega) (by omega) (HB2.out.keep (by (repeat' (first | (with_reducible exact Below.refl _ _) | (with_reducible assumption) | (with_reducible refine Below.alloc ?_ ?_ _) | (with_reducible refine Below.setCell ?_ ?_ _) | (with_reducible refine Below.drew ?_) | (with_reducible refine below_drewN ?_ _) | (with_reducible refine below_via ?_ (by with_reducible assumption) ?_) | omega | (simp; done) | (simp; omega))))) (HB3.out.keep (by (repeat' (first | (with_reducible exact Below.refl _ _) | (with_reducible assumption) | (with_reducible refine Below.alloc ?_ ?_ _) | (with_reducible refine Below.setCell ?_ ?_ _) | (with_reducible refine Below.drew ?_) | (with_reducible refine below_drewN ?_ _) | (with_reducible refine below_via ?_ (by with_reducible assumption) ?_) | omega | (simp; done) | (simp; omega)))))).mono ?_); rintro e w4 ⟨s4, A4, l4, c4, rfl, hB4, hl4, hb4⟩; have HB4 := Lib.hid hB4; clear hB4; obtain ⟨fc4, fg4, hc4, hf4, hz4⟩ := bget hb4; (try simp at hz4)) | fail)
        all_goals
          go_wp2_with fail
          go_roundw
          case rel =>
            have h4 : Below wr.heap.size wr w4 := (by (repeat' (first | (with_reducible exact Below.refl _ _) | (with_reducible assumption) | (with_reducible refine Below.alloc ?_ ?_ _) | (with_reducible refine Below.setCell ?_ ?_ _) | (with_reducible refine Below.drew ?_) | (with_reducible refine below_drewN ?_ _) | (with_reducible refine below_via ?_ (by with_reducible assumption) ?_) | omega | (simp; done) | (simp; omega))))
            have t0 : w4.cell? ⟨w.heap.size, 0, none⟩ = some (.bool s2) := (h4.cell (p := ⟨w.heap.size, 0, none⟩) ug).trans b0
            have t1 : w4.cell? ⟨w.heap.size, 1, none⟩ = some (.slice A2 l2.length c2) := (h4.cell (p := ⟨w.heap.size, 1, none⟩) ug).trans b1
            refine ⟨k + 1, s4, A4, l4, c4, by omega, by go_num, ?_, by omega, ?_, ?_⟩
            · rw [HS.out]
              exact (HB4.out.far t0 (by simp) _).far ((World.cell?_setCell_other _ _ _ _ (by simp)).trans t1) (by simp) _
            · have h5 := ((Hbk.out.below h4 ug).set 0 (.bool s4)).set 1 (.slice A4 l4.length c4)
              simpa using h5
            · have hbl := Hbl.out
              (repeat' (first | (with_reducible exact Below.refl _ _) | (with_reducible assumption) | (with_reducible refine Below.alloc ?_ ?_ _) | (with_reducible refine Below.setCell ?_ ?_ _) | (with_reducible refine Below.drew ?_) | (with_reducible refine below_drewN ?_ _) | (with_reducible refine below_via ?_ (by with_reducible assumption) ?_) | omega | (simp; done) | (simp; omega)))
          case measure => (simp [intOf]; omega)
      · have d2 : decide ((k : Int) < (l.length : Int)) = false := (by simpa using hlt)
        have hke : k = l.length := (by omega)
        have HSUM := Lib.hid (show IsBig wr l.sum s2 A2 l2 c2 from by have h := HB2.out; rw [hke, List.take_length] at h; exact h)
        clear hke
        by_cases hs : In128 l.sum
        · go_wp2_with (first | (go_at_call 36; (with_reducible refine (wideAddYes l _ _ _ (by omega) HIN.out (HR.out.keep (by have hbl := Hbl.out; (repeat' (first | (with_reducible exact Below.refl _ _) | (with_reducible assumption) | (with_reducible refine Below.alloc ?_ ?_ _) | (with_reducible refine Below.setCell ?_ ?_ _) | (with_reducible refine Below.drew ?_) | (with_reducible refine below_drewN ?_ _) | (with_reducible refine below_via ?_ (by with_reducible assumption) ?_) | omega | (simp; done) | (simp; omega))))) hs).mono ?_); rintro e w5 ⟨rfl, hb5⟩; obtain ⟨fc5, fg5, hc5, hf5, hz5⟩ := bget hb5; (try simp at hz5)) | (go_at_call 37; (with_reducible refine (law01isYes l.sum s2 l2 A2 c2 400 _ (by omega) (by omega) (HSUM.out.keep (by (repeat' (first | (with_reducible exact Below.refl _ _) | (with_reducible assumption) | (with_reducible refine Below.alloc ?_ ?_ _) | (with_reducible refine Below.setCell ?_ ?_ _) | (with_reducible refine Below.drew ?_) | (with_reducible refine below_drewN ?_ _) | (with_reducible refine below_via ?_ (by with_reducible assumption) ?_) | omega | (simp; done) | (simp; omega))))) hs).mono ?_); rintro e w6 ⟨rfl, hb6⟩; obtain ⟨fc6, fg6, hc6, hf6, hz6⟩ := bget hb6; (try simp at hz6)) | (go_at_call 19; (with_reducible refine (law01lives _).mono ?_); rintro e w7 ⟨rfl, hb7⟩; obtain ⟨fc7, fg7, hc7, hf7, hz7⟩ := bget hb7; (try simp at hz7)) | fail)
          go_ret
          exact ⟨rfl, by (have hbl := Hbl.out; (repeat' (first | (with_reducible exact Below.refl _ _) | (with_reducible assumption) | (with_reducible refine Below.alloc ?_ ?_ _) | (with_reducible refine Below.setCell ?_ ?_ _) | (with_reducible refine Below.drew ?_) | (with_reducible refine below_drewN ?_ _) | (with_reducible refine below_via ?_ (by with_reducible assumption) ?_) | omega | (simp; done) | (simp; omega))))⟩
        · go_wp2_with (first | (go_at_call 36; (with_reducible refine (wideAddNo l _ _ _ (by omega) HIN.out (HR.out.keep (by have hbl := Hbl.out; (repeat' (first | (with_reducible exact Below.refl _ _) | (with_reducible assumption) | (with_reducible refine Below.alloc ?_ ?_ _) | (with_reducible refine Below.setCell ?_ ?_ _) | (with_reducible refine Below.drew ?_) | (with_reducible refine below_drewN ?_ _) | (with_reducible refine below_via ?_ (by with_reducible assumption) ?_) | omega | (simp; done) | (simp; omega))))) hs).mono ?_); rintro e w5 ⟨rfl, hb5⟩; obtain ⟨fc5, fg5, hc5, hf5, hz5⟩ := bget hb5; (try simp at hz5)) | (go_at_call 37; (with_reducible refine (law01isNo l.sum s2 l2 A2 c2 400 _ (by omega) (by omega) (HSUM.out.keep (by (repeat' (first | (with_reducible exact Below.refl _ _) | (with_reducible assumption) | (with_reducible refine Below.alloc ?_ ?_ _) | (with_reducible refine Below.setCell ?_ ?_ _) | (with_reducible refine Below.drew ?_) | (with_reducible refine below_drewN ?_ _) | (with_reducible refine below_via ?_ (by with_reducible assumption) ?_) | omega | (simp; done) | (simp; omega))))) hs).mono ?_); rintro e w6 ⟨rfl, hb6⟩; obtain ⟨fc6, fg6, hc6, hf6, hz6⟩ := bget hb6; (try simp at hz6)) | (go_at_call 19; (with_reducible refine (law01lives _).mono ?_); rintro e w7 ⟨rfl, hb7⟩; obtain ⟨fc7, fg7, hc7, hf7, hz7⟩ := bget hb7; (try simp at hz7)) | fail)
          go_ret
          exact ⟨rfl, by (have hbl := Hbl.out; (repeat' (first | (with_reducible exact Below.refl _ _) | (with_reducible assumption) | (with_reducible refine Below.alloc ?_ ?_ _) | (with_reducible refine Below.setCell ?_ ?_ _) | (with_reducible refine Below.drew ?_) | (with_reducible refine below_drewN ?_ _) | (with_reducible refine below_via ?_ (by with_reducible assumption) ?_) | omega | (simp; done) | (simp; omega))))⟩
  · have d1 : decide ((40 : Int) < (l0.length : Int)) = true := by simp; omega
    obtain ⟨b0, o0, rfl⟩ := hnil h
    have hlen : l.length = 40 := by rw [hl, List.length_take]; omega
    clear hl
    go_wp2_with fail
    rw [← hlen]
    clear hlen d1
    go_loopw [4] (fun i wr => ∃ (k : Nat) (s2 : Bool) (A2 : Option Addr) (l2 : List Int) (c2 : Nat), k ≤ l.length ∧ i = .int .i64 k ∧ IsBig wr (l.take k).sum s2 A2 l2 c2 ∧ l2.length ≤ 194 + k ∧ Blk wr w.heap.size 29 #[.bool s2, .slice A2 l2.length c2] ∧ Below w.heap.size w wr) (fun i _ => l.length - (intOf i).toNat)
    case atStart => exact ⟨0, false, none, [], 0, Nat.zero_le _, rfl, isBig_nil0, by simp, Blk.new _ _ _, by (repeat' (first | (with_reducible exact Below.refl _ _) | (with_reducible assumption) | (with_reducible refine Below.alloc ?_ ?_ _) | (with_reducible refine Below.setCell ?_ ?_ _) | (with_reducible refine Below.drew ?_) | (with_reducible refine below_drewN ?_ _) | (with_reducible refine below_via ?_ (by with_reducible assumption) ?_) | omega | (simp; done) | (simp; omega)))⟩
    case round =>
      obtain ⟨k, s2, A2, l2, c2, hk, rfl, hB2, hl2, hbk, hbl⟩ := hrel
      have hz := hbl.size
      have b0 := hbk.cell 0
      have b1 := hbk.cell 1
      have z0 := hbk.frozen 0
      have z1 := hbk.frozen 1
      have ug := hbk.lt
      simp at b0 b1
      have HB2 := Lib.hid hB2
      have Hbk := Lib.hid hbk
      have Hbl := Lib.hid hbl
      clear hB2 hbk hbl
      by_cases hlt : k < l.length
      · obtain ⟨b, o, hA, hb, q⟩ := HR.out k (encW l[k]) (by simp [hlt])
        have q0 := (Hbl.out.cell (p := ⟨b, o + k * 2 + 0, none⟩) hb).trans (q 0 _ rfl)
        have q1 := (Hbl.out.cell (p := ⟨b, o + k * 2 + 1, none⟩) hb).trans (q 1 _ rfl)
        have hx := HIN.out l[k] (List.getElem_mem hlt)
        have HS := Lib.hid (sum_take_succ l k hlt)
        obtain ⟨x, hxe⟩ : ∃ x, x = l[k] := ⟨_, rfl⟩
        rw [← hxe] at q0 q1 hx HS
        have d2 : decide ((k : Int) < (l.length : Int)) = true := (by simpa using hlt)
        have hbw : b < wr.heap.size := (by omega)
        simp at q0
        clear hxe q
        cases hA
        go_wp2_with fail
        go_region_with (first | (go_at_call 15; (with_reducible refine (law01big x _ hx).mono ?_); rintro e w3 ⟨s3, A3, l3, c3, rfl, hB3, hl3, hb3⟩; have HB3 := Lib.hid hB3; clear hB3; obtain ⟨fc3, fg3, hc3, hf3, hz3⟩ := bget hb3; (try simp at hz3)) | (go_at_call 31; (with_reducible refine (bigAdd (l.take k).sum x s2 s3 l2 l3 A2 A3 c2 c3 (194 + k) _ (by omega) (by omega) (by omega) (HB2.out.keep (by (repeat' (first | (with_reducible exact Below.refl _ _) | (with_reducible assumption) | (with_reducible refine Below.alloc ?_ ?_ _) | (with_reducible refine Below.setCell ?_ ?_ _) | (with_reducible refine Below.drew ?_) | (with_reducible refine below_drewN ?_ _) | (with_reducible refine below_via ?_ (by with_reducible assumption) ?_) | omega | (simp; done) | (simp; omega))))) (HB3.out.keep (by (repeat' (first | (with_reducible exact Below.refl _ _) | (with_reducible assumption) | (with_reducible refine Below.alloc ?_ ?_ _) | (with_reducible refine Below.setCell ?_ ?_ _) | (with_reducible refine Below.drew ?_) | (with_reducible refine below_drewN ?_ _) | (with_reducible refine below_via ?_ (by with_reducible assumption) ?_) | omega | (simp; done) | (simp; omega)))))).mono ?_); rintro e w4 ⟨s4, A4, l4, c4, rfl, hB4, hl4, hb4⟩; have HB4 := Lib.hid hB4; clear hB4; obtain ⟨fc4, fg4, hc4, hf4, hz4⟩ := bget hb4; (try simp at hz4)) | fail)
        all_goals
          go_wp2_with fail
          go_roundw
          case rel =>
            have h4 : Below wr.heap.size wr w4 := (by (repeat' (first | (with_reducible exact Below.refl _ _) | (with_reducible assumption) | (with_reducible refine Below.alloc ?_ ?_ _) | (with_reducible refine Below.setCell ?_ ?_ _) | (with_reducible refine Below.drew ?_) | (with_reducible refine below_drewN ?_ _) | (with_reducible refine below_via ?_ (by with_reducible assumption) ?_) | omega | (simp; done) | (simp; omega))))
            have t0 : w4.cell? ⟨w.heap.size, 0, none⟩ = some (.bool s2) := (h4.cell (p := ⟨w.heap.size, 0, none⟩) ug).trans b0
            have t1 : w4.cell? ⟨w.heap.size, 1, none⟩ = some (.slice A2 l2.length c2) := (h4.cell (p := ⟨w.heap.size, 1, none⟩) ug).trans b1
            refine ⟨k + 1, s4, A4, l4, c4, by omega, by go_num, ?_, by omega, ?_, ?_⟩
            · rw [HS.out]
              exact (HB4.out.far t0 (by simp) _).far ((World.cell?_setCell_other _ _ _ _ (by simp)).trans t1) (by simp) _
            · have h5 := ((Hbk.out.below h4 ug).set 0 (.bool s4)).set 1 (.slice A4 l4.length c4)
              simpa using h5
            · have hbl := Hbl.out
              (repeat' (first | (with_reducible exact Below.refl _ _) | (with_reducible assumption) | (with_reducible refine Below.alloc ?_ ?_ _) | (with_reducible refine Below.setCell ?_ ?_ _) | (with_reducible refine Below.drew ?_) | (with_reducible refine below_drewN ?_ _) | (with_reducible refine below_via ?_ (by with_reducible assumption) ?_) | omega | (simp; done) | (simp; omega)))
          case measure => (simp [intOf]; omega)
      · have d2 : decide ((k : Int) < (l.length : Int)) = false := (by simpa using hlt)
        have hke : k = l.length := (by omega)
        have HSUM := Lib.hid (show IsBig wr l.sum s2 A2 l2 c2 from by have h := HB2.out; rw [hke, List.take_length] at h; exact h)
        clear hke
        by_cases hs : In128 l.sum
        · go_wp2_with (first | (go_at_call 36; (with_reducible refine (wideAddYes l _ _ _ (by omega) HIN.out (HR.out.keep (by have hbl := Hbl.out; (repeat' (first | (with_reducible exact Below.refl _ _) | (with_reducible assumption) | (with_reducible refine Below.alloc ?_ ?_ _) | (with_reducible refine Below.setCell ?_ ?_ _) | (with_reducible refine Below.drew ?_) | (with_reducible refine below_drewN ?_ _) | (with_reducible refine below_via ?_ (by with_reducible assumption) ?_) | omega | (simp; done) | (simp; omega))))) hs).mono ?_); rintro e w5 ⟨rfl, hb5⟩; obtain ⟨fc5, fg5, hc5, hf5, hz5⟩ := bget hb5; (try simp at hz5)) | (go_at_call 37; (with_reducible refine (law01isYes l.sum s2 l2 A2 c2 400 _ (by omega) (by omega) (HSUM.out.keep (by (repeat' (first | (with_reducible exact Below.refl _ _) | (with_reducible assumption) | (with_reducible refine Below.alloc ?_ ?_ _) | (with_reducible refine Below.setCell ?_ ?_ _) | (with_reducible refine Below.drew ?_) | (with_reducible refine below_drewN ?_ _) | (with_reducible refine below_via ?_ (by with_reducible assumption) ?_) | omega | (simp; done) | (simp; omega))))) hs).mono ?_); rintro e w6 ⟨rfl, hb6⟩; obtain ⟨fc6, fg6, hc6, hf6, hz6⟩ := bget hb6; (try simp at hz6)) | (go_at_call 19; (with_reducible refine (law01lives _).mono ?_); rintro e w7 ⟨rfl, hb7⟩; obtain ⟨fc7, fg7, hc7, hf7, hz7⟩ := bget hb7; (try simp at hz7)) | fail)
          go_ret
          exact ⟨rfl, by (have hbl := Hbl.out; (repeat' (first | (with_reducible exact Below.refl _ _) | (with_reducible assumption) | (with_reducible refine Below.alloc ?_ ?_ _) | (with_reducible refine Below.setCell ?_ ?_ _) | (with_reducible refine Below.drew ?_) | (with_reducible refine below_drewN ?_ _) | (with_reducible refine below_via ?_ (by with_reducible assumption) ?_) | omega | (simp; done) | (simp; omega))))⟩
        · go_wp2_with (first | (go_at_call 36; (with_reducible refine (wideAddNo l _ _ _ (by omega) HIN.out (HR.out.keep (by have hbl := Hbl.out; (repeat' (first | (with_reducible exact Below.refl _ _) | (with_reducible assumption) | (with_reducible refine Below.alloc ?_ ?_ _) | (with_reducible refine Below.setCell ?_ ?_ _) | (with_reducible refine Below.drew ?_) | (with_reducible refine below_drewN ?_ _) | (with_reducible refine below_via ?_ (by with_reducible assumption) ?_) | omega | (simp; done) | (simp; omega))))) hs).mono ?_); rintro e w5 ⟨rfl, hb5⟩; obtain ⟨fc5, fg5, hc5, hf5, hz5⟩ := bget hb5; (try simp at hz5)) | (go_at_call 37; (with_reducible refine (law01isNo l.sum s2 l2 A2 c2 400 _ (by omega) (by omega) (HSUM.out.keep (by (repeat' (first | (with_reducible exact Below.refl _ _) | (with_reducible assumption) | (with_reducible refine Below.alloc ?_ ?_ _) | (with_reducible refine Below.setCell ?_ ?_ _) | (with_reducible refine Below.drew ?_) | (with_reducible refine below_drewN ?_ _) | (with_reducible refine below_via ?_ (by with_reducible assumption) ?_) | omega | (simp; done) | (simp; omega))))) hs).mono ?_); rintro e w6 ⟨rfl, hb6⟩; obtain ⟨fc6, fg6, hc6, hf6, hz6⟩ := bget hb6; (try simp at hz6)) | (go_at_call 19; (with_reducible refine (law01lives _).mono ?_); rintro e w7 ⟨rfl, hb7⟩; obtain ⟨fc7, fg7, hc7, hf7, hz7⟩ := bget hb7; (try simp at hz7)) | fail)
          go_ret
          exact ⟨rfl, by (have hbl := Hbl.out; (repeat' (first | (with_reducible exact Below.refl _ _) | (with_reducible assumption) | (with_reducible refine Below.alloc ?_ ?_ _) | (with_reducible refine Below.setCell ?_ ?_ _) | (with_reducible refine Below.drew ?_) | (with_reducible refine below_drewN ?_ _) | (with_reducible refine below_via ?_ (by with_reducible assumption) ?_) | omega | (simp; done) | (simp; omega))))⟩
end Go.Proofs.Ytjolddbfkcbnpaa
