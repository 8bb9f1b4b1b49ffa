/- The contract of the reference's Wide. -/
import Derived.Test.YtemhhojenocddaaBig6
import Derived.Test.YtemhhojenocddaaBits1
namespace Go.Proofs.Ytemhhojenocddaa
open Go.RowKit
theorem encB_one (l : List Int) : ∀ r ∈ l.map encB, r.length = 1 ∧ ∀ u ∈ r, u.oneCell' = true := by
  intro r hr
  obtain ⟨m, _, rfl⟩ := List.mem_map.1 hr
  refine ⟨rfl, ?_⟩
  simp only [encB, List.mem_cons, List.not_mem_nil, or_false, forall_eq]
  rfl
theorem IsBig.up {w w' : World} {x : Int} {s : Bool} {A B : Option Addr} {l : List Int} {c d : Nat} (h : IsBig w x s A l c) (hne : l ≠ []) (hr : Rd w' B 1 ((0 :: l).map encB)) (hc : (0 :: l).length ≤ d) (hm : d ≤ maxLen) : IsBig w' (2 * x) s B (0 :: l) d := by
  refine ⟨hr, bit_cons h.bit (by omega) (by omega), top_cons h.top hne, ?_, hc, hm, ?_⟩
  · rw [val_cons, h.val]; unfold iabs; split <;> split <;> omega
  · rw [h.sgn, decide_eq_decide]; omega
theorem pw64 : pw 64 = 18446744073709551616 := by decide
set_option maxRecDepth 100000 in
set_option maxHeartbeats 4000000 in
theorem bigWideAt (H lo : Int) (w : World) (h64 : In64 H) (h0 : 0 ≤ lo) (h1 : lo ≤ 18446744073709551615) :
    Calls Try.prog 44 #[.int .i64 H, .int .u64 lo] w (BigPost w (H * 18446744073709551616 + lo) 194) := by
  go_enter Try.func44, Try.ntmps44
  go_wp2_with (go_at_call 57; (with_reducible refine (bigOf H _ h64).mono ?_); rintro e w1 ⟨s, A1, l1, c1, rfl, hB1, hl1, hb1⟩; have HB1 := Lib.hid hB1; have hz1 := hb1.size; simp at hz1; have Hb1 := Lib.hid hb1; clear hB1 hb1)
  have p0 : w1.cell? ⟨w.heap.size, 0, none⟩ = some (.bool false) := by obtain ⟨_, _, hc1, _, _⟩ := bget Hb1.out; simp [go_sem, hc1]
  have p1 : w1.cell? ⟨w.heap.size, 1, none⟩ = some (.slice none 0 0) := by obtain ⟨_, _, hc1, _, _⟩ := bget Hb1.out; simp [go_sem, hc1]
  have f0 : w1.frozen? ⟨w.heap.size, 0, none⟩ = false := by obtain ⟨_, _, _, hf1, _⟩ := bget Hb1.out; simp [go_sem, hf1]
  have f1 : w1.frozen? ⟨w.heap.size, 1, none⟩ = false := by obtain ⟨_, _, _, hf1, _⟩ := bget Hb1.out; simp [go_sem, hf1]
  go_loopw [6] (fun i wr => ∃ (k : Nat) (A : Option Addr) (l : List Int) (c : Nat), k ≤ 64 ∧ i = .int .i64 k ∧ IsBig wr (H * pw k) s A l c ∧ l.length ≤ 65 + k ∧ Blk wr w1.heap.size 69 #[.bool s, .slice A l.length c] ∧ Below w1.heap.size w1 wr) (fun i _ => 64 - (intOf i).toNat)
  case atStart => exact ⟨0, A1, l1, c1, by omega, rfl, by rw [pw_zero, Int.mul_one]; exact HB1.out.keep (by (repeat' (first | (with_reducible exact Below.refl _ _) | (with_reducible assumption) | (with_reducible refine Below.alloc ?_ ?_ _) | (with_reducible refine Below.setCell ?_ ?_ _) | (with_reducible refine Below.drew ?_) | (with_reducible refine below_drewN ?_ _) | (with_reducible refine below_via ?_ (by with_reducible assumption) ?_) | omega | (simp; done) | (simp; omega)))), hl1, by (repeat' (first | (with_reducible assumption) | (with_reducible refine Blk.drew ?_) | (with_reducible refine Blk.here ?_) | (with_reducible refine Blk.alloc ?_ _) | (with_reducible refine Blk.far ?_ ?_ _) | (with_reducible refine Blk.below ?_ (by with_reducible assumption) ?_) | omega | (simp; done) | (simp; omega))), by (repeat' (first | (with_reducible exact Below.refl _ _) | (with_reducible assumption) | (with_reducible refine Below.alloc ?_ ?_ _) | (with_reducible refine Below.setCell ?_ ?_ _) | (with_reducible refine Below.drew ?_) | (with_reducible refine below_drewN ?_ _) | (with_reducible refine below_via ?_ (by with_reducible assumption) ?_) | omega | (simp; done) | (simp; omega)))⟩
  case round =>
    obtain ⟨k, A, l, c, hk, rfl, hB, hl, hbk, hbl⟩ := hrel
    have hz := hbl.size
    have b0 := hbk.cell 0
    have b1 := hbk.cell 1
    have z0 := hbk.frozen 0
    have z1 := hbk.frozen 1
    have hlt := hbk.lt
    have r0 := (hbl.cell (p := ⟨w.heap.size, 0, none⟩) (by simp; omega)).trans p0
    have r1 := (hbl.cell (p := ⟨w.heap.size, 1, none⟩) (by simp; omega)).trans p1
    have s0 := (hbl.frozen (p := ⟨w.heap.size, 0, none⟩) (by simp; omega)).trans f0
    have s1 := (hbl.frozen (p := ⟨w.heap.size, 1, none⟩) (by simp; omega)).trans f1
    simp at b0 b1
    clear p0 p1 f0 f1
    by_cases hk64 : k < 64
    · have d1 : decide ((k : Int) < 64) = true := by simp; omega
      by_cases hne : l = []
      · have d2 : decide (0 < l.length) = false := by rw [hne]; rfl
        have hX : IsBig wr (H * 18446744073709551616) s A l c := by
          have hv := hB.val
          rw [hne] at hv
          have hpp := pw_pos k
          have hH : H = 0 := by
            have h3 : H * pw k = 0 := by
              have : iabs (H * pw k) = 0 := hv.symm
              unfold iabs at this; split at this <;> omega
            rcases Int.mul_eq_zero.1 h3 with h | h
            · exact h
            · omega
          rw [hH, Int.zero_mul] at hB ⊢
          exact hB
        clear hbk hne
        have HX := Lib.hid hX
        have Hbl := Lib.hid hbl
        clear hX hB hbl
        go_wp2_with fail
        go_region_held3 (fun w' => w'.cell? ⟨w1.heap.size, 0, none⟩ = some (.bool s) ∧ w'.cell? ⟨w1.heap.size, 1, none⟩ = some (.slice A l.length c)) (first | (simp [go_sem]; done) | (repeat' (first | (with_reducible assumption) | (with_reducible refine And.intro ?_ ?_) | (with_reducible refine cell_drew ?_) | (with_reducible refine cell_via (by with_reducible assumption) ?_ ?_) | (simp [*]; done) | (simp [go_sem]; done) | (with_reducible refine cell_alloc ?_ ?_) | (with_reducible refine cell_set_far ?_ ?_) | omega | (simp; omega)))) (first | (go_at_call 76; (with_reducible refine (bigNat lo _ h0 h1).mono ?_); rintro e w5 ⟨A5, l5, c5, rfl, hB5, hl5, hb5⟩; have HB5 := Lib.hid hB5; clear hB5; obtain ⟨fc5, fg5, hc5, hf5, hz5⟩ := bget hb5; (try simp at hz5)) | (go_at_call 56; (with_reducible refine (bigAdd _ lo s false l l5 A A5 c c5 193 _ (by omega) (by omega) (by omega) (HX.out.keep (by (repeat' (first | (with_reducible exact Below.refl _ _) | (with_reducible assumption) | (with_reducible refine Below.alloc ?_ ?_ _) | (with_reducible refine Below.setCell ?_ ?_ _) | (with_reducible refine Below.drew ?_) | (with_reducible refine below_drewN ?_ _) | (with_reducible refine below_via ?_ (by with_reducible assumption) ?_) | omega | (simp; done) | (simp; omega))))) (HB5.out.keep (by (repeat' (first | (with_reducible exact Below.refl _ _) | (with_reducible assumption) | (with_reducible refine Below.alloc ?_ ?_ _) | (with_reducible refine Below.setCell ?_ ?_ _) | (with_reducible refine Below.drew ?_) | (with_reducible refine below_drewN ?_ _) | (with_reducible refine below_via ?_ (by with_reducible assumption) ?_) | omega | (simp; done) | (simp; omega)))))).mono ?_); rintro e w6 ⟨s6, A6, l6, c6, rfl, hB6, hl6, hb6⟩; obtain ⟨fc6, fg6, hc6, hf6, hz6⟩ := bget hb6; (try simp at hz6)) | fail)
        go_wp2_with fail
        all_goals
          have k0 := r0
          have k1 := r1
          have r0 : w6.cell? ⟨w.heap.size, 0, none⟩ = some (.bool false) := (by simp [go_sem, hc6, hc5, k0, ↓IntWalk.iteOmega])
          have r1 : w6.cell? ⟨w.heap.size, 1, none⟩ = some (.slice none 0 0) := (by simp [go_sem, hc6, hc5, k1, ↓IntWalk.iteOmega])
          refine bodyPost_ret (v := .agg #[.bool s6, .slice A6 l6.length c6]) (by simp [results, Try.results44, go_sem, r0, r1]; try rfl) rfl ⟨s6, A6, l6, c6, rfl, (hB6.far r0 (by simp) _).far ((World.cell?_setCell_other _ _ _ _ (by simp)).trans r1) (by simp) _, hl6, ?_⟩
          (have hbl := Hbl.out; have hb1 := Hb1.out; (repeat' (first | (with_reducible exact Below.refl _ _) | (with_reducible assumption) | (with_reducible refine Below.alloc ?_ ?_ _) | (with_reducible refine Below.setCell ?_ ?_ _) | (with_reducible refine Below.drew ?_) | (with_reducible refine below_drewN ?_ _) | (with_reducible refine below_via ?_ (by with_reducible assumption) ?_) | omega | (simp; done) | (simp; omega))))
      · have hpos := List.length_pos_iff.2 hne
        have d2 : decide (0 < l.length) = true := by simpa using hpos
        obtain ⟨b, o, rfl, hb, _⟩ := bit_cell hB.rd (Below.refl wr.heap.size wr) (Nat.le_refl _) hpos
        have HB := Lib.hid hB
        have Hbk := Lib.hid hbk
        have Hbl := Lib.hid hbl
        have Hne := Lib.hid hne
        clear hB hbk hbl hne
        go_wp2_with (first | ((at_builtin; refine wpList_app rfl _ _ _ rfl elB wr.heap.size _ _ rfl ((Own.nil wr wr.heap.size 5 1).alloc _) (some ⟨wr.heap.size, 0, none⟩) 1 1 rfl [encB 0] rfl (fun h => by cases h) rd_one ((by simp [encB]; rfl)) (by unfold maxLen; first | (simp; done) | omega | (simp; omega)) (by first | (simp; done) | omega | (simp; omega)) (by first | omega | (simp; done) | (simp; omega)) ?_; intro v' w3 hown3 hb3); obtain ⟨fc3, fg3, hc3, hf3, hz3⟩ := bget hb3; (try simp at hz3)) | (at_builtin; refine wpList_app rfl _ _ _ rfl elB wr.heap.size _ _ rfl hown3 (some ⟨b, o, none⟩) l.length c rfl (l.map encB) (by simp) (fun h => by cases h) (HB.out.rd.keep (by (repeat' (first | (with_reducible exact Below.refl _ _) | (with_reducible assumption) | (with_reducible refine Below.alloc ?_ ?_ _) | (with_reducible refine Below.setCell ?_ ?_ _) | (with_reducible refine Below.drew ?_) | (with_reducible refine below_drewN ?_ _) | (with_reducible refine below_via ?_ (by with_reducible assumption) ?_) | omega | (simp; done) | (simp; omega))))) (encB_one l) (by unfold maxLen; first | (simp; done) | omega | (simp; omega)) (by first | (simp; done) | omega | (simp; omega)) (by have := hb3.size; simp at this; omega) ?_; intro v4 w4 hown4 hb4; have hown5 : Own w4 wr.heap.size 5 1 v4 ((0 :: l).map encB) := (by simpa [encB] using hown4); obtain ⟨A4, c4, rfl, hcc4, hm4, hr4, _⟩ := hown5.shape; have HO5 := Lib.hid hown5; have Hb4 := Lib.hid (show Below wr.heap.size wr w4 from (by (repeat' (first | (with_reducible exact Below.refl _ _) | (with_reducible assumption) | (with_reducible refine Below.alloc ?_ ?_ _) | (with_reducible refine Below.setCell ?_ ?_ _) | (with_reducible refine Below.drew ?_) | (with_reducible refine below_drewN ?_ _) | (with_reducible refine below_via ?_ (by with_reducible assumption) ?_) | omega | (simp; done) | (simp; omega))))); clear hown4 hown5 hb3 hb4; rw [List.length_map]; obtain ⟨fc4, fg4, hc4, hf4, hz4⟩ := bget Hb4.out) | fail)
        go_roundw
        case rel =>
          refine ⟨k + 1, A4, 0 :: l, c4, by omega, by go_num, ?_, by simp; omega, ?_, ?_⟩
          · have hr5 := (HO5.out.farLow (p := ⟨w1.heap.size, 1, none⟩) (by simpa using hlt) (.slice A4 (0 :: l).length c4)).rd.1
            have hup := HB.out.up Hne.out hr5 (by simpa using hcc4) hm4
            rw [pw_succ, show H * (2 * pw k) = 2 * (H * pw k) by rw [Int.mul_left_comm]]
            exact hup
          · have h5 := (Hbk.out.below Hb4.out hlt).set 1 (.slice A4 (0 :: l).length c4)
            simpa using h5
          · have hbl := Hbl.out
            have hb4 := Hb4.out
            (repeat' (first | (with_reducible exact Below.refl _ _) | (with_reducible assumption) | (with_reducible refine Below.alloc ?_ ?_ _) | (with_reducible refine Below.setCell ?_ ?_ _) | (with_reducible refine Below.drew ?_) | (with_reducible refine below_drewN ?_ _) | (with_reducible refine below_via ?_ (by with_reducible assumption) ?_) | omega | (simp; done) | (simp; omega)))
        case measure => simp [intOf]; omega
    · have d1 : decide ((k : Int) < 64) = false := by simp; omega
      have hk2 : k = 64 := by omega
      have hX : IsBig wr (H * 18446744073709551616) s A l c := by rw [← pw64, ← hk2]; exact hB
      clear hbk
      have HX := Lib.hid hX
      have Hbl := Lib.hid hbl
      clear hX hB hbl
      go_wp2_with fail
      go_region_held3 (fun w' => w'.cell? ⟨w1.heap.size, 0, none⟩ = some (.bool s) ∧ w'.cell? ⟨w1.heap.size, 1, none⟩ = some (.slice A l.length c)) (first | (simp [go_sem]; done) | (repeat' (first | (with_reducible assumption) | (with_reducible refine And.intro ?_ ?_) | (with_reducible refine cell_drew ?_) | (with_reducible refine cell_via (by with_reducible assumption) ?_ ?_) | (simp [*]; done) | (simp [go_sem]; done) | (with_reducible refine cell_alloc ?_ ?_) | (with_reducible refine cell_set_far ?_ ?_) | omega | (simp; omega)))) (first | (go_at_call 76; (with_reducible refine (bigNat lo _ h0 h1).mono ?_); rintro e w5 ⟨A5, l5, c5, rfl, hB5, hl5, hb5⟩; have HB5 := Lib.hid hB5; clear hB5; obtain ⟨fc5, fg5, hc5, hf5, hz5⟩ := bget hb5; (try simp at hz5)) | (go_at_call 56; (with_reducible refine (bigAdd _ lo s false l l5 A A5 c c5 193 _ (by omega) (by omega) (by omega) (HX.out.keep (by (repeat' (first | (with_reducible exact Below.refl _ _) | (with_reducible assumption) | (with_reducible refine Below.alloc ?_ ?_ _) | (with_reducible refine Below.setCell ?_ ?_ _) | (with_reducible refine Below.drew ?_) | (with_reducible refine below_drewN ?_ _) | (with_reducible refine below_via ?_ (by with_reducible assumption) ?_) | omega | (simp; done) | (simp; omega))))) (HB5.out.keep (by (repeat' (first | (with_reducible exact Below.refl _ _) | (with_reducible assumption) | (with_reducible refine Below.alloc ?_ ?_ _) | (with_reducible refine Below.setCell ?_ ?_ _) | (with_reducible refine Below.drew ?_) | (with_reducible refine below_drewN ?_ _) | (with_reducible refine below_via ?_ (by with_reducible assumption) ?_) | omega | (simp; done) | (simp; omega)))))).mono ?_); rintro e w6 ⟨s6, A6, l6, c6, rfl, hB6, hl6, hb6⟩; obtain ⟨fc6, fg6, hc6, hf6, hz6⟩ := bget hb6; (try simp at hz6)) | fail)
      go_wp2_with fail
      all_goals
        have k0 := r0
        have k1 := r1
        have r0 : w6.cell? ⟨w.heap.size, 0, none⟩ = some (.bool false) := (by simp [go_sem, hc6, hc5, k0, ↓IntWalk.iteOmega])
        have r1 : w6.cell? ⟨w.heap.size, 1, none⟩ = some (.slice none 0 0) := (by simp [go_sem, hc6, hc5, k1, ↓IntWalk.iteOmega])
        refine bodyPost_ret (v := .agg #[.bool s6, .slice A6 l6.length c6]) (by simp [results, Try.results44, go_sem, r0, r1]; try rfl) rfl ⟨s6, A6, l6, c6, rfl, (hB6.far r0 (by simp) _).far ((World.cell?_setCell_other _ _ _ _ (by simp)).trans r1) (by simp) _, hl6, ?_⟩
        (have hbl := Hbl.out; have hb1 := Hb1.out; (repeat' (first | (with_reducible exact Below.refl _ _) | (with_reducible assumption) | (with_reducible refine Below.alloc ?_ ?_ _) | (with_reducible refine Below.setCell ?_ ?_ _) | (with_reducible refine Below.drew ?_) | (with_reducible refine below_drewN ?_ _) | (with_reducible refine below_via ?_ (by with_reducible assumption) ?_) | omega | (simp; done) | (simp; omega))))
theorem bigWide (n : Int) (w : World) (hn : In128 n) :
    Calls Try.prog 44 #[.int .i64 (whi n), .int .u64 (wlo n)] w (BigPost w n 194) := by
  have h := bigWideAt (whi n) (wlo n) w (whi_i hn) (wlo_u n).1 (wlo_u n).2
  rw [whi_wlo] at h
  exact h
end Go.Proofs.Ytemhhojenocddaa
