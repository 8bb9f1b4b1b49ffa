/- Shares: contracts of share.Fill, of the reference's why and Takes. -/
import Derived.Test.YtenehpcliajdnaaShr5
import Derived.Test.YtenehpcliajdnaaShr2
namespace Go.Proofs.Ytenehpcliajdnaa
open Go.RowKit
def fiC (T : Int) (l : List Int) : Int := if rightS T l = true then (if in64 l.sum = true then (if l.sum < T then 10 else 0) else 7) else 2
def fiL (T : Int) (l : List Int) : List Int := if fiC T l = 0 then spL T l else []
theorem fi_sp {T : Int} {l : List Int} (h : fiC T l = 0) : spC T l = 0 ∧ rightS T l = true ∧ T ≤ l.sum := by
  unfold fiC at h
  cases h1 : rightS T l
  · rw [h1] at h; simp at h
  rw [h1] at h
  cases h2 : in64 l.sum
  · rw [h2] at h; simp at h
  rw [h2] at h
  simp only [if_true] at h
  obtain ⟨t0, t1⟩ := right_iff.1 h1
  by_cases h3 : l.sum < T
  · rw [if_pos h3] at h; omega
  refine ⟨?_, rfl, by omega⟩
  unfold spC
  rw [h1, h2]
  simp only [if_true]
  by_cases h4 : T = 0
  · rw [if_pos h4]
  · rw [if_neg h4, if_neg (by omega)]
set_option maxRecDepth 100000 in
set_option maxHeartbeats 8000000 in
theorem shrFill (T : Int) (l : List Int) (A : Option Addr) (c : Nat) (w : World) (hl : l.length ≤ 1000000) (hT : In64 T) (hin : ∀ x ∈ l, In64 x) (hr : Rd w A 1 (l.map encI)) :
    Calls Try.prog 37 #[.int .i64 T, .slice A l.length c] w fun e w' => ∃ v, e = .returned (.tuple #[v, .int .i64 (fiC T l)]) ∧ Own w' w.heap.size 2 1 v ((fiL T l).map encI) ∧ Below w.heap.size w w' := by
  have HR := Lib.hid hr
  have c1 := fun W h => shrRight T l A c W hl h
  have c3 := fun W h => shrSplit T l A c W hl hT hin h
  clear hr
  cases h1 : rightS T l
  · have HC := Lib.hid (show fiC T l = 2 from by unfold fiC; rw [h1]; rfl)
    have HL := Lib.hid (show fiL T l = [] from by unfold fiL; rw [HC.out]; rfl)
    rw [h1] at c1
    have C1 := Lib.hid c1
    clear c1 h1 c3
    go_enter Try.func37, Try.ntmps37
    go_wp2_with (first | (go_at_call 61; (with_reducible refine (C1.out _ (HR.out.keep (by (repeat' (first | (with_reducible exact Below.refl _ _) | (with_reducible assumption) | (with_reducible refine Below.alloc ?_ ?_ _) | (with_reducible refine Below.setCell ?_ ?_ _) | (with_reducible refine Below.drew ?_) | (with_reducible refine below_drewN ?_ _) | (with_reducible refine below_via ?_ (by with_reducible assumption) ?_) | omega | (simp; done) | (simp; omega)))))).mono ?_); rintro e w1 ⟨rfl, hb1⟩; obtain ⟨fc1, fg1, hc1, hf1, hz1⟩ := bget hb1; (try simp at hz1)) | fail)
    go_ret2
    exact ⟨_, by rw [HC.out]; rfl, by rw [HL.out]; exact Own.nil _ _ _ _, by (repeat' (first | (with_reducible exact Below.refl _ _) | (with_reducible assumption) | (with_reducible refine Below.alloc ?_ ?_ _) | (with_reducible refine Below.setCell ?_ ?_ _) | (with_reducible refine Below.drew ?_) | (with_reducible refine below_drewN ?_ _) | (with_reducible refine below_via ?_ (by with_reducible assumption) ?_) | omega | (simp; done) | (simp; omega)))⟩
  have HCD := Lib.hid (show fiC T l = (if in64 l.sum = true then (if l.sum < T then 10 else 0) else 7) from by unfold fiC; rw [h1]; rfl)
  rw [h1] at c1
  have C1 := Lib.hid c1
  clear c1 h1
  cases h2 : in64 l.sum
  · have HC := Lib.hid (show fiC T l = 7 from by rw [HCD.out, h2]; rfl)
    have HL := Lib.hid (show fiL T l = [] from by unfold fiL; rw [HC.out]; rfl)
    have C2 := Lib.hid (fun W h => fixSumNo l A c W (by omega) hin h (fun hs => by rw [in64_iff.2 hs] at h2; cases h2))
    clear h2 HCD c3
    go_enter Try.func37, Try.ntmps37
    go_wp2_with (first | (go_at_call 61; (with_reducible refine (C1.out _ (HR.out.keep (by (repeat' (first | (with_reducible exact Below.refl _ _) | (with_reducible assumption) | (with_reducible refine Below.alloc ?_ ?_ _) | (with_reducible refine Below.setCell ?_ ?_ _) | (with_reducible refine Below.drew ?_) | (with_reducible refine below_drewN ?_ _) | (with_reducible refine below_via ?_ (by with_reducible assumption) ?_) | omega | (simp; done) | (simp; omega)))))).mono ?_); rintro e w1 ⟨rfl, hb1⟩; obtain ⟨fc1, fg1, hc1, hf1, hz1⟩ := bget hb1; (try simp at hz1)) | (go_at_call 57; (with_reducible refine (C2.out _ (HR.out.keep (by (repeat' (first | (with_reducible exact Below.refl _ _) | (with_reducible assumption) | (with_reducible refine Below.alloc ?_ ?_ _) | (with_reducible refine Below.setCell ?_ ?_ _) | (with_reducible refine Below.drew ?_) | (with_reducible refine below_drewN ?_ _) | (with_reducible refine below_via ?_ (by with_reducible assumption) ?_) | omega | (simp; done) | (simp; omega)))))).mono ?_); rintro e w2 ⟨rfl, hb2⟩; obtain ⟨fc2, fg2, hc2, hf2, hz2⟩ := bget hb2; (try simp at hz2)) | fail)
    go_ret2
    exact ⟨_, by rw [HC.out]; rfl, by rw [HL.out]; exact Own.nil _ _ _ _, by (repeat' (first | (with_reducible exact Below.refl _ _) | (with_reducible assumption) | (with_reducible refine Below.alloc ?_ ?_ _) | (with_reducible refine Below.setCell ?_ ?_ _) | (with_reducible refine Below.drew ?_) | (with_reducible refine below_drewN ?_ _) | (with_reducible refine below_via ?_ (by with_reducible assumption) ?_) | omega | (simp; done) | (simp; omega)))⟩
  have hs64 := in64_iff.1 h2
  have C2 := Lib.hid (fun W h => fixSumYes l A c W (by omega) hin h hs64)
  by_cases h3 : l.sum < T
  · have HC := Lib.hid (show fiC T l = 10 from by rw [HCD.out, h2, if_pos rfl, if_pos h3])
    have HL := Lib.hid (show fiL T l = [] from by unfold fiL; rw [HC.out]; rfl)
    have d3 : decide (l.sum < T) = true := by simpa using h3
    clear h3 h2 HCD c3
    generalize l.sum = S at *
    go_enter Try.func37, Try.ntmps37
    go_wp2_with (first | (go_at_call 61; (with_reducible refine (C1.out _ (HR.out.keep (by (repeat' (first | (with_reducible exact Below.refl _ _) | (with_reducible assumption) | (with_reducible refine Below.alloc ?_ ?_ _) | (with_reducible refine Below.setCell ?_ ?_ _) | (with_reducible refine Below.drew ?_) | (with_reducible refine below_drewN ?_ _) | (with_reducible refine below_via ?_ (by with_reducible assumption) ?_) | omega | (simp; done) | (simp; omega)))))).mono ?_); rintro e w1 ⟨rfl, hb1⟩; obtain ⟨fc1, fg1, hc1, hf1, hz1⟩ := bget hb1; (try simp at hz1)) | (go_at_call 57; (with_reducible refine (C2.out _ (HR.out.keep (by (repeat' (first | (with_reducible exact Below.refl _ _) | (with_reducible assumption) | (with_reducible refine Below.alloc ?_ ?_ _) | (with_reducible refine Below.setCell ?_ ?_ _) | (with_reducible refine Below.drew ?_) | (with_reducible refine below_drewN ?_ _) | (with_reducible refine below_via ?_ (by with_reducible assumption) ?_) | omega | (simp; done) | (simp; omega)))))).mono ?_); rintro e w2 ⟨rfl, hb2⟩; obtain ⟨fc2, fg2, hc2, hf2, hz2⟩ := bget hb2; (try simp at hz2)) | fail)
    go_ret2
    exact ⟨_, by rw [HC.out]; rfl, by rw [HL.out]; exact Own.nil _ _ _ _, by (repeat' (first | (with_reducible exact Below.refl _ _) | (with_reducible assumption) | (with_reducible refine Below.alloc ?_ ?_ _) | (with_reducible refine Below.setCell ?_ ?_ _) | (with_reducible refine Below.drew ?_) | (with_reducible refine below_drewN ?_ _) | (with_reducible refine below_via ?_ (by with_reducible assumption) ?_) | omega | (simp; done) | (simp; omega)))⟩
  have d3 : decide (l.sum < T) = false := by simpa using h3
  have hc0 : fiC T l = 0 := by rw [HCD.out, h2, if_pos rfl, if_neg h3]
  have HC := Lib.hid hc0
  have HL := Lib.hid (show fiL T l = spL T l from by unfold fiL; rw [if_pos hc0])
  rw [(fi_sp hc0).1] at c3
  have C3 := Lib.hid c3
  clear h3 h2 HCD c3 hc0
  generalize l.sum = S at *
  go_enter Try.func37, Try.ntmps37
  go_wp2_with (first | (go_at_call 61; (with_reducible refine (C1.out _ (HR.out.keep (by (repeat' (first | (with_reducible exact Below.refl _ _) | (with_reducible assumption) | (with_reducible refine Below.alloc ?_ ?_ _) | (with_reducible refine Below.setCell ?_ ?_ _) | (with_reducible refine Below.drew ?_) | (with_reducible refine below_drewN ?_ _) | (with_reducible refine below_via ?_ (by with_reducible assumption) ?_) | omega | (simp; done) | (simp; omega)))))).mono ?_); rintro e w1 ⟨rfl, hb1⟩; obtain ⟨fc1, fg1, hc1, hf1, hz1⟩ := bget hb1; (try simp at hz1)) | (go_at_call 57; (with_reducible refine (C2.out _ (HR.out.keep (by (repeat' (first | (with_reducible exact Below.refl _ _) | (with_reducible assumption) | (with_reducible refine Below.alloc ?_ ?_ _) | (with_reducible refine Below.setCell ?_ ?_ _) | (with_reducible refine Below.drew ?_) | (with_reducible refine below_drewN ?_ _) | (with_reducible refine below_via ?_ (by with_reducible assumption) ?_) | omega | (simp; done) | (simp; omega)))))).mono ?_); rintro e w2 ⟨rfl, hb2⟩; obtain ⟨fc2, fg2, hc2, hf2, hz2⟩ := bget hb2; (try simp at hz2)) | (go_at_call 33; (with_reducible refine (C3.out _ (HR.out.keep (by (repeat' (first | (with_reducible exact Below.refl _ _) | (with_reducible assumption) | (with_reducible refine Below.alloc ?_ ?_ _) | (with_reducible refine Below.setCell ?_ ?_ _) | (with_reducible refine Below.drew ?_) | (with_reducible refine below_drewN ?_ _) | (with_reducible refine below_via ?_ (by with_reducible assumption) ?_) | omega | (simp; done) | (simp; omega)))))).mono ?_); rintro e w3 ⟨v3, rfl, hown3, hb3⟩; have HQ := Lib.hid hown3; clear hown3; obtain ⟨fc3, fg3, hc3, hf3, hz3⟩ := bget hb3; (try simp at hz3)) | fail)
  go_ret2
  exact ⟨_, by rw [HC.out]; rfl, by rw [HL.out]; exact HQ.out.mono (by omega), by (repeat' (first | (with_reducible exact Below.refl _ _) | (with_reducible assumption) | (with_reducible refine Below.alloc ?_ ?_ _) | (with_reducible refine Below.setCell ?_ ?_ _) | (with_reducible refine Below.drew ?_) | (with_reducible refine below_drewN ?_ _) | (with_reducible refine below_via ?_ (by with_reducible assumption) ?_) | omega | (simp; done) | (simp; omega)))⟩
set_option maxRecDepth 100000 in
set_option maxHeartbeats 8000000 in
theorem refWhy (T : Int) (l : List Int) (A : Option Addr) (c : Nat) (w : World) (hl : l.length ≤ 40) (hin : ∀ x ∈ l, In64 x) (hr : Rd w A 1 (l.map encI)) :
    Calls Try.prog 65 #[.int .i64 T, .slice A l.length c] w fun e w' => e = .returned (.int .i64 (whyS T l)) ∧ Below w.heap.size w w' := by
  have HR := Lib.hid hr
  have C1 := Lib.hid (fun W h => refSum l A c W hl hin h)
  clear hr
  by_cases h0 : T < 0
  · have d0 : decide (T < 0) = true := by simpa using h0
    have HC := Lib.hid (show whyS T l = 2 from by unfold whyS rightS; rw [show decide (0 ≤ T) = false from by simp; omega]; rfl)
    go_enter Try.func65, Try.ntmps65
    go_wp2_with fail
    go_ret
    exact ⟨by rw [HC.out]; rfl, by (repeat' (first | (with_reducible exact Below.refl _ _) | (with_reducible assumption) | (with_reducible refine Below.alloc ?_ ?_ _) | (with_reducible refine Below.setCell ?_ ?_ _) | (with_reducible refine Below.drew ?_) | (with_reducible refine below_drewN ?_ _) | (with_reducible refine below_via ?_ (by with_reducible assumption) ?_) | omega | (simp; done) | (simp; omega)))⟩
  have d0 : decide (T < 0) = false := by simpa using h0
  go_enter Try.func65, Try.ntmps65
  go_wp2_with fail
  go_loopw [5] (fun i wr => ∃ k : Nat, k ≤ l.length ∧ i = .int .i64 k ∧ (∀ x ∈ l.take k, 0 ≤ x) ∧ Below w.heap.size w wr) (fun i _ => l.length - (intOf i).toNat)
  case atStart => exact ⟨0, Nat.zero_le _, rfl, by simp, by (repeat' (first | (with_reducible exact Below.refl _ _) | (with_reducible assumption) | (with_reducible refine Below.alloc ?_ ?_ _) | (with_reducible refine Below.setCell ?_ ?_ _) | (with_reducible refine Below.drew ?_) | (with_reducible refine below_drewN ?_ _) | (with_reducible refine below_via ?_ (by with_reducible assumption) ?_) | omega | (simp; done) | (simp; omega)))⟩
  case round =>
    obtain ⟨k, hk, rfl, hpos, hbl⟩ := hrel
    have HPOS := Lib.hid hpos
    have Hbl := Lib.hid hbl
    have hz := hbl.size
    clear hpos hbl
    by_cases hlt : k < l.length
    · have kl : (k : Int) < (l.length : Int) := by omega
      have dl : decide ((k : Int) < (l.length : Int)) = true := by simpa using hlt
      obtain ⟨b, o, rfl, hb, hc⟩ := HR.out k (encI l[k]) (by simp [hlt])
      have e0 := (Hbl.out.cell (p := ⟨b, o + k * 1 + 0, none⟩) hb).trans (hc 0 _ rfl)
      simp only [Nat.add_zero, Nat.mul_one] at e0
      have hbw : b < wr.heap.size := by omega
      clear hc
      by_cases hx : l[k] < 0
      · have dx : decide (l[k] < 0) = true := by simpa using hx
        have HC := Lib.hid (show whyS T l = 2 from by
          unfold whyS
          cases h : rightS T l
          · rfl
          · exact absurd ((right_iff.1 h).2 _ (List.getElem_mem hlt)) (by omega))
        go_wp2_with fail
        go_ret
        exact ⟨by rw [HC.out]; rfl, by have hbl := Hbl.out; (repeat' (first | (with_reducible exact Below.refl _ _) | (with_reducible assumption) | (with_reducible refine Below.alloc ?_ ?_ _) | (with_reducible refine Below.setCell ?_ ?_ _) | (with_reducible refine Below.drew ?_) | (with_reducible refine below_drewN ?_ _) | (with_reducible refine below_via ?_ (by with_reducible assumption) ?_) | omega | (simp; done) | (simp; omega)))⟩
      · have dx : decide (l[k] < 0) = false := by simpa using hx
        have HN := Lib.hid (show ∀ x ∈ l.take (k + 1), 0 ≤ x from fun x hxm => by
          rw [List.take_succ_eq_append_getElem hlt] at hxm
          rcases List.mem_append.1 hxm with h | h
          · exact HPOS.out x h
          · simp at h; rw [h]; omega)
        go_wp2_with fail
        go_roundw
        case rel => exact ⟨k + 1, by omega, by go_num, HN.out, by have hbl := Hbl.out; (repeat' (first | (with_reducible exact Below.refl _ _) | (with_reducible assumption) | (with_reducible refine Below.alloc ?_ ?_ _) | (with_reducible refine Below.setCell ?_ ?_ _) | (with_reducible refine Below.drew ?_) | (with_reducible refine below_drewN ?_ _) | (with_reducible refine below_via ?_ (by with_reducible assumption) ?_) | omega | (simp; done) | (simp; omega)))⟩
        case measure => simp [intOf]; omega
    · have dl : decide ((k : Int) < (l.length : Int)) = false := by simpa using hlt
      have hpos := HPOS.out
      rw [List.take_of_length_le (by omega)] at hpos
      have hright : rightS T l = true := right_iff.2 ⟨by omega, hpos⟩
      have HCD := Lib.hid (show whyS T l = (if in64 l.sum = true then 0 else 7) from by unfold whyS; rw [if_pos hright])
      have HRW := Lib.hid (HR.out.keep (Hbl.out))
      clear hpos hright HPOS
      cases h2 : in64 l.sum
      · have HC := Lib.hid (show whyS T l = 7 from by rw [HCD.out, h2]; rfl)
        have HF := Lib.hid h2
        clear HCD h2
        go_wp2_with (first | (go_at_call 38; (with_reducible refine (C1.out _ (HRW.out.keep (by (repeat' (first | (with_reducible exact Below.refl _ _) | (with_reducible assumption) | (with_reducible refine Below.alloc ?_ ?_ _) | (with_reducible refine Below.setCell ?_ ?_ _) | (with_reducible refine Below.drew ?_) | (with_reducible refine below_drewN ?_ _) | (with_reducible refine below_via ?_ (by with_reducible assumption) ?_) | omega | (simp; done) | (simp; omega)))))).mono ?_); rintro e w1 ⟨s1, A1, l1, c1, rfl, hB1, hl1, hb1⟩; have HB1 := Lib.hid hB1; clear hB1; obtain ⟨fc1, fg1, hc1, hf1, hz1⟩ := bget hb1; (try simp at hz1)) | (go_at_call 54; (with_reducible refine (bigFits l.sum s1 l1 A1 c1 200 _ (by omega) (by omega) (HB1.out.keep (by (repeat' (first | (with_reducible exact Below.refl _ _) | (with_reducible assumption) | (with_reducible refine Below.alloc ?_ ?_ _) | (with_reducible refine Below.setCell ?_ ?_ _) | (with_reducible refine Below.drew ?_) | (with_reducible refine below_drewN ?_ _) | (with_reducible refine below_via ?_ (by with_reducible assumption) ?_) | omega | (simp; done) | (simp; omega)))))).mono ?_); rw [HF.out]; rintro e w2 ⟨rfl, hb2⟩; obtain ⟨fc2, fg2, hc2, hf2, hz2⟩ := bget hb2; (try simp at hz2)) | fail)
        go_ret
        exact ⟨by rw [HC.out]; rfl, by have hbl := Hbl.out; (repeat' (first | (with_reducible exact Below.refl _ _) | (with_reducible assumption) | (with_reducible refine Below.alloc ?_ ?_ _) | (with_reducible refine Below.setCell ?_ ?_ _) | (with_reducible refine Below.drew ?_) | (with_reducible refine below_drewN ?_ _) | (with_reducible refine below_via ?_ (by with_reducible assumption) ?_) | omega | (simp; done) | (simp; omega)))⟩
      · have HC := Lib.hid (show whyS T l = 0 from by rw [HCD.out, h2]; rfl)
        have HF := Lib.hid h2
        clear HCD h2
        go_wp2_with (first | (go_at_call 38; (with_reducible refine (C1.out _ (HRW.out.keep (by (repeat' (first | (with_reducible exact Below.refl _ _) | (with_reducible assumption) | (with_reducible refine Below.alloc ?_ ?_ _) | (with_reducible refine Below.setCell ?_ ?_ _) | (with_reducible refine Below.drew ?_) | (with_reducible refine below_drewN ?_ _) | (with_reducible refine below_via ?_ (by with_reducible assumption) ?_) | omega | (simp; done) | (simp; omega)))))).mono ?_); rintro e w1 ⟨s1, A1, l1, c1, rfl, hB1, hl1, hb1⟩; have HB1 := Lib.hid hB1; clear hB1; obtain ⟨fc1, fg1, hc1, hf1, hz1⟩ := bget hb1; (try simp at hz1)) | (go_at_call 54; (with_reducible refine (bigFits l.sum s1 l1 A1 c1 200 _ (by omega) (by omega) (HB1.out.keep (by (repeat' (first | (with_reducible exact Below.refl _ _) | (with_reducible assumption) | (with_reducible refine Below.alloc ?_ ?_ _) | (with_reducible refine Below.setCell ?_ ?_ _) | (with_reducible refine Below.drew ?_) | (with_reducible refine below_drewN ?_ _) | (with_reducible refine below_via ?_ (by with_reducible assumption) ?_) | omega | (simp; done) | (simp; omega)))))).mono ?_); rw [HF.out]; rintro e w2 ⟨rfl, hb2⟩; obtain ⟨fc2, fg2, hc2, hf2, hz2⟩ := bget hb2; (try simp at hz2)) | fail)
        go_ret
        exact ⟨by rw [HC.out]; rfl, by have hbl := Hbl.out; (repeat' (first | (with_reducible exact Below.refl _ _) | (with_reducible assumption) | (with_reducible refine Below.alloc ?_ ?_ _) | (with_reducible refine Below.setCell ?_ ?_ _) | (with_reducible refine Below.drew ?_) | (with_reducible refine below_drewN ?_ _) | (with_reducible refine below_via ?_ (by with_reducible assumption) ?_) | omega | (simp; done) | (simp; omega)))⟩
theorem why_two {T : Int} {l : List Int} : (whyS T l == 2) = !rightS T l := by
  unfold whyS
  cases rightS T l <;> cases in64 l.sum <;> rfl
set_option maxRecDepth 100000 in
set_option maxHeartbeats 8000000 in
theorem refTakes (T : Int) (l : List Int) (A : Option Addr) (c : Nat) (w : World) (hl : l.length ≤ 40) (hT : In64 T) (hin : ∀ x ∈ l, In64 x) (hr : Rd w A 1 (l.map encI)) :
    Calls Try.prog 42 #[.int .i64 T, .slice A l.length c] w fun e w' => ∃ v, e = .returned (.tuple #[v, .int .i64 (tkN T l), .int .i64 (tkC T l)]) ∧ Own w' w.heap.size 2 1 v ((tkL T l).map encI) ∧ Below w.heap.size w w' := by
  have HR := Lib.hid hr
  have C1 := Lib.hid (fun W h => refWhy T l A c W hl hin h)
  have hw2 := why_two (T := T) (l := l)
  clear hr hin
  cases h : rightS T l
  · have HN := Lib.hid (show tkN T l = 0 from by unfold tkN; rw [h]; rfl)
    have HC := Lib.hid (show tkC T l = 2 from by unfold tkC; rw [h]; rfl)
    have HL := Lib.hid (show tkL T l = [] from by unfold tkL; rw [h]; rfl)
    rw [h] at hw2
    simp only [Bool.not_false] at hw2
    generalize whyS T l = wh at *
    clear h
    go_enter Try.func42, Try.ntmps42
    go_wp2_with (first | (go_at_call 65; (with_reducible refine (C1.out _ (HR.out.keep (by (repeat' (first | (with_reducible exact Below.refl _ _) | (with_reducible assumption) | (with_reducible refine Below.alloc ?_ ?_ _) | (with_reducible refine Below.setCell ?_ ?_ _) | (with_reducible refine Below.drew ?_) | (with_reducible refine below_drewN ?_ _) | (with_reducible refine below_via ?_ (by with_reducible assumption) ?_) | omega | (simp; done) | (simp; omega)))))).mono ?_); rintro e w1 ⟨rfl, hb1⟩; obtain ⟨fc1, fg1, hc1, hf1, hz1⟩ := bget hb1; (try simp at hz1)) | fail)
    refine bodyPost_ret (by simp [results, Try.results42, go_sem]; try rfl) rfl ⟨_, by rw [HN.out, HC.out], by rw [HL.out]; exact Own.nil _ _ _ _, ?_⟩
    (repeat' (first | (with_reducible exact Below.refl _ _) | (with_reducible assumption) | (with_reducible refine Below.alloc ?_ ?_ _) | (with_reducible refine Below.setCell ?_ ?_ _) | (with_reducible refine Below.drew ?_) | (with_reducible refine below_drewN ?_ _) | (with_reducible refine below_via ?_ (by with_reducible assumption) ?_) | omega | (simp; done) | (simp; omega)))
  · obtain ⟨t0, t1⟩ := right_iff.1 h
    have HN := Lib.hid (show tkN T l = tkR T l from by unfold tkN; rw [h]; rfl)
    have HC := Lib.hid (show tkC T l = 0 from by unfold tkC; rw [h]; rfl)
    have HL := Lib.hid (show tkL T l = tkF T l from by unfold tkL; rw [h]; rfl)
    have H0 := Lib.hid t1
    rw [h] at hw2
    simp only [Bool.not_true] at hw2
    generalize whyS T l = wh at *
    unfold In64 at hT
    clear h t1
    go_enter Try.func42, Try.ntmps42
    go_wp2_with (first | (go_at_call 65; (with_reducible refine (C1.out _ (HR.out.keep (by (repeat' (first | (with_reducible exact Below.refl _ _) | (with_reducible assumption) | (with_reducible refine Below.alloc ?_ ?_ _) | (with_reducible refine Below.setCell ?_ ?_ _) | (with_reducible refine Below.drew ?_) | (with_reducible refine below_drewN ?_ _) | (with_reducible refine below_via ?_ (by with_reducible assumption) ?_) | omega | (simp; done) | (simp; omega)))))).mono ?_); rintro e w1 ⟨rfl, hb1⟩; obtain ⟨fc1, fg1, hc1, hf1, hz1⟩ := bget hb1; (try simp at hz1)) | fail)
    have Hb2 := Lib.hid (show Below w.heap.size w w1 from by (repeat' (first | (with_reducible exact Below.refl _ _) | (with_reducible assumption) | (with_reducible refine Below.alloc ?_ ?_ _) | (with_reducible refine Below.setCell ?_ ?_ _) | (with_reducible refine Below.drew ?_) | (with_reducible refine below_drewN ?_ _) | (with_reducible refine below_via ?_ (by with_reducible assumption) ?_) | omega | (simp; done) | (simp; omega))))
    go_loopw [0, 7, 8] (fun tv v i wr => ∃ (k : Nat) (z : Int) (out : List Int), k ≤ l.length ∧ i = .int .i64 k ∧ tv = .int .i64 z ∧ 0 ≤ z ∧ z ≤ T ∧ out.length = k ∧ Own wr w.heap.size 2 1 v (out.map encI) ∧ tkF T l = out ++ tkF z (l.drop k) ∧ tkR T l = tkR z (l.drop k) ∧ Below w.heap.size w wr) (fun _ _ i _ => l.length - (intOf i).toNat)
    case atStart => exact ⟨0, T, [], Nat.zero_le _, rfl, rfl, t0, by omega, rfl, Own.nil _ _ _ _, rfl, rfl, Hb2.out⟩
    case round =>
      obtain ⟨k, z, out, hk, rfl, rfl, z0, z1, hol, hown, h1, h2, hbl⟩ := hrel
      have Hown := Lib.hid hown
      have Hbl := Lib.hid hbl
      have hz := hbl.size
      have G1 := Lib.hid h1
      have G2 := Lib.hid h2
      have hlo : (out.map encI).length ≤ 1000000 := by rw [List.length_map]; omega
      clear hown hbl h1 h2
      by_cases hlt : k < l.length
      · have kl : (k : Int) < (l.length : Int) := by omega
        have dl : decide ((k : Int) < (l.length : Int)) = true := by simpa using hlt
        obtain ⟨b, o, rfl, hb, hc⟩ := HR.out k (encI l[k]) (by simp [hlt])
        have e0 := (Hbl.out.cell (p := ⟨b, o + k * 1 + 0, none⟩) hb).trans (hc 0 _ rfl)
        simp only [Nat.add_zero, Nat.mul_one] at e0
        have hbw : b < wr.heap.size := by omega
        have hx0 := H0.out l[k] (List.getElem_mem hlt)
        have hp0 : 0 ≤ min z l[k] ∧ min z l[k] ≤ z := by omega
        have N1 := Lib.hid (show tkF T l = (out ++ [min z l[k]]) ++ tkF (z - (min z l[k])) (l.drop (k + 1)) from by rw [G1.out, drop_cons' hlt, List.append_assoc]; show out ++ (min z l[k] :: tkF (z - min z l[k]) _) = _; rfl)
        have N2 := Lib.hid (show tkR T l = tkR (z - (min z l[k])) (l.drop (k + 1)) from by rw [G2.out, drop_cons' hlt]; show tkR (z - min z l[k]) _ = _; rfl)
        clear hc
        obtain ⟨x, hxe⟩ : ∃ x, x = l[k] := ⟨_, rfl⟩
        rw [← hxe] at e0 hx0 hp0 N1 N2
        clear hxe
        by_cases hzx : z < x
        · have dz : decide (z < x) = true := by simpa using hzx
          rw [show min z x = z from by omega] at N1 N2 hp0
          go_wp2_with (first | (at_builtin; refine wpList_app rfl _ _ _ rfl elI w.heap.size _ _ rfl (Hown.out.alloc _) (some ⟨_, 0, none⟩) 1 1 rfl [encI (z)] rfl (fun h => by cases h) (rd_oneN (by simp)) (rowsI1 _) (by unfold maxLen; first | (simp; done) | omega | (simp; omega)) (by first | (simp; done) | omega | (simp; omega)) (by first | omega | (simp; done) | (simp; omega)) ?_; intro v3 w3 hown3 hb3; obtain ⟨fc3, fg3, hc3, hf3, hz3⟩ := bget hb3; (try simp at hz3)) | fail)
          go_roundw
          case rel => exact ⟨k + 1, z - (z), out ++ [z], by omega, by go_num, by go_num, by omega, by omega, by simp; omega, by rw [List.map_append]; exact hown3, N1.out, N2.out, by have hbl := Hbl.out; (repeat' (first | (with_reducible exact Below.refl _ _) | (with_reducible assumption) | (with_reducible refine Below.alloc ?_ ?_ _) | (with_reducible refine Below.setCell ?_ ?_ _) | (with_reducible refine Below.drew ?_) | (with_reducible refine below_drewN ?_ _) | (with_reducible refine below_via ?_ (by with_reducible assumption) ?_) | omega | (simp; done) | (simp; omega)))⟩
          case measure => simp [intOf]; omega
        · have dz : decide (z < x) = false := by simpa using hzx
          rw [show min z x = x from by omega] at N1 N2 hp0
          go_wp2_with (first | (at_builtin; refine wpList_app rfl _ _ _ rfl elI w.heap.size _ _ rfl (Hown.out.alloc _) (some ⟨_, 0, none⟩) 1 1 rfl [encI (x)] rfl (fun h => by cases h) (rd_oneN (by simp)) (rowsI1 _) (by unfold maxLen; first | (simp; done) | omega | (simp; omega)) (by first | (simp; done) | omega | (simp; omega)) (by first | omega | (simp; done) | (simp; omega)) ?_; intro v3 w3 hown3 hb3; obtain ⟨fc3, fg3, hc3, hf3, hz3⟩ := bget hb3; (try simp at hz3)) | fail)
          go_roundw
          case rel => exact ⟨k + 1, z - (x), out ++ [x], by omega, by go_num, by go_num, by omega, by omega, by simp; omega, by rw [List.map_append]; exact hown3, N1.out, N2.out, by have hbl := Hbl.out; (repeat' (first | (with_reducible exact Below.refl _ _) | (with_reducible assumption) | (with_reducible refine Below.alloc ?_ ?_ _) | (with_reducible refine Below.setCell ?_ ?_ _) | (with_reducible refine Below.drew ?_) | (with_reducible refine below_drewN ?_ _) | (with_reducible refine below_via ?_ (by with_reducible assumption) ?_) | omega | (simp; done) | (simp; omega)))⟩
          case measure => simp [intOf]; omega
      · have dl : decide ((k : Int) < (l.length : Int)) = false := by simpa using hlt
        have hd : l.drop k = [] := List.drop_eq_nil_of_le (by omega)
        have E1 := Lib.hid (show tkF T l = out from by rw [G1.out, hd]; simp [tkF])
        have E2 := Lib.hid (show tkR T l = z from by rw [G2.out, hd]; rfl)
        clear hd
        go_wp2_with fail
        have hbl := Hbl.out
        refine bodyPost_ret (by simp [results, Try.results42, go_sem]; try rfl) rfl ⟨_, by rw [HN.out, HC.out, E2.out], by rw [HL.out, E1.out]; exact Hown.out, ?_⟩
        (repeat' (first | (with_reducible exact Below.refl _ _) | (with_reducible assumption) | (with_reducible refine Below.alloc ?_ ?_ _) | (with_reducible refine Below.setCell ?_ ?_ _) | (with_reducible refine Below.drew ?_) | (with_reducible refine below_drewN ?_ _) | (with_reducible refine below_via ?_ (by with_reducible assumption) ?_) | omega | (simp; done) | (simp; omega)))
end Go.Proofs.Ytenehpcliajdnaa
