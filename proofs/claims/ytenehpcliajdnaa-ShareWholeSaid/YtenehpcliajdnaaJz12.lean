/- Joined: ShrL3, ShrL4. -/
import Derived.Test.YtenehpcliajdnaaJz9
import Derived.Test.YtenehpcliajdnaaJz11
/- Layer 3's laws: the reference's Fill; ShareSplits, ShareFills. -/
namespace Go.Proofs.Ytenehpcliajdnaa
open Go.RowKit
theorem sp_le (T : Int) (l : List Int) : (spL T l).length ≤ l.length := by
  by_cases h : spC T l = 0
  · rw [sp_len h]; exact Nat.le_refl _
  · unfold spL; rw [if_neg h]; simp
theorem fi_le (T : Int) (l : List Int) : (fiL T l).length ≤ l.length := by
  unfold fiL
  split
  · exact sp_le T l
  · simp
theorem tk_le (T : Int) (l : List Int) : (tkL T l).length ≤ l.length := by
  unfold tkL
  split
  · rw [tkF_len]; exact Nat.le_refl _
  · simp
theorem fi_why {T : Int} {l : List Int} (h : ¬ whyS T l = 0) : fiC T l = whyS T l ∧ fiL T l = [] := by
  have h2 : fiC T l = whyS T l := by
    unfold whyS at h ⊢
    unfold fiC
    cases h1 : rightS T l
    · rfl
    cases h2 : in64 l.sum
    · rfl
    rw [h1, h2] at h
    simp at h
  exact ⟨h2, by unfold fiL; rw [if_neg (by rw [h2]; exact h)]⟩
theorem ord_neg {a b : Int} (h : a < b) : ord a b = -1 := by unfold ord; rw [if_pos h]
theorem ord_nn {a b : Int} (h : ¬ a < b) : decide (ord a b < 0) = false := by
  unfold ord; rw [if_neg h]; split <;> rfl
set_option maxRecDepth 100000 in
set_option maxHeartbeats 8000000 in
theorem refFill (T : Int) (l : List Int) (A : Option Addr) (c : Nat) (w : World) (hl : l.length ≤ 40) (hT : In64 T) (hin : ∀ x ∈ l, In64 x) (hr : Rd w A 1 (l.map encI)) :
    Calls Try.prog 40 #[.int .i64 T, .slice A l.length c] w fun e w' => ∃ v, e = .returned (.tuple #[v, .int .i64 (fiC T l)]) ∧ Own w' w.heap.size 2 1 v ((fiL T l).map encI) ∧ Below w.heap.size w w' := by
  have HR := Lib.hid hr
  have c1 := fun W h => refWhy T l A c W hl hin h
  have C2 := Lib.hid (fun W h => refSum l A c W hl hin h)
  have c3 := fun W h => refSplit T l A c W hl hT hin h
  clear hr
  by_cases h0 : whyS T l = 0
  rotate_left
  · obtain ⟨e1, e2⟩ := fi_why h0
    have HC := Lib.hid e1
    have HL := Lib.hid e2
    have C1 := Lib.hid c1
    have d0 : (whyS T l == 0) = false := by simpa using h0
    clear c1 h0 e1 e2 c3
    generalize whyS T l = wh at *
    go_enter Try.func40, Try.ntmps40
    go_wp2_with (first | (go_at_call 65; (with_reducible refine (C1.out _ (HR.out.keep (by (repeat' (first | (with_reducible exact Below.refl _ _) | (with_reducible assumption) | (with_reducible refine Below.alloc ?_ ?_ _) | (with_reducible refine Below.setCell ?_ ?_ _) | (with_reducible refine Below.drew ?_) | (with_reducible refine below_drewN ?_ _) | (with_reducible refine below_via ?_ (by with_reducible assumption) ?_) | omega | (simp; done) | (simp; omega)))))).mono ?_); rintro e w1 ⟨rfl, hb1⟩; obtain ⟨fc1, fg1, hc1, hf1, hz1⟩ := bget hb1; (try simp at hz1)) | fail)
    go_ret2
    exact ⟨_, by rw [HC.out]; first | done | rfl, by rw [HL.out]; exact Own.nil _ _ _ _, by (repeat' (first | (with_reducible exact Below.refl _ _) | (with_reducible assumption) | (with_reducible refine Below.alloc ?_ ?_ _) | (with_reducible refine Below.setCell ?_ ?_ _) | (with_reducible refine Below.drew ?_) | (with_reducible refine below_drewN ?_ _) | (with_reducible refine below_via ?_ (by with_reducible assumption) ?_) | omega | (simp; done) | (simp; omega)))⟩
  obtain ⟨h1, h2⟩ := why_zero h0
  have HCD := Lib.hid (show fiC T l = if l.sum < T then 10 else 0 from by unfold fiC; rw [h1, h2, if_pos rfl, if_pos rfl])
  rw [h0] at c1
  have C1 := Lib.hid c1
  clear c1 h0 h1 h2 hin
  by_cases h3 : l.sum < T
  · have HC := Lib.hid (show fiC T l = 10 from by rw [HCD.out, if_pos h3])
    have HL := Lib.hid (show fiL T l = [] from by unfold fiL; rw [HC.out]; rfl)
    have HORD := Lib.hid (ord_neg h3)
    clear h3 HCD c3
    generalize l.sum = S at *
    go_enter Try.func40, Try.ntmps40
    go_wp2_with (first | (go_at_call 65; (with_reducible refine (C1.out _ (HR.out.keep (by (repeat' (first | (with_reducible exact Below.refl _ _) | (with_reducible assumption) | (with_reducible refine Below.alloc ?_ ?_ _) | (with_reducible refine Below.setCell ?_ ?_ _) | (with_reducible refine Below.drew ?_) | (with_reducible refine below_drewN ?_ _) | (with_reducible refine below_via ?_ (by with_reducible assumption) ?_) | omega | (simp; done) | (simp; omega)))))).mono ?_); rintro e w1 ⟨rfl, hb1⟩; obtain ⟨fc1, fg1, hc1, hf1, hz1⟩ := bget hb1; (try simp at hz1)) | (go_at_call 38; (with_reducible refine (C2.out _ (HR.out.keep (by (repeat' (first | (with_reducible exact Below.refl _ _) | (with_reducible assumption) | (with_reducible refine Below.alloc ?_ ?_ _) | (with_reducible refine Below.setCell ?_ ?_ _) | (with_reducible refine Below.drew ?_) | (with_reducible refine below_drewN ?_ _) | (with_reducible refine below_via ?_ (by with_reducible assumption) ?_) | omega | (simp; done) | (simp; omega)))))).mono ?_); rintro e w2 ⟨s2, A2, l2, c2, rfl, hB2, hl2, hb2⟩; have HB2 := Lib.hid hB2; clear hB2; obtain ⟨fc2, fg2, hc2, hf2, hz2⟩ := bget hb2; (try simp at hz2)) | (go_at_call 16; (with_reducible refine (bigOf T _ hT).mono ?_); rintro e w3 ⟨s3, A3, l3, c3, rfl, hB3, hl3, hb3⟩; have HB3 := Lib.hid hB3; clear hB3; obtain ⟨fc3, fg3, hc3, hf3, hz3⟩ := bget hb3; (try simp at hz3)) | (go_at_call 18; (with_reducible refine (bigCmp S T s2 s3 l2 l3 A2 A3 c2 c3 200 _ (by omega) (by omega) (by omega) (HB2.out.keep (by (repeat' (first | (with_reducible exact Below.refl _ _) | (with_reducible assumption) | (with_reducible refine Below.alloc ?_ ?_ _) | (with_reducible refine Below.setCell ?_ ?_ _) | (with_reducible refine Below.drew ?_) | (with_reducible refine below_drewN ?_ _) | (with_reducible refine below_via ?_ (by with_reducible assumption) ?_) | omega | (simp; done) | (simp; omega))))) (HB3.out.keep (by (repeat' (first | (with_reducible exact Below.refl _ _) | (with_reducible assumption) | (with_reducible refine Below.alloc ?_ ?_ _) | (with_reducible refine Below.setCell ?_ ?_ _) | (with_reducible refine Below.drew ?_) | (with_reducible refine below_drewN ?_ _) | (with_reducible refine below_via ?_ (by with_reducible assumption) ?_) | omega | (simp; done) | (simp; omega)))))).mono ?_); (try rw [HORD.out]); rintro e w4 ⟨rfl, hb4⟩; obtain ⟨fc4, fg4, hc4, hf4, hz4⟩ := bget hb4; (try simp at hz4)) | fail)
    go_ret2
    exact ⟨_, by rw [HC.out]; first | done | rfl, by rw [HL.out]; exact Own.nil _ _ _ _, by (repeat' (first | (with_reducible exact Below.refl _ _) | (with_reducible assumption) | (with_reducible refine Below.alloc ?_ ?_ _) | (with_reducible refine Below.setCell ?_ ?_ _) | (with_reducible refine Below.drew ?_) | (with_reducible refine below_drewN ?_ _) | (with_reducible refine below_via ?_ (by with_reducible assumption) ?_) | omega | (simp; done) | (simp; omega)))⟩
  · have hc0 : fiC T l = 0 := by rw [HCD.out, if_neg h3]
    have HC := Lib.hid hc0
    have HL := Lib.hid (show fiL T l = spL T l from by unfold fiL; rw [if_pos hc0])
    have HORD := Lib.hid (rfl : (0 : Int) = 0)
    have dO := ord_nn h3
    rw [(fi_sp hc0).1] at c3
    have C3 := Lib.hid c3
    clear h3 HCD c3 hc0
    generalize l.sum = S at *
    generalize ho : ord S T = o at *
    have HO := Lib.hid ho
    have C4 := Lib.hid (fun (w : World) s2 s3 (l2 l3 : List Int) A2 A3 c2 c3 (hla : l2.length ≤ 200) (hlb : l3.length ≤ 200) (ha : IsBig w S s2 A2 l2 c2) (hb : IsBig w T s3 A3 l3 c3) => show Calls Try.prog 18 #[.agg #[.bool s2, .slice A2 l2.length c2], .agg #[.bool s3, .slice A3 l3.length c3]] w fun e w' => e = .returned (.int .i64 o) ∧ Below w.heap.size w w' from by rw [← ho]; exact bigCmp S T s2 s3 l2 l3 A2 A3 c2 c3 200 w (by omega) hla hlb ha hb)
    clear ho
    go_enter Try.func40, Try.ntmps40
    go_wp2_with (first | (go_at_call 18; (with_reducible refine (C4.out _ s2 s3 l2 l3 A2 A3 c2 c3 (by omega) (by omega) (HB2.out.keep (by (repeat' (first | (with_reducible exact Below.refl _ _) | (with_reducible assumption) | (with_reducible refine Below.alloc ?_ ?_ _) | (with_reducible refine Below.setCell ?_ ?_ _) | (with_reducible refine Below.drew ?_) | (with_reducible refine below_drewN ?_ _) | (with_reducible refine below_via ?_ (by with_reducible assumption) ?_) | omega | (simp; done) | (simp; omega))))) (HB3.out.keep (by (repeat' (first | (with_reducible exact Below.refl _ _) | (with_reducible assumption) | (with_reducible refine Below.alloc ?_ ?_ _) | (with_reducible refine Below.setCell ?_ ?_ _) | (with_reducible refine Below.drew ?_) | (with_reducible refine below_drewN ?_ _) | (with_reducible refine below_via ?_ (by with_reducible assumption) ?_) | omega | (simp; done) | (simp; omega)))))).mono ?_); rintro e w4 ⟨rfl, hb4⟩; obtain ⟨fc4, fg4, hc4, hf4, hz4⟩ := bget hb4; (try simp at hz4)) | (go_at_call 65; (with_reducible refine (C1.out _ (HR.out.keep (by (repeat' (first | (with_reducible exact Below.refl _ _) | (with_reducible assumption) | (with_reducible refine Below.alloc ?_ ?_ _) | (with_reducible refine Below.setCell ?_ ?_ _) | (with_reducible refine Below.drew ?_) | (with_reducible refine below_drewN ?_ _) | (with_reducible refine below_via ?_ (by with_reducible assumption) ?_) | omega | (simp; done) | (simp; omega)))))).mono ?_); rintro e w1 ⟨rfl, hb1⟩; obtain ⟨fc1, fg1, hc1, hf1, hz1⟩ := bget hb1; (try simp at hz1)) | (go_at_call 38; (with_reducible refine (C2.out _ (HR.out.keep (by (repeat' (first | (with_reducible exact Below.refl _ _) | (with_reducible assumption) | (with_reducible refine Below.alloc ?_ ?_ _) | (with_reducible refine Below.setCell ?_ ?_ _) | (with_reducible refine Below.drew ?_) | (with_reducible refine below_drewN ?_ _) | (with_reducible refine below_via ?_ (by with_reducible assumption) ?_) | omega | (simp; done) | (simp; omega)))))).mono ?_); rintro e w2 ⟨s2, A2, l2, c2, rfl, hB2, hl2, hb2⟩; have HB2 := Lib.hid hB2; clear hB2; obtain ⟨fc2, fg2, hc2, hf2, hz2⟩ := bget hb2; (try simp at hz2)) | (go_at_call 16; (with_reducible refine (bigOf T _ hT).mono ?_); rintro e w3 ⟨s3, A3, l3, c3, rfl, hB3, hl3, hb3⟩; have HB3 := Lib.hid hB3; clear hB3; obtain ⟨fc3, fg3, hc3, hf3, hz3⟩ := bget hb3; (try simp at hz3)) | (go_at_call 18; (with_reducible refine (bigCmp S T s2 s3 l2 l3 A2 A3 c2 c3 200 _ (by omega) (by omega) (by omega) (HB2.out.keep (by (repeat' (first | (with_reducible exact Below.refl _ _) | (with_reducible assumption) | (with_reducible refine Below.alloc ?_ ?_ _) | (with_reducible refine Below.setCell ?_ ?_ _) | (with_reducible refine Below.drew ?_) | (with_reducible refine below_drewN ?_ _) | (with_reducible refine below_via ?_ (by with_reducible assumption) ?_) | omega | (simp; done) | (simp; omega))))) (HB3.out.keep (by (repeat' (first | (with_reducible exact Below.refl _ _) | (with_reducible assumption) | (with_reducible refine Below.alloc ?_ ?_ _) | (with_reducible refine Below.setCell ?_ ?_ _) | (with_reducible refine Below.drew ?_) | (with_reducible refine below_drewN ?_ _) | (with_reducible refine below_via ?_ (by with_reducible assumption) ?_) | omega | (simp; done) | (simp; omega)))))).mono ?_); (try rw [HORD.out]); rintro e w4 ⟨rfl, hb4⟩; obtain ⟨fc4, fg4, hc4, hf4, hz4⟩ := bget hb4; (try simp at hz4)) | (go_at_call 34; (with_reducible refine (C3.out _ (HR.out.keep (by (repeat' (first | (with_reducible exact Below.refl _ _) | (with_reducible assumption) | (with_reducible refine Below.alloc ?_ ?_ _) | (with_reducible refine Below.setCell ?_ ?_ _) | (with_reducible refine Below.drew ?_) | (with_reducible refine below_drewN ?_ _) | (with_reducible refine below_via ?_ (by with_reducible assumption) ?_) | omega | (simp; done) | (simp; omega)))))).mono ?_); rintro e w5 ⟨v5, rfl, hown5, hb5⟩; have HQ := Lib.hid hown5; clear hown5; obtain ⟨fc5, fg5, hc5, hf5, hz5⟩ := bget hb5; (try simp at hz5)) | fail)
    go_ret2
    exact ⟨_, by rw [HC.out]; first | done | rfl, by rw [HL.out]; exact HQ.out.mono (by omega), by (repeat' (first | (with_reducible exact Below.refl _ _) | (with_reducible assumption) | (with_reducible refine Below.alloc ?_ ?_ _) | (with_reducible refine Below.setCell ?_ ?_ _) | (with_reducible refine Below.drew ?_) | (with_reducible refine below_drewN ?_ _) | (with_reducible refine below_via ?_ (by with_reducible assumption) ?_) | omega | (simp; done) | (simp; omega)))⟩
theorem takes_rd {L : List Int} {n code : Int} {w w' : World} {e : Ending} (h : ∃ v, e = .returned (.tuple #[v, .int .i64 n, .int .i64 code]) ∧ Own w' w.heap.size 2 1 v (L.map encI) ∧ Below w.heap.size w w') : ∃ A c, e = .returned (.tuple #[.slice A L.length c, .int .i64 n, .int .i64 code]) ∧ Rd w' A 1 (L.map encI) ∧ Below w.heap.size w w' := by
  obtain ⟨v, rfl, hown, hb⟩ := h
  obtain ⟨A, c, hv, hrs, _⟩ := hown.rs
  rw [List.length_map] at hv
  subst hv
  exact ⟨A, c, rfl, hrs.rd, hb⟩
set_option maxRecDepth 100000 in
set_option maxHeartbeats 8000000 in
theorem shareSplitsW (l0 l L : List Int) (T code : Int) (hL : L.length ≤ 1000) (A : Option Addr) (c : Nat) (w : World) (hr0 : Rd w A 1 (l0.map encI)) (hr : Rd w A 1 (l.map encI))
    (cf : ∀ W, Rd W A 1 (l0.map encI) → Calls Try.prog 32 #[.slice A l0.length c] W fun e w' => e = .returned (.slice A l.length c) ∧ Below W.heap.size W w')
    (cs : ∀ W, Rd W A 1 (l.map encI) → Calls Try.prog 33 #[.int .i64 T, .slice A l.length c] W fun e w' => ∃ A2 c2, e = .returned (.tuple #[.slice A2 L.length c2, .int .i64 code]) ∧ Rd w' A2 1 (L.map encI) ∧ Below W.heap.size W w')
    (cr : ∀ W, Rd W A 1 (l.map encI) → Calls Try.prog 34 #[.int .i64 T, .slice A l.length c] W fun e w' => ∃ A2 c2, e = .returned (.tuple #[.slice A2 L.length c2, .int .i64 code]) ∧ Rd w' A2 1 (L.map encI) ∧ Below W.heap.size W w') :
    Calls Try.prog 7 #[.int .i64 T, .slice A l0.length c] w fun e w' => e = .returned (.bool true) ∧ Below w.heap.size w w' := by
  have HR0 := Lib.hid hr0
  have HR := Lib.hid hr
  have CF := Lib.hid cf
  have CS := Lib.hid cs
  have CR := Lib.hid cr
  clear hr0 hr cf cs cr
  go_enter Try.func7, Try.ntmps7
  go_wp2_with (first | (go_at_call 32; (with_reducible refine (CF.out _ (HR0.out.keep (by (repeat' (first | (with_reducible exact Below.refl _ _) | (with_reducible assumption) | (with_reducible refine Below.alloc ?_ ?_ _) | (with_reducible refine Below.setCell ?_ ?_ _) | (with_reducible refine Below.drew ?_) | (with_reducible refine below_drewN ?_ _) | (with_reducible refine below_via ?_ (by with_reducible assumption) ?_) | omega | (simp; done) | (simp; omega)))))).mono ?_); rintro e w1 ⟨rfl, hb1⟩; obtain ⟨fc1, fg1, hc1, hf1, hz1⟩ := bget hb1; (try simp at hz1)) | (go_at_call 33; (with_reducible refine (CS.out _ (HR.out.keep (by (repeat' (first | (with_reducible exact Below.refl _ _) | (with_reducible assumption) | (with_reducible refine Below.alloc ?_ ?_ _) | (with_reducible refine Below.setCell ?_ ?_ _) | (with_reducible refine Below.drew ?_) | (with_reducible refine below_drewN ?_ _) | (with_reducible refine below_via ?_ (by with_reducible assumption) ?_) | omega | (simp; done) | (simp; omega)))))).mono ?_); intro e w2 hp; obtain ⟨A2, c2, rfl, hrd2, hb2⟩ := hp; have H2 := Lib.hid hrd2; clear hrd2; obtain ⟨fc2, fg2, hc2, hf2, hz2⟩ := bget hb2; (try simp at hz2)) | (go_at_call 34; (with_reducible refine (CR.out _ (HR.out.keep (by (repeat' (first | (with_reducible exact Below.refl _ _) | (with_reducible assumption) | (with_reducible refine Below.alloc ?_ ?_ _) | (with_reducible refine Below.setCell ?_ ?_ _) | (with_reducible refine Below.drew ?_) | (with_reducible refine below_drewN ?_ _) | (with_reducible refine below_via ?_ (by with_reducible assumption) ?_) | omega | (simp; done) | (simp; omega)))))).mono ?_); intro e w3 hp; obtain ⟨A3, c3, rfl, hrd3, hb3⟩ := hp; have H3 := Lib.hid hrd3; clear hrd3; obtain ⟨fc3, fg3, hc3, hf3, hz3⟩ := bget hb3; (try simp at hz3)) | (go_at_call 35; (with_reducible refine (sameNums L A2 A3 c2 c3 _ (by omega) (H2.out.keep (by (repeat' (first | (with_reducible exact Below.refl _ _) | (with_reducible assumption) | (with_reducible refine Below.alloc ?_ ?_ _) | (with_reducible refine Below.setCell ?_ ?_ _) | (with_reducible refine Below.drew ?_) | (with_reducible refine below_drewN ?_ _) | (with_reducible refine below_via ?_ (by with_reducible assumption) ?_) | omega | (simp; done) | (simp; omega))))) (H3.out.keep (by (repeat' (first | (with_reducible exact Below.refl _ _) | (with_reducible assumption) | (with_reducible refine Below.alloc ?_ ?_ _) | (with_reducible refine Below.setCell ?_ ?_ _) | (with_reducible refine Below.drew ?_) | (with_reducible refine below_drewN ?_ _) | (with_reducible refine below_via ?_ (by with_reducible assumption) ?_) | omega | (simp; done) | (simp; omega)))))).mono ?_); rintro e w4 ⟨rfl, hb4⟩; obtain ⟨fc4, fg4, hc4, hf4, hz4⟩ := bget hb4; (try simp at hz4)) | (go_at_call 36; (with_reducible refine (law03lives _).mono ?_); rintro e w5 ⟨rfl, hb5⟩; obtain ⟨fc5, fg5, hc5, hf5, hz5⟩ := bget hb5; (try simp at hz5)) | fail)
  go_ret
  exact ⟨rfl, by (repeat' (first | (with_reducible exact Below.refl _ _) | (with_reducible assumption) | (with_reducible refine Below.alloc ?_ ?_ _) | (with_reducible refine Below.setCell ?_ ?_ _) | (with_reducible refine Below.drew ?_) | (with_reducible refine below_drewN ?_ _) | (with_reducible refine below_via ?_ (by with_reducible assumption) ?_) | omega | (simp; done) | (simp; omega)))⟩
set_option maxRecDepth 100000 in
set_option maxHeartbeats 8000000 in
theorem shareFillsW (l0 l L M : List Int) (T code code2 n : Int) (hL : L.length ≤ 1000) (hM : M.length ≤ 1000) (A : Option Addr) (c : Nat) (w : World) (hr0 : Rd w A 1 (l0.map encI)) (hr : Rd w A 1 (l.map encI))
    (cf : ∀ W, Rd W A 1 (l0.map encI) → Calls Try.prog 32 #[.slice A l0.length c] W fun e w' => e = .returned (.slice A l.length c) ∧ Below W.heap.size W w')
    (cs : ∀ W, Rd W A 1 (l.map encI) → Calls Try.prog 37 #[.int .i64 T, .slice A l.length c] W fun e w' => ∃ A2 c2, e = .returned (.tuple #[.slice A2 L.length c2, .int .i64 code]) ∧ Rd w' A2 1 (L.map encI) ∧ Below W.heap.size W w')
    (cr : ∀ W, Rd W A 1 (l.map encI) → Calls Try.prog 40 #[.int .i64 T, .slice A l.length c] W fun e w' => ∃ A2 c2, e = .returned (.tuple #[.slice A2 L.length c2, .int .i64 code]) ∧ Rd w' A2 1 (L.map encI) ∧ Below W.heap.size W w')
    (ct : ∀ W, Rd W A 1 (l.map encI) → Calls Try.prog 41 #[.int .i64 T, .slice A l.length c] W fun e w' => ∃ A2 c2, e = .returned (.tuple #[.slice A2 M.length c2, .int .i64 n, .int .i64 code2]) ∧ Rd w' A2 1 (M.map encI) ∧ Below W.heap.size W w')
    (cu : ∀ W, Rd W A 1 (l.map encI) → Calls Try.prog 42 #[.int .i64 T, .slice A l.length c] W fun e w' => ∃ A2 c2, e = .returned (.tuple #[.slice A2 M.length c2, .int .i64 n, .int .i64 code2]) ∧ Rd w' A2 1 (M.map encI) ∧ Below W.heap.size W w') :
    Calls Try.prog 10 #[.int .i64 T, .slice A l0.length c] w fun e w' => e = .returned (.bool true) ∧ Below w.heap.size w w' := by
  have HR0 := Lib.hid hr0
  have HR := Lib.hid hr
  have CF := Lib.hid cf
  have CS := Lib.hid cs
  have CR := Lib.hid cr
  have CT := Lib.hid ct
  have CU := Lib.hid cu
  clear hr0 hr cf cs cr ct cu
  go_enter Try.func10, Try.ntmps10
  go_wp2_with (first | (go_at_call 32; (with_reducible refine (CF.out _ (HR0.out.keep (by (repeat' (first | (with_reducible exact Below.refl _ _) | (with_reducible assumption) | (with_reducible refine Below.alloc ?_ ?_ _) | (with_reducible refine Below.setCell ?_ ?_ _) | (with_reducible refine Below.drew ?_) | (with_reducible refine below_drewN ?_ _) | (with_reducible refine below_via ?_ (by with_reducible assumption) ?_) | omega | (simp; done) | (simp; omega)))))).mono ?_); rintro e w1 ⟨rfl, hb1⟩; obtain ⟨fc1, fg1, hc1, hf1, hz1⟩ := bget hb1; (try simp at hz1)) | (go_at_call 37; (with_reducible refine (CS.out _ (HR.out.keep (by (repeat' (first | (with_reducible exact Below.refl _ _) | (with_reducible assumption) | (with_reducible refine Below.alloc ?_ ?_ _) | (with_reducible refine Below.setCell ?_ ?_ _) | (with_reducible refine Below.drew ?_) | (with_reducible refine below_drewN ?_ _) | (with_reducible refine below_via ?_ (by with_reducible assumption) ?_) | omega | (simp; done) | (simp; omega)))))).mono ?_); intro e w2 hp; obtain ⟨A2, c2, rfl, hrd2, hb2⟩ := hp; have H2 := Lib.hid hrd2; clear hrd2; obtain ⟨fc2, fg2, hc2, hf2, hz2⟩ := bget hb2; (try simp at hz2)) | (go_at_call 40; (with_reducible refine (CR.out _ (HR.out.keep (by (repeat' (first | (with_reducible exact Below.refl _ _) | (with_reducible assumption) | (with_reducible refine Below.alloc ?_ ?_ _) | (with_reducible refine Below.setCell ?_ ?_ _) | (with_reducible refine Below.drew ?_) | (with_reducible refine below_drewN ?_ _) | (with_reducible refine below_via ?_ (by with_reducible assumption) ?_) | omega | (simp; done) | (simp; omega)))))).mono ?_); intro e w3 hp; obtain ⟨A3, c3, rfl, hrd3, hb3⟩ := hp; have H3 := Lib.hid hrd3; clear hrd3; obtain ⟨fc3, fg3, hc3, hf3, hz3⟩ := bget hb3; (try simp at hz3)) | (go_at_call 41; (with_reducible refine (CT.out _ (HR.out.keep (by (repeat' (first | (with_reducible exact Below.refl _ _) | (with_reducible assumption) | (with_reducible refine Below.alloc ?_ ?_ _) | (with_reducible refine Below.setCell ?_ ?_ _) | (with_reducible refine Below.drew ?_) | (with_reducible refine below_drewN ?_ _) | (with_reducible refine below_via ?_ (by with_reducible assumption) ?_) | omega | (simp; done) | (simp; omega)))))).mono ?_); intro e w4 hp; obtain ⟨A4, c4, rfl, hrd4, hb4⟩ := hp; have H4 := Lib.hid hrd4; clear hrd4; obtain ⟨fc4, fg4, hc4, hf4, hz4⟩ := bget hb4; (try simp at hz4)) | (go_at_call 42; (with_reducible refine (CU.out _ (HR.out.keep (by (repeat' (first | (with_reducible exact Below.refl _ _) | (with_reducible assumption) | (with_reducible refine Below.alloc ?_ ?_ _) | (with_reducible refine Below.setCell ?_ ?_ _) | (with_reducible refine Below.drew ?_) | (with_reducible refine below_drewN ?_ _) | (with_reducible refine below_via ?_ (by with_reducible assumption) ?_) | omega | (simp; done) | (simp; omega)))))).mono ?_); intro e w5 hp; obtain ⟨A5, c5, rfl, hrd5, hb5⟩ := hp; have H5 := Lib.hid hrd5; clear hrd5; obtain ⟨fc5, fg5, hc5, hf5, hz5⟩ := bget hb5; (try simp at hz5)) | (go_at_call 35; (with_reducible refine (sameNums L A2 A3 c2 c3 _ (by omega) (H2.out.keep (by (repeat' (first | (with_reducible exact Below.refl _ _) | (with_reducible assumption) | (with_reducible refine Below.alloc ?_ ?_ _) | (with_reducible refine Below.setCell ?_ ?_ _) | (with_reducible refine Below.drew ?_) | (with_reducible refine below_drewN ?_ _) | (with_reducible refine below_via ?_ (by with_reducible assumption) ?_) | omega | (simp; done) | (simp; omega))))) (H3.out.keep (by (repeat' (first | (with_reducible exact Below.refl _ _) | (with_reducible assumption) | (with_reducible refine Below.alloc ?_ ?_ _) | (with_reducible refine Below.setCell ?_ ?_ _) | (with_reducible refine Below.drew ?_) | (with_reducible refine below_drewN ?_ _) | (with_reducible refine below_via ?_ (by with_reducible assumption) ?_) | omega | (simp; done) | (simp; omega)))))).mono ?_); rintro e w6 ⟨rfl, hb6⟩; obtain ⟨fc6, fg6, hc6, hf6, hz6⟩ := bget hb6; (try simp at hz6)) | (go_at_call 35; (with_reducible refine (sameNums M A4 A5 c4 c5 _ (by omega) (H4.out.keep (by (repeat' (first | (with_reducible exact Below.refl _ _) | (with_reducible assumption) | (with_reducible refine Below.alloc ?_ ?_ _) | (with_reducible refine Below.setCell ?_ ?_ _) | (with_reducible refine Below.drew ?_) | (with_reducible refine below_drewN ?_ _) | (with_reducible refine below_via ?_ (by with_reducible assumption) ?_) | omega | (simp; done) | (simp; omega))))) (H5.out.keep (by (repeat' (first | (with_reducible exact Below.refl _ _) | (with_reducible assumption) | (with_reducible refine Below.alloc ?_ ?_ _) | (with_reducible refine Below.setCell ?_ ?_ _) | (with_reducible refine Below.drew ?_) | (with_reducible refine below_drewN ?_ _) | (with_reducible refine below_via ?_ (by with_reducible assumption) ?_) | omega | (simp; done) | (simp; omega)))))).mono ?_); rintro e w7 ⟨rfl, hb7⟩; obtain ⟨fc7, fg7, hc7, hf7, hz7⟩ := bget hb7; (try simp at hz7)) | (go_at_call 36; (with_reducible refine (law03lives _).mono ?_); rintro e w8 ⟨rfl, hb8⟩; obtain ⟨fc8, fg8, hc8, hf8, hz8⟩ := bget hb8; (try simp at hz8)) | fail)
  go_ret
  exact ⟨rfl, by (repeat' (first | (with_reducible exact Below.refl _ _) | (with_reducible assumption) | (with_reducible refine Below.alloc ?_ ?_ _) | (with_reducible refine Below.setCell ?_ ?_ _) | (with_reducible refine Below.drew ?_) | (with_reducible refine below_drewN ?_ _) | (with_reducible refine below_via ?_ (by with_reducible assumption) ?_) | omega | (simp; done) | (simp; omega)))⟩
theorem shareSplits (l0 : List Int) (T : Int) (A : Option Addr) (c : Nat) (w : World) (hT : In64 T) (hin : ∀ x ∈ l0, In64 x) (hlc : l0.length ≤ c) (hcm : c ≤ maxLen) (hr : Rd w A 1 (l0.map encI)) :
    Calls Try.prog 7 #[.int .i64 T, .slice A l0.length c] w fun e w' => e = .returned (.bool true) ∧ Below w.heap.size w w' := by
  have hl : (l0.take 30).length ≤ 30 := (by rw [List.length_take]; omega)
  have hmin : ∀ x ∈ l0.take 30, In64 x := (fun x hx => hin x (List.mem_of_mem_take hx))
  exact shareSplitsW l0 (l0.take 30) (spL T (l0.take 30)) T (spC T (l0.take 30)) (by have := sp_le T (l0.take 30); omega) A c w hr (take30 hr 30) (fun W h => law03few l0 A c W hlc hcm h)
    (fun W h => Calls.mono (shrSplit T (l0.take 30) A c W (by omega) hT hmin h) fun e w' h => split_rd h) (fun W h => Calls.mono (refSplit T (l0.take 30) A c W (by omega) hT hmin h) fun e w' h => split_rd h)
theorem shareFills (l0 : List Int) (T : Int) (A : Option Addr) (c : Nat) (w : World) (hT : In64 T) (hin : ∀ x ∈ l0, In64 x) (hlc : l0.length ≤ c) (hcm : c ≤ maxLen) (hr : Rd w A 1 (l0.map encI)) :
    Calls Try.prog 10 #[.int .i64 T, .slice A l0.length c] w fun e w' => e = .returned (.bool true) ∧ Below w.heap.size w w' := by
  have hl : (l0.take 30).length ≤ 30 := (by rw [List.length_take]; omega)
  have hmin : ∀ x ∈ l0.take 30, In64 x := (fun x hx => hin x (List.mem_of_mem_take hx))
  exact shareFillsW l0 (l0.take 30) (fiL T (l0.take 30)) (tkL T (l0.take 30)) T (fiC T (l0.take 30)) (tkC T (l0.take 30)) (tkN T (l0.take 30)) (by have := fi_le T (l0.take 30); omega) (by have := tk_le T (l0.take 30); omega) A c w hr (take30 hr 30) (fun W h => law03few l0 A c W hlc hcm h)
    (fun W h => Calls.mono (shrFill T (l0.take 30) A c W (by omega) hT hmin h) fun e w' h => split_rd h) (fun W h => Calls.mono (refFill T (l0.take 30) A c W (by omega) hT hmin h) fun e w' h => split_rd h)
    (fun W h => Calls.mono (shrTakes T (l0.take 30) A c W (by omega) hT hmin h) fun e w' h => takes_rd h) (fun W h => Calls.mono (refTakes T (l0.take 30) A c W (by omega) hT hmin h) fun e w' h => takes_rd h)
end Go.Proofs.Ytenehpcliajdnaa

/- Layer 3's laws, plain: what parts are: each its quota or one more, none above its room, in all the whole. -/
namespace Go.Proofs.Ytenehpcliajdnaa
open Go.RowKit
/-- What a part is, beside its weight. -/
structure Part (T S x a : Int) : Prop where
  pos : 0 ≤ a
  top : a ≤ T
  nil : x = 0 → a = 0
  low : 0 < S → a * S - T * x < S
  high : 0 < S → T * x - a * S < S
  room : T ≤ S → a ≤ x
theorem part_quota {T S x a : Int} (hT : 0 ≤ T) (hS : 0 < S) (x0 : 0 ≤ x) (x1 : x ≤ S) (h : a = T * x / S ∨ (a = T * x / S + 1 ∧ 0 < T * x % S)) : Part T S x a := by
  have e1 := Int.mul_ediv_add_emod (T * x) S
  have e2 := Int.emod_nonneg (T * x) (show S ≠ 0 by omega)
  have e3 := Int.emod_lt_of_pos (T * x) hS
  have q0 : 0 ≤ T * x / S := Int.ediv_nonneg (Int.mul_nonneg hT x0) (by omega)
  rw [Int.mul_comm S] at e1
  have h4 : T * x ≤ T * S := Int.mul_le_mul_of_nonneg_left x1 hT
  have hz : x = 0 → T * x = 0 := fun h => by rw [h, Int.mul_zero]
  have hzq : x = 0 → T * x / S = 0 := fun h => by rw [hz h]; simp
  have hroom : T ≤ S → T * x ≤ x * S := fun h => by
    rw [Int.mul_comm x S]
    exact Int.mul_le_mul_of_nonneg_right h x0
  generalize T * x / S = q at *
  generalize T * x % S = r at *
  generalize hpe : T * x = p at *
  rcases h with rfl | ⟨rfl, hr⟩
  · exact {
      pos := q0
      top := Int.le_of_mul_le_mul_right (show a * S ≤ T * S by omega) hS
      nil := hzq
      low := fun _ => by rw [hpe]; omega
      high := fun _ => by rw [hpe]; omega
      room := fun h => Int.le_of_mul_le_mul_right (show a * S ≤ x * S by have := hroom h; omega) hS }
  · have h5 : (q + 1) * S = q * S + S := by rw [Int.add_mul]; omega
    exact {
      pos := by omega
      top := by
        have := Int.lt_of_mul_lt_mul_right (show q * S < T * S by omega) (by omega)
        omega
      nil := fun h => by have := hz h; have := hzq h; subst this; omega
      low := fun _ => by rw [hpe]; omega
      high := fun _ => by rw [hpe]; omega
      room := fun h => by
        have := Int.lt_of_mul_lt_mul_right (show q * S < x * S by have := hroom h; omega) (by omega)
        omega }
theorem sum_zeros (n : Nat) : (List.replicate n (0 : Int)).sum = 0 := by
  induction n with
  | zero => rfl
  | succ n ih => simp [List.replicate_succ, ih]
theorem sp_sum {T : Int} {l : List Int} (h : spC T l = 0) : (spL T l).sum = T := by
  obtain ⟨t0, t1, _, h4⟩ := sp_zero h
  unfold spL
  rw [if_pos h]
  by_cases h3 : T = 0
  · rw [if_pos h3, sum_zeros, h3]
  · rw [if_neg h3]
    exact (sp_props t0 (by omega) rfl).2.1
theorem sp_part {T : Int} {l : List Int} (h : spC T l = 0) {i : Nat} (hi : i < l.length) : Part T l.sum l[i] ((spL T l).getD i 0) := by
  obtain ⟨t0, t1, _, h4⟩ := sp_zero h
  have x0 := t1 l[i] (List.getElem_mem hi)
  have x1 := mem_le_sum t1 (List.getElem_mem hi)
  unfold spL
  rw [if_pos h]
  by_cases h3 : T = 0
  · rw [if_pos h3, List.getD_eq_getElem?_getD, List.getElem?_replicate, if_pos hi, h3]
    exact { pos := Int.le_refl _, top := Int.le_refl _, nil := fun _ => rfl, low := fun h => by simpa using h, high := fun h => by simpa using h, room := fun _ => by simpa using x0 }
  · rw [if_neg h3]
    exact part_quota t0 (by omega) x0 x1 ((sp_props t0 (by omega) rfl).2.2.1 i hi)
end Go.Proofs.Ytenehpcliajdnaa
