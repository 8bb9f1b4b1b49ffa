/- Joined: ShrL2, Shr6. -/
import Derived.Test.YtenehpcliajdnaaJz8
/- Layer 3's laws: ShareFair's walk. -/
namespace Go.Proofs.Ytenehpcliajdnaa
open Go.RowKit
theorem split_rd {L : List Int} {code : Int} {w w' : World} {e : Ending} (h : ∃ v, e = .returned (.tuple #[v, .int .i64 code]) ∧ Own w' w.heap.size 2 1 v (L.map encI) ∧ Below w.heap.size w w') : ∃ A c, e = .returned (.tuple #[.slice A L.length c, .int .i64 code]) ∧ Rd w' A 1 (L.map encI) ∧ Below w.heap.size w w' := by
  obtain ⟨v, rfl, hown, hb⟩ := h
  obtain ⟨A, c, hv, hrs, _⟩ := hown.rs
  rw [List.length_map] at hv
  subst hv
  exact ⟨A, c, rfl, hrs.rd, hb⟩
set_option maxRecDepth 100000 in
set_option maxHeartbeats 8000000 in
theorem shareFairBad (l0 l : List Int) (T code : Int) (hne : code ≠ 0) (A : Option Addr) (c : Nat) (w : World) (hr0 : Rd w A 1 (l0.map encI)) (hr : Rd w A 1 (l.map encI))
    (cf : ∀ W, Rd W A 1 (l0.map encI) → Calls Try.prog 32 #[.slice A l0.length c] W fun e w' => e = .returned (.slice A l.length c) ∧ Below W.heap.size W w')
    (cs : ∀ W, Rd W A 1 (l.map encI) → Calls Try.prog 33 #[.int .i64 T, .slice A l.length c] W fun e w' => ∃ A2 c2, e = .returned (.tuple #[.slice A2 0 c2, .int .i64 code]) ∧ Rd w' A2 1 ([].map encI) ∧ Below W.heap.size W w') :
    Calls Try.prog 8 #[.int .i64 T, .slice A l0.length c] w fun e w' => e = .returned (.bool true) ∧ Below w.heap.size w w' := by
  have HR0 := Lib.hid hr0
  have HR := Lib.hid hr
  have CF := Lib.hid cf
  have CS := Lib.hid cs
  have d1 : (code == 0) = false := by simpa using hne
  clear hr0 hr cf cs
  go_enter Try.func8, Try.ntmps8
  go_wp2_with (first | (go_at_call 32; (with_reducible refine (CF.out _ (HR0.out.keep (by (repeat' (first | (with_reducible exact Below.refl _ _) | (with_reducible assumption) | (with_reducible refine Below.alloc ?_ ?_ _) | (with_reducible refine Below.setCell ?_ ?_ _) | (with_reducible refine Below.drew ?_) | (with_reducible refine below_drewN ?_ _) | (with_reducible refine below_via ?_ (by with_reducible assumption) ?_) | omega | (simp; done) | (simp; omega)))))).mono ?_); rintro e w1 ⟨rfl, hb1⟩; obtain ⟨fc1, fg1, hc1, hf1, hz1⟩ := bget hb1; (try simp at hz1)) | (go_at_call 33; (with_reducible refine (CS.out _ (HR.out.keep (by (repeat' (first | (with_reducible exact Below.refl _ _) | (with_reducible assumption) | (with_reducible refine Below.alloc ?_ ?_ _) | (with_reducible refine Below.setCell ?_ ?_ _) | (with_reducible refine Below.drew ?_) | (with_reducible refine below_drewN ?_ _) | (with_reducible refine below_via ?_ (by with_reducible assumption) ?_) | omega | (simp; done) | (simp; omega)))))).mono ?_); intro e w2 hp; obtain ⟨A2, c2, rfl, hrd2, hb2⟩ := hp; have H2 := Lib.hid hrd2; clear hrd2; obtain ⟨fc2, fg2, hc2, hf2, hz2⟩ := bget hb2; (try simp at hz2)) | (go_at_call 36; (with_reducible refine (law03lives _).mono ?_); rintro e w3 ⟨rfl, hb3⟩; obtain ⟨fc3, fg3, hc3, hf3, hz3⟩ := bget hb3; (try simp at hz3)) | fail)
  go_ret
  exact ⟨rfl, by (repeat' (first | (with_reducible exact Below.refl _ _) | (with_reducible assumption) | (with_reducible refine Below.alloc ?_ ?_ _) | (with_reducible refine Below.setCell ?_ ?_ _) | (with_reducible refine Below.drew ?_) | (with_reducible refine below_drewN ?_ _) | (with_reducible refine below_via ?_ (by with_reducible assumption) ?_) | omega | (simp; done) | (simp; omega)))⟩
set_option maxRecDepth 100000 in
set_option maxHeartbeats 16000000 in
theorem shareFairOk (l0 l L : List Int) (T : Int) (hl : l.length ≤ 30) (hL : L.length = l.length) (hfair : ∀ i k (hi : i < l.length) (hk : k < l.length), (l[k] < l[i] ∨ (l[i] = l[k] ∧ i < k)) → L.getD k 0 ≤ L.getD i 0) (A : Option Addr) (c : Nat) (w : World) (hr0 : Rd w A 1 (l0.map encI)) (hr : Rd w A 1 (l.map encI))
    (cf : ∀ W, Rd W A 1 (l0.map encI) → Calls Try.prog 32 #[.slice A l0.length c] W fun e w' => e = .returned (.slice A l.length c) ∧ Below W.heap.size W w')
    (cs : ∀ W, Rd W A 1 (l.map encI) → Calls Try.prog 33 #[.int .i64 T, .slice A l.length c] W fun e w' => ∃ A2 c2, e = .returned (.tuple #[.slice A2 l.length c2, .int .i64 0]) ∧ Rd w' A2 1 (L.map encI) ∧ Below W.heap.size W w') :
    Calls Try.prog 8 #[.int .i64 T, .slice A l0.length c] w fun e w' => e = .returned (.bool true) ∧ Below w.heap.size w w' := by
  have HR0 := Lib.hid hr0
  have HR := Lib.hid hr
  have CF := Lib.hid cf
  have CS := Lib.hid cs
  have HF := Lib.hid hfair
  have HLL := Lib.hid hL
  clear hr0 hr cf cs hfair hL
  go_enter Try.func8, Try.ntmps8
  go_wp2_with (first | (go_at_call 32; (with_reducible refine (CF.out _ (HR0.out.keep (by (repeat' (first | (with_reducible exact Below.refl _ _) | (with_reducible assumption) | (with_reducible refine Below.alloc ?_ ?_ _) | (with_reducible refine Below.setCell ?_ ?_ _) | (with_reducible refine Below.drew ?_) | (with_reducible refine below_drewN ?_ _) | (with_reducible refine below_via ?_ (by with_reducible assumption) ?_) | omega | (simp; done) | (simp; omega)))))).mono ?_); rintro e w1 ⟨rfl, hb1⟩; obtain ⟨fc1, fg1, hc1, hf1, hz1⟩ := bget hb1; (try simp at hz1)) | (go_at_call 33; (with_reducible refine (CS.out _ (HR.out.keep (by (repeat' (first | (with_reducible exact Below.refl _ _) | (with_reducible assumption) | (with_reducible refine Below.alloc ?_ ?_ _) | (with_reducible refine Below.setCell ?_ ?_ _) | (with_reducible refine Below.drew ?_) | (with_reducible refine below_drewN ?_ _) | (with_reducible refine below_via ?_ (by with_reducible assumption) ?_) | omega | (simp; done) | (simp; omega)))))).mono ?_); intro e w2 hp; obtain ⟨A2, c2, rfl, hrd2, hb2⟩ := hp; have H2 := Lib.hid hrd2; clear hrd2; obtain ⟨fc2, fg2, hc2, hf2, hz2⟩ := bget hb2; (try simp at hz2)) | fail)
  have HbA := Lib.hid (show Below w.heap.size w w2 from by (repeat' (first | (with_reducible exact Below.refl _ _) | (with_reducible assumption) | (with_reducible refine Below.alloc ?_ ?_ _) | (with_reducible refine Below.setCell ?_ ?_ _) | (with_reducible refine Below.drew ?_) | (with_reducible refine below_drewN ?_ _) | (with_reducible refine below_via ?_ (by with_reducible assumption) ?_) | omega | (simp; done) | (simp; omega))))
  have HR2 := Lib.hid (HR.out.keep HbA.out)
  clear hb1 hc1 hf1 hz1 hb2 hc2 hf2 hz2 HR HR0
  go_loopw [7] (fun i wr => ∃ k : Nat, k ≤ l.length ∧ i = .int .i64 k ∧ ∃ n, wr = w2.drewN n) (fun i _ => l.length - (intOf i).toNat)
  case atStart => exact ⟨0, Nat.zero_le _, rfl, 0, rfl⟩
  case round =>
    obtain ⟨k, hk, rfl, nn, rfl⟩ := hrel
    by_cases hlt : k < l.length
    · have kl : (k : Int) < (l.length : Int) := by omega
      have dl : decide ((k : Int) < (l.length : Int)) = true := by simpa using hlt
      go_wp2_with fail
      go_loopw [8] (fun i wr => ∃ j : Nat, j ≤ l.length ∧ i = .int .i64 j ∧ ∃ n, wr = w2.drewN n) (fun i _ => l.length - (intOf i).toNat)
      case atStart => exact ⟨0, Nat.zero_le _, rfl, nn, rfl⟩
      case round =>
        obtain ⟨j, hj, rfl, mm, rfl⟩ := hrel
        by_cases hjl : j < l.length
        · have jl : (j : Int) < (l.length : Int) := by omega
          have dj : decide ((j : Int) < (l.length : Int)) = true := by simpa using hjl
          obtain ⟨b, o, rfl, hb, hc⟩ := HR2.out k (encI l[k]) (by simp [hlt])
          obtain ⟨b', o', he, hb', hc'⟩ := HR2.out j (encI l[j]) (by simp [hjl])
          obtain ⟨rfl, rfl⟩ : b' = b ∧ o' = o := by injection he with he; injection he with h1 h2; exact ⟨h1.symm, h2.symm⟩
          have hkL : k < L.length := by rw [HLL.out]; exact hlt
          have hjL : j < L.length := by rw [HLL.out]; exact hjl
          obtain ⟨b2, o2, rfl, hb2, hc2⟩ := H2.out k (encI L[k]) (by simp [hkL])
          obtain ⟨b2', o2', he2, hb2', hc2'⟩ := H2.out j (encI L[j]) (by simp [hjL])
          obtain ⟨rfl, rfl⟩ : b2' = b2 ∧ o2' = o2 := by injection he2 with he; injection he with h1 h2; exact ⟨h1.symm, h2.symm⟩
          have e0 := hc 0 _ rfl
          have e1 := hc' 0 _ rfl
          have e2 := hc2 0 _ rfl
          have e3 := hc2' 0 _ rfl
          simp only [Nat.add_zero, Nat.mul_one] at e0 e1 e2 e3
          have f1 := HF.out k j hlt hjl
          rw [List.getD_eq_getElem?_getD, List.getD_eq_getElem?_getD, List.getElem?_eq_getElem hkL, List.getElem?_eq_getElem hjL] at f1
          have F1 := Lib.hid (show (l[j] < l[k] ∨ (l[k] = l[j] ∧ k < j)) → L[j] ≤ L[k] from f1)
          clear hc hc' hc2 hc2' he he2 f1
          obtain ⟨x, hx⟩ : ∃ x, x = l[k] := ⟨_, rfl⟩
          obtain ⟨y, hy⟩ : ∃ y, y = l[j] := ⟨_, rfl⟩
          obtain ⟨u, hu⟩ : ∃ u, u = L[k] := ⟨_, rfl⟩
          obtain ⟨v, hv⟩ : ∃ v, v = L[j] := ⟨_, rfl⟩
          rw [← hx] at e0 F1
          rw [← hy] at e1 F1
          rw [← hu] at e2 F1
          rw [← hv] at e3 F1
          clear hx hy hu hv
          by_cases hxy : y < x
          · have c1 : decide (y < x) = true := by simpa using hxy
            have c2 : (x == y) = false := by simp; omega
            have c3 : decide (u < v) = false := by have := F1.out (.inl hxy); simp; omega
            go_wp2_with fail
            go_quiet (fail)
            go_wp2_with fail
            go_roundw
            case rel => exact ⟨j + 1, by omega, by go_num, _, rfl⟩
            case measure => (simp [intOf]; omega)
          · have c1 : decide (y < x) = false := by simpa using hxy
            by_cases hxe : x = y
            · have c2 : (x == y) = true := by simpa using hxe
              by_cases hkj : k < j
              · have c4 : decide ((k : Int) < (j : Int)) = true := by simpa using hkj
                have c3 : decide (u < v) = false := by have := F1.out (.inr ⟨hxe, hkj⟩); simp; omega
                clear hxe
                go_wp2_with fail
                go_quiet (fail)
                go_wp2_with fail
                go_roundw
                case rel => exact ⟨j + 1, by omega, by go_num, _, rfl⟩
                case measure => (simp [intOf]; omega)
              · have c4 : decide ((k : Int) < (j : Int)) = false := by simpa using hkj
                clear hxe
                go_wp2_with fail
                go_quiet (fail)
                go_wp2_with fail
                go_roundw
                case rel => exact ⟨j + 1, by omega, by go_num, _, rfl⟩
                case measure => (simp [intOf]; omega)
            · have c2 : (x == y) = false := by simpa using hxe
              go_wp2_with fail
              go_quiet (fail)
              go_wp2_with fail
              go_roundw
              case rel => exact ⟨j + 1, by omega, by go_num, _, rfl⟩
              case measure => (simp [intOf]; omega)
        · have dj : decide ((j : Int) < (l.length : Int)) = false := by simpa using hjl
          go_wp2_with fail
          go_roundw
          case rel => exact ⟨k + 1, by omega, by go_num, _, rfl⟩
          case measure => simp [intOf]; omega
    · have dl : decide ((k : Int) < (l.length : Int)) = false := by simpa using hlt
      go_wp2_with (first | (go_at_call 36; (with_reducible refine (law03lives _).mono ?_); rintro e w3 ⟨rfl, hb3⟩; obtain ⟨fc3, fg3, hc3, hf3, hz3⟩ := bget hb3; (try simp at hz3)) | fail)
      go_ret
      exact ⟨rfl, by have h1 := below_drewN HbA.out nn; have hz := h1.size; (repeat' (first | (with_reducible exact Below.refl _ _) | (with_reducible assumption) | (with_reducible refine Below.alloc ?_ ?_ _) | (with_reducible refine Below.setCell ?_ ?_ _) | (with_reducible refine Below.drew ?_) | (with_reducible refine below_drewN ?_ _) | (with_reducible refine below_via ?_ (by with_reducible assumption) ?_) | omega | (simp; done) | (simp; omega)))⟩
theorem take30 {w : World} {l : List Int} {A : Option Addr} (h : Rd w A 1 (l.map encI)) (n : Nat) : Rd w A 1 ((l.take n).map encI) := by
  intro i r hr
  rw [List.map_take, List.getElem?_take] at hr
  split at hr
  · exact h i r hr
  · cases hr
theorem shareFair (l0 : List Int) (T : Int) (A : Option Addr) (c : Nat) (w : World) (hT : In64 T) (hin : ∀ x ∈ l0, In64 x) (hlc : l0.length ≤ c) (hcm : c ≤ maxLen) (hr : Rd w A 1 (l0.map encI)) :
    Calls Try.prog 8 #[.int .i64 T, .slice A l0.length c] w fun e w' => e = .returned (.bool true) ∧ Below w.heap.size w w' := by
  have hl : (l0.take 30).length ≤ 30 := by rw [List.length_take]; omega
  have hmin : ∀ x ∈ l0.take 30, In64 x := fun x hx => hin x (List.mem_of_mem_take hx)
  have cs := fun W (h : Rd W A 1 ((l0.take 30).map encI)) => shrSplit T (l0.take 30) A c W (by omega) hT hmin h
  by_cases h0 : spC T (l0.take 30) = 0
  · have hln := sp_len h0
    refine shareFairOk l0 (l0.take 30) (spL T (l0.take 30)) T hl hln (fun i k hi hk ho => sp_fair h0 hi hk ho) A c w hr (take30 hr 30) (fun W h => law03few l0 A c W hlc hcm h) (fun W h => Calls.mono (cs W h) ?_)
    intro e w' h
    obtain ⟨A2, c2, he, h1, h2⟩ := split_rd h
    rw [hln, h0] at he
    exact ⟨A2, c2, he, h1, h2⟩
  · have hnl : spL T (l0.take 30) = [] := by unfold spL; rw [if_neg h0]
    refine shareFairBad l0 (l0.take 30) T (spC T (l0.take 30)) h0 A c w hr (take30 hr 30) (fun W h => law03few l0 A c W hlc hcm h) (fun W h => Calls.mono (cs W h) ?_)
    intro e w' h
    obtain ⟨A2, c2, he, h1, h2⟩ := split_rd h
    rw [hnl] at he h1
    exact ⟨A2, c2, he, h1, h2⟩
end Go.Proofs.Ytenehpcliajdnaa

/- Shares: contracts of share.Fill, of the reference's why and Takes. -/
namespace Go.Proofs.Ytenehpcliajdnaa
open Go.RowKit
def fiC (T : Int) (l : List Int) : Int := if rightS T l = true then (if in64 l.sum = true then (if l.sum < T then 10 else 0) else 7) else 2
def fiL (T : Int) (l : List Int) : List Int := if fiC T l = 0 then spL T l else []
theorem fi_sp {T : Int} {l : List Int} (h : fiC T l = 0) : spC T l = 0 ∧ rightS T l = true ∧ T ≤ l.sum := by
  unfold fiC at h
  cases h1 : rightS T l
  · rw [h1] at h; simp at h
  rw [h1] at h
  cases h2 : in64 l.sum
  · rw [h2] at h; simp at h
  rw [h2] at h
  simp only [if_true] at h
  obtain ⟨t0, t1⟩ := right_iff.1 h1
  by_cases h3 : l.sum < T
  · rw [if_pos h3] at h; omega
  refine ⟨?_, rfl, by omega⟩
  unfold spC
  rw [h1, h2]
  simp only [if_true]
  by_cases h4 : T = 0
  · rw [if_pos h4]
  · rw [if_neg h4, if_neg (by omega)]
set_option maxRecDepth 100000 in
set_option maxHeartbeats 8000000 in
theorem shrFill (T : Int) (l : List Int) (A : Option Addr) (c : Nat) (w : World) (hl : l.length ≤ 1000000) (hT : In64 T) (hin : ∀ x ∈ l, In64 x) (hr : Rd w A 1 (l.map encI)) :
    Calls Try.prog 37 #[.int .i64 T, .slice A l.length c] w fun e w' => ∃ v, e = .returned (.tuple #[v, .int .i64 (fiC T l)]) ∧ Own w' w.heap.size 2 1 v ((fiL T l).map encI) ∧ Below w.heap.size w w' := by
  have HR := Lib.hid hr
  have c1 := fun W h => shrRight T l A c W hl h
  have c3 := fun W h => shrSplit T l A c W hl hT hin h
  clear hr
  cases h1 : rightS T l
  · have HC := Lib.hid (show fiC T l = 2 from by unfold fiC; rw [h1]; rfl)
    have HL := Lib.hid (show fiL T l = [] from by unfold fiL; rw [HC.out]; rfl)
    rw [h1] at c1
    have C1 := Lib.hid c1
    clear c1 h1 c3
    go_enter Try.func37, Try.ntmps37
    go_wp2_with (first | (go_at_call 61; (with_reducible refine (C1.out _ (HR.out.keep (by (repeat' (first | (with_reducible exact Below.refl _ _) | (with_reducible assumption) | (with_reducible refine Below.alloc ?_ ?_ _) | (with_reducible refine Below.setCell ?_ ?_ _) | (with_reducible refine Below.drew ?_) | (with_reducible refine below_drewN ?_ _) | (with_reducible refine below_via ?_ (by with_reducible assumption) ?_) | omega | (simp; done) | (simp; omega)))))).mono ?_); rintro e w1 ⟨rfl, hb1⟩; obtain ⟨fc1, fg1, hc1, hf1, hz1⟩ := bget hb1; (try simp at hz1)) | fail)
    go_ret2
    exact ⟨_, by rw [HC.out]; rfl, by rw [HL.out]; exact Own.nil _ _ _ _, by (repeat' (first | (with_reducible exact Below.refl _ _) | (with_reducible assumption) | (with_reducible refine Below.alloc ?_ ?_ _) | (with_reducible refine Below.setCell ?_ ?_ _) | (with_reducible refine Below.drew ?_) | (with_reducible refine below_drewN ?_ _) | (with_reducible refine below_via ?_ (by with_reducible assumption) ?_) | omega | (simp; done) | (simp; omega)))⟩
  have HCD := Lib.hid (show fiC T l = (if in64 l.sum = true then (if l.sum < T then 10 else 0) else 7) from by unfold fiC; rw [h1]; rfl)
  rw [h1] at c1
  have C1 := Lib.hid c1
  clear c1 h1
  cases h2 : in64 l.sum
  · have HC := Lib.hid (show fiC T l = 7 from by rw [HCD.out, h2]; rfl)
    have HL := Lib.hid (show fiL T l = [] from by unfold fiL; rw [HC.out]; rfl)
    have C2 := Lib.hid (fun W h => fixSumNo l A c W (by omega) hin h (fun hs => by rw [in64_iff.2 hs] at h2; cases h2))
    clear h2 HCD c3
    go_enter Try.func37, Try.ntmps37
    go_wp2_with (first | (go_at_call 61; (with_reducible refine (C1.out _ (HR.out.keep (by (repeat' (first | (with_reducible exact Below.refl _ _) | (with_reducible assumption) | (with_reducible refine Below.alloc ?_ ?_ _) | (with_reducible refine Below.setCell ?_ ?_ _) | (with_reducible refine Below.drew ?_) | (with_reducible refine below_drewN ?_ _) | (with_reducible refine below_via ?_ (by with_reducible assumption) ?_) | omega | (simp; done) | (simp; omega)))))).mono ?_); rintro e w1 ⟨rfl, hb1⟩; obtain ⟨fc1, fg1, hc1, hf1, hz1⟩ := bget hb1; (try simp at hz1)) | (go_at_call 57; (with_reducible refine (C2.out _ (HR.out.keep (by (repeat' (first | (with_reducible exact Below.refl _ _) | (with_reducible assumption) | (with_reducible refine Below.alloc ?_ ?_ _) | (with_reducible refine Below.setCell ?_ ?_ _) | (with_reducible refine Below.drew ?_) | (with_reducible refine below_drewN ?_ _) | (with_reducible refine below_via ?_ (by with_reducible assumption) ?_) | omega | (simp; done) | (simp; omega)))))).mono ?_); rintro e w2 ⟨rfl, hb2⟩; obtain ⟨fc2, fg2, hc2, hf2, hz2⟩ := bget hb2; (try simp at hz2)) | fail)
    go_ret2
    exact ⟨_, by rw [HC.out]; rfl, by rw [HL.out]; exact Own.nil _ _ _ _, by (repeat' (first | (with_reducible exact Below.refl _ _) | (with_reducible assumption) | (with_reducible refine Below.alloc ?_ ?_ _) | (with_reducible refine Below.setCell ?_ ?_ _) | (with_reducible refine Below.drew ?_) | (with_reducible refine below_drewN ?_ _) | (with_reducible refine below_via ?_ (by with_reducible assumption) ?_) | omega | (simp; done) | (simp; omega)))⟩
  have hs64 := in64_iff.1 h2
  have C2 := Lib.hid (fun W h => fixSumYes l A c W (by omega) hin h hs64)
  by_cases h3 : l.sum < T
  · have HC := Lib.hid (show fiC T l = 10 from by rw [HCD.out, h2, if_pos rfl, if_pos h3])
    have HL := Lib.hid (show fiL T l = [] from by unfold fiL; rw [HC.out]; rfl)
    have d3 : decide (l.sum < T) = true := by simpa using h3
    clear h3 h2 HCD c3
    generalize l.sum = S at *
    go_enter Try.func37, Try.ntmps37
    go_wp2_with (first | (go_at_call 61; (with_reducible refine (C1.out _ (HR.out.keep (by (repeat' (first | (with_reducible exact Below.refl _ _) | (with_reducible assumption) | (with_reducible refine Below.alloc ?_ ?_ _) | (with_reducible refine Below.setCell ?_ ?_ _) | (with_reducible refine Below.drew ?_) | (with_reducible refine below_drewN ?_ _) | (with_reducible refine below_via ?_ (by with_reducible assumption) ?_) | omega | (simp; done) | (simp; omega)))))).mono ?_); rintro e w1 ⟨rfl, hb1⟩; obtain ⟨fc1, fg1, hc1, hf1, hz1⟩ := bget hb1; (try simp at hz1)) | (go_at_call 57; (with_reducible refine (C2.out _ (HR.out.keep (by (repeat' (first | (with_reducible exact Below.refl _ _) | (with_reducible assumption) | (with_reducible refine Below.alloc ?_ ?_ _) | (with_reducible refine Below.setCell ?_ ?_ _) | (with_reducible refine Below.drew ?_) | (with_reducible refine below_drewN ?_ _) | (with_reducible refine below_via ?_ (by with_reducible assumption) ?_) | omega | (simp; done) | (simp; omega)))))).mono ?_); rintro e w2 ⟨rfl, hb2⟩; obtain ⟨fc2, fg2, hc2, hf2, hz2⟩ := bget hb2; (try simp at hz2)) | fail)
    go_ret2
    exact ⟨_, by rw [HC.out]; rfl, by rw [HL.out]; exact Own.nil _ _ _ _, by (repeat' (first | (with_reducible exact Below.refl _ _) | (with_reducible assumption) | (with_reducible refine Below.alloc ?_ ?_ _) | (with_reducible refine Below.setCell ?_ ?_ _) | (with_reducible refine Below.drew ?_) | (with_reducible refine below_drewN ?_ _) | (with_reducible refine below_via ?_ (by with_reducible assumption) ?_) | omega | (simp; done) | (simp; omega)))⟩
  have d3 : decide (l.sum < T) = false := by simpa using h3
  have hc0 : fiC T l = 0 := by rw [HCD.out, h2, if_pos rfl, if_neg h3]
  have HC := Lib.hid hc0
  have HL := Lib.hid (show fiL T l = spL T l from by unfold fiL; rw [if_pos hc0])
  rw [(fi_sp hc0).1] at c3
  have C3 := Lib.hid c3
  clear h3 h2 HCD c3 hc0
  generalize l.sum = S at *
  go_enter Try.func37, Try.ntmps37
  go_wp2_with (first | (go_at_call 61; (with_reducible refine (C1.out _ (HR.out.keep (by (repeat' (first | (with_reducible exact Below.refl _ _) | (with_reducible assumption) | (with_reducible refine Below.alloc ?_ ?_ _) | (with_reducible refine Below.setCell ?_ ?_ _) | (with_reducible refine Below.drew ?_) | (with_reducible refine below_drewN ?_ _) | (with_reducible refine below_via ?_ (by with_reducible assumption) ?_) | omega | (simp; done) | (simp; omega)))))).mono ?_); rintro e w1 ⟨rfl, hb1⟩; obtain ⟨fc1, fg1, hc1, hf1, hz1⟩ := bget hb1; (try simp at hz1)) | (go_at_call 57; (with_reducible refine (C2.out _ (HR.out.keep (by (repeat' (first | (with_reducible exact Below.refl _ _) | (with_reducible assumption) | (with_reducible refine Below.alloc ?_ ?_ _) | (with_reducible refine Below.setCell ?_ ?_ _) | (with_reducible refine Below.drew ?_) | (with_reducible refine below_drewN ?_ _) | (with_reducible refine below_via ?_ (by with_reducible assumption) ?_) | omega | (simp; done) | (simp; omega)))))).mono ?_); rintro e w2 ⟨rfl, hb2⟩; obtain ⟨fc2, fg2, hc2, hf2, hz2⟩ := bget hb2; (try simp at hz2)) | (go_at_call 33; (with_reducible refine (C3.out _ (HR.out.keep (by (repeat' (first | (with_reducible exact Below.refl _ _) | (with_reducible assumption) | (with_reducible refine Below.alloc ?_ ?_ _) | (with_reducible refine Below.setCell ?_ ?_ _) | (with_reducible refine Below.drew ?_) | (with_reducible refine below_drewN ?_ _) | (with_reducible refine below_via ?_ (by with_reducible assumption) ?_) | omega | (simp; done) | (simp; omega)))))).mono ?_); rintro e w3 ⟨v3, rfl, hown3, hb3⟩; have HQ := Lib.hid hown3; clear hown3; obtain ⟨fc3, fg3, hc3, hf3, hz3⟩ := bget hb3; (try simp at hz3)) | fail)
  go_ret2
  exact ⟨_, by rw [HC.out]; rfl, by rw [HL.out]; exact HQ.out.mono (by omega), by (repeat' (first | (with_reducible exact Below.refl _ _) | (with_reducible assumption) | (with_reducible refine Below.alloc ?_ ?_ _) | (with_reducible refine Below.setCell ?_ ?_ _) | (with_reducible refine Below.drew ?_) | (with_reducible refine below_drewN ?_ _) | (with_reducible refine below_via ?_ (by with_reducible assumption) ?_) | omega | (simp; done) | (simp; omega)))⟩
set_option maxRecDepth 100000 in
set_option maxHeartbeats 8000000 in
theorem refWhy (T : Int) (l : List Int) (A : Option Addr) (c : Nat) (w : World) (hl : l.length ≤ 40) (hin : ∀ x ∈ l, In64 x) (hr : Rd w A 1 (l.map encI)) :
    Calls Try.prog 65 #[.int .i64 T, .slice A l.length c] w fun e w' => e = .returned (.int .i64 (whyS T l)) ∧ Below w.heap.size w w' := by
  have HR := Lib.hid hr
  have C1 := Lib.hid (fun W h => refSum l A c W hl hin h)
  clear hr
  by_cases h0 : T < 0
  · have d0 : decide (T < 0) = true := by simpa using h0
    have HC := Lib.hid (show whyS T l = 2 from by unfold whyS rightS; rw [show decide (0 ≤ T) = false from by simp; omega]; rfl)
    go_enter Try.func65, Try.ntmps65
    go_wp2_with fail
    go_ret
    exact ⟨by rw [HC.out]; rfl, by (repeat' (first | (with_reducible exact Below.refl _ _) | (with_reducible assumption) | (with_reducible refine Below.alloc ?_ ?_ _) | (with_reducible refine Below.setCell ?_ ?_ _) | (with_reducible refine Below.drew ?_) | (with_reducible refine below_drewN ?_ _) | (with_reducible refine below_via ?_ (by with_reducible assumption) ?_) | omega | (simp; done) | (simp; omega)))⟩
  have d0 : decide (T < 0) = false := by simpa using h0
  go_enter Try.func65, Try.ntmps65
  go_wp2_with fail
  go_loopw [5] (fun i wr => ∃ k : Nat, k ≤ l.length ∧ i = .int .i64 k ∧ (∀ x ∈ l.take k, 0 ≤ x) ∧ Below w.heap.size w wr) (fun i _ => l.length - (intOf i).toNat)
  case atStart => exact ⟨0, Nat.zero_le _, rfl, by simp, by (repeat' (first | (with_reducible exact Below.refl _ _) | (with_reducible assumption) | (with_reducible refine Below.alloc ?_ ?_ _) | (with_reducible refine Below.setCell ?_ ?_ _) | (with_reducible refine Below.drew ?_) | (with_reducible refine below_drewN ?_ _) | (with_reducible refine below_via ?_ (by with_reducible assumption) ?_) | omega | (simp; done) | (simp; omega)))⟩
  case round =>
    obtain ⟨k, hk, rfl, hpos, hbl⟩ := hrel
    have HPOS := Lib.hid hpos
    have Hbl := Lib.hid hbl
    have hz := hbl.size
    clear hpos hbl
    by_cases hlt : k < l.length
    · have kl : (k : Int) < (l.length : Int) := by omega
      have dl : decide ((k : Int) < (l.length : Int)) = true := by simpa using hlt
      obtain ⟨b, o, rfl, hb, hc⟩ := HR.out k (encI l[k]) (by simp [hlt])
      have e0 := (Hbl.out.cell (p := ⟨b, o + k * 1 + 0, none⟩) hb).trans (hc 0 _ rfl)
      simp only [Nat.add_zero, Nat.mul_one] at e0
      have hbw : b < wr.heap.size := by omega
      clear hc
      by_cases hx : l[k] < 0
      · have dx : decide (l[k] < 0) = true := by simpa using hx
        have HC := Lib.hid (show whyS T l = 2 from by
          unfold whyS
          cases h : rightS T l
          · rfl
          · exact absurd ((right_iff.1 h).2 _ (List.getElem_mem hlt)) (by omega))
        go_wp2_with fail
        go_ret
        exact ⟨by rw [HC.out]; rfl, by have hbl := Hbl.out; (repeat' (first | (with_reducible exact Below.refl _ _) | (with_reducible assumption) | (with_reducible refine Below.alloc ?_ ?_ _) | (with_reducible refine Below.setCell ?_ ?_ _) | (with_reducible refine Below.drew ?_) | (with_reducible refine below_drewN ?_ _) | (with_reducible refine below_via ?_ (by with_reducible assumption) ?_) | omega | (simp; done) | (simp; omega)))⟩
      · have dx : decide (l[k] < 0) = false := by simpa using hx
        have HN := Lib.hid (show ∀ x ∈ l.take (k + 1), 0 ≤ x from fun x hxm => by
          rw [List.take_succ_eq_append_getElem hlt] at hxm
          rcases List.mem_append.1 hxm with h | h
          · exact HPOS.out x h
          · simp at h; rw [h]; omega)
        go_wp2_with fail
        go_roundw
        case rel => exact ⟨k + 1, by omega, by go_num, HN.out, by have hbl := Hbl.out; (repeat' (first | (with_reducible exact Below.refl _ _) | (with_reducible assumption) | (with_reducible refine Below.alloc ?_ ?_ _) | (with_reducible refine Below.setCell ?_ ?_ _) | (with_reducible refine Below.drew ?_) | (with_reducible refine below_drewN ?_ _) | (with_reducible refine below_via ?_ (by with_reducible assumption) ?_) | omega | (simp; done) | (simp; omega)))⟩
        case measure => simp [intOf]; omega
    · have dl : decide ((k : Int) < (l.length : Int)) = false := by simpa using hlt
      have hpos := HPOS.out
      rw [List.take_of_length_le (by omega)] at hpos
      have hright : rightS T l = true := right_iff.2 ⟨by omega, hpos⟩
      have HCD := Lib.hid (show whyS T l = (if in64 l.sum = true then 0 else 7) from by unfold whyS; rw [if_pos hright])
      have HRW := Lib.hid (HR.out.keep (Hbl.out))
      clear hpos hright HPOS
      cases h2 : in64 l.sum
      · have HC := Lib.hid (show whyS T l = 7 from by rw [HCD.out, h2]; rfl)
        have HF := Lib.hid h2
        clear HCD h2
        go_wp2_with (first | (go_at_call 38; (with_reducible refine (C1.out _ (HRW.out.keep (by (repeat' (first | (with_reducible exact Below.refl _ _) | (with_reducible assumption) | (with_reducible refine Below.alloc ?_ ?_ _) | (with_reducible refine Below.setCell ?_ ?_ _) | (with_reducible refine Below.drew ?_) | (with_reducible refine below_drewN ?_ _) | (with_reducible refine below_via ?_ (by with_reducible assumption) ?_) | omega | (simp; done) | (simp; omega)))))).mono ?_); rintro e w1 ⟨s1, A1, l1, c1, rfl, hB1, hl1, hb1⟩; have HB1 := Lib.hid hB1; clear hB1; obtain ⟨fc1, fg1, hc1, hf1, hz1⟩ := bget hb1; (try simp at hz1)) | (go_at_call 54; (with_reducible refine (bigFits l.sum s1 l1 A1 c1 200 _ (by omega) (by omega) (HB1.out.keep (by (repeat' (first | (with_reducible exact Below.refl _ _) | (with_reducible assumption) | (with_reducible refine Below.alloc ?_ ?_ _) | (with_reducible refine Below.setCell ?_ ?_ _) | (with_reducible refine Below.drew ?_) | (with_reducible refine below_drewN ?_ _) | (with_reducible refine below_via ?_ (by with_reducible assumption) ?_) | omega | (simp; done) | (simp; omega)))))).mono ?_); rw [HF.out]; rintro e w2 ⟨rfl, hb2⟩; obtain ⟨fc2, fg2, hc2, hf2, hz2⟩ := bget hb2; (try simp at hz2)) | fail)
        go_ret
        exact ⟨by rw [HC.out]; rfl, by have hbl := Hbl.out; (repeat' (first | (with_reducible exact Below.refl _ _) | (with_reducible assumption) | (with_reducible refine Below.alloc ?_ ?_ _) | (with_reducible refine Below.setCell ?_ ?_ _) | (with_reducible refine Below.drew ?_) | (with_reducible refine below_drewN ?_ _) | (with_reducible refine below_via ?_ (by with_reducible assumption) ?_) | omega | (simp; done) | (simp; omega)))⟩
      · have HC := Lib.hid (show whyS T l = 0 from by rw [HCD.out, h2]; rfl)
        have HF := Lib.hid h2
        clear HCD h2
        go_wp2_with (first | (go_at_call 38; (with_reducible refine (C1.out _ (HRW.out.keep (by (repeat' (first | (with_reducible exact Below.refl _ _) | (with_reducible assumption) | (with_reducible refine Below.alloc ?_ ?_ _) | (with_reducible refine Below.setCell ?_ ?_ _) | (with_reducible refine Below.drew ?_) | (with_reducible refine below_drewN ?_ _) | (with_reducible refine below_via ?_ (by with_reducible assumption) ?_) | omega | (simp; done) | (simp; omega)))))).mono ?_); rintro e w1 ⟨s1, A1, l1, c1, rfl, hB1, hl1, hb1⟩; have HB1 := Lib.hid hB1; clear hB1; obtain ⟨fc1, fg1, hc1, hf1, hz1⟩ := bget hb1; (try simp at hz1)) | (go_at_call 54; (with_reducible refine (bigFits l.sum s1 l1 A1 c1 200 _ (by omega) (by omega) (HB1.out.keep (by (repeat' (first | (with_reducible exact Below.refl _ _) | (with_reducible assumption) | (with_reducible refine Below.alloc ?_ ?_ _) | (with_reducible refine Below.setCell ?_ ?_ _) | (with_reducible refine Below.drew ?_) | (with_reducible refine below_drewN ?_ _) | (with_reducible refine below_via ?_ (by with_reducible assumption) ?_) | omega | (simp; done) | (simp; omega)))))).mono ?_); rw [HF.out]; rintro e w2 ⟨rfl, hb2⟩; obtain ⟨fc2, fg2, hc2, hf2, hz2⟩ := bget hb2; (try simp at hz2)) | fail)
        go_ret
        exact ⟨by rw [HC.out]; rfl, by have hbl := Hbl.out; (repeat' (first | (with_reducible exact Below.refl _ _) | (with_reducible assumption) | (with_reducible refine Below.alloc ?_ ?_ _) | (with_reducible refine Below.setCell ?_ ?_ _) | (with_reducible refine Below.drew ?_) | (with_reducible refine below_drewN ?_ _) | (with_reducible refine below_via ?_ (by with_reducible assumption) ?_) | omega | (simp; done) | (simp; omega)))⟩
theorem why_two {T : Int} {l : List Int} : (whyS T l == 2) = !rightS T l := by
  unfold whyS
  cases rightS T l <;> cases in64 l.sum <;> rfl
set_option maxRecDepth 100000 in
set_option maxHeartbeats 8000000 in
theorem refTakes (T : Int) (l : List Int) (A : Option Addr) (c : Nat) (w : World) (hl : l.length ≤ 40) (hT : In64 T) (hin : ∀ x ∈ l, In64 x) (hr : Rd w A 1 (l.map encI)) :
    Calls Try.prog 42 #[.int .i64 T, .slice A l.length c] w fun e w' => ∃ v, e = .returned (.tuple #[v, .int .i64 (tkN T l), .int .i64 (tkC T l)]) ∧ Own w' w.heap.size 2 1 v ((tkL T l).map encI) ∧ Below w.heap.size w w' := by
  have HR := Lib.hid hr
  have C1 := Lib.hid (fun W h => refWhy T l A c W hl hin h)
  have hw2 := why_two (T := T) (l := l)
  clear hr hin
  cases h : rightS T l
  · have HN := Lib.hid (show tkN T l = 0 from by unfold tkN; rw [h]; rfl)
    have HC := Lib.hid (show tkC T l = 2 from by unfold tkC; rw [h]; rfl)
    have HL := Lib.hid (show tkL T l = [] from by unfold tkL; rw [h]; rfl)
    rw [h] at hw2
    simp only [Bool.not_false] at hw2
    generalize whyS T l = wh at *
    clear h
    go_enter Try.func42, Try.ntmps42
    go_wp2_with (first | (go_at_call 65; (with_reducible refine (C1.out _ (HR.out.keep (by (repeat' (first | (with_reducible exact Below.refl _ _) | (with_reducible assumption) | (with_reducible refine Below.alloc ?_ ?_ _) | (with_reducible refine Below.setCell ?_ ?_ _) | (with_reducible refine Below.drew ?_) | (with_reducible refine below_drewN ?_ _) | (with_reducible refine below_via ?_ (by with_reducible assumption) ?_) | omega | (simp; done) | (simp; omega)))))).mono ?_); rintro e w1 ⟨rfl, hb1⟩; obtain ⟨fc1, fg1, hc1, hf1, hz1⟩ := bget hb1; (try simp at hz1)) | fail)
    refine bodyPost_ret (by simp [results, Try.results42, go_sem]; try rfl) rfl ⟨_, by rw [HN.out, HC.out], by rw [HL.out]; exact Own.nil _ _ _ _, ?_⟩
    (repeat' (first | (with_reducible exact Below.refl _ _) | (with_reducible assumption) | (with_reducible refine Below.alloc ?_ ?_ _) | (with_reducible refine Below.setCell ?_ ?_ _) | (with_reducible refine Below.drew ?_) | (with_reducible refine below_drewN ?_ _) | (with_reducible refine below_via ?_ (by with_reducible assumption) ?_) | omega | (simp; done) | (simp; omega)))
  · obtain ⟨t0, t1⟩ := right_iff.1 h
    have HN := Lib.hid (show tkN T l = tkR T l from by unfold tkN; rw [h]; rfl)
    have HC := Lib.hid (show tkC T l = 0 from by unfold tkC; rw [h]; rfl)
    have HL := Lib.hid (show tkL T l = tkF T l from by unfold tkL; rw [h]; rfl)
    have H0 := Lib.hid t1
    rw [h] at hw2
    simp only [Bool.not_true] at hw2
    generalize whyS T l = wh at *
    unfold In64 at hT
    clear h t1
    go_enter Try.func42, Try.ntmps42
    go_wp2_with (first | (go_at_call 65; (with_reducible refine (C1.out _ (HR.out.keep (by (repeat' (first | (with_reducible exact Below.refl _ _) | (with_reducible assumption) | (with_reducible refine Below.alloc ?_ ?_ _) | (with_reducible refine Below.setCell ?_ ?_ _) | (with_reducible refine Below.drew ?_) | (with_reducible refine below_drewN ?_ _) | (with_reducible refine below_via ?_ (by with_reducible assumption) ?_) | omega | (simp; done) | (simp; omega)))))).mono ?_); rintro e w1 ⟨rfl, hb1⟩; obtain ⟨fc1, fg1, hc1, hf1, hz1⟩ := bget hb1; (try simp at hz1)) | fail)
    have Hb2 := Lib.hid (show Below w.heap.size w w1 from by (repeat' (first | (with_reducible exact Below.refl _ _) | (with_reducible assumption) | (with_reducible refine Below.alloc ?_ ?_ _) | (with_reducible refine Below.setCell ?_ ?_ _) | (with_reducible refine Below.drew ?_) | (with_reducible refine below_drewN ?_ _) | (with_reducible refine below_via ?_ (by with_reducible assumption) ?_) | omega | (simp; done) | (simp; omega))))
    go_loopw [0, 7, 8] (fun tv v i wr => ∃ (k : Nat) (z : Int) (out : List Int), k ≤ l.length ∧ i = .int .i64 k ∧ tv = .int .i64 z ∧ 0 ≤ z ∧ z ≤ T ∧ out.length = k ∧ Own wr w.heap.size 2 1 v (out.map encI) ∧ tkF T l = out ++ tkF z (l.drop k) ∧ tkR T l = tkR z (l.drop k) ∧ Below w.heap.size w wr) (fun _ _ i _ => l.length - (intOf i).toNat)
    case atStart => exact ⟨0, T, [], Nat.zero_le _, rfl, rfl, t0, by omega, rfl, Own.nil _ _ _ _, rfl, rfl, Hb2.out⟩
    case round =>
      obtain ⟨k, z, out, hk, rfl, rfl, z0, z1, hol, hown, h1, h2, hbl⟩ := hrel
      have Hown := Lib.hid hown
      have Hbl := Lib.hid hbl
      have hz := hbl.size
      have G1 := Lib.hid h1
      have G2 := Lib.hid h2
      have hlo : (out.map encI).length ≤ 1000000 := by rw [List.length_map]; omega
      clear hown hbl h1 h2
      by_cases hlt : k < l.length
      · have kl : (k : Int) < (l.length : Int) := by omega
        have dl : decide ((k : Int) < (l.length : Int)) = true := by simpa using hlt
        obtain ⟨b, o, rfl, hb, hc⟩ := HR.out k (encI l[k]) (by simp [hlt])
        have e0 := (Hbl.out.cell (p := ⟨b, o + k * 1 + 0, none⟩) hb).trans (hc 0 _ rfl)
        simp only [Nat.add_zero, Nat.mul_one] at e0
        have hbw : b < wr.heap.size := by omega
        have hx0 := H0.out l[k] (List.getElem_mem hlt)
        have hp0 : 0 ≤ min z l[k] ∧ min z l[k] ≤ z := by omega
        have N1 := Lib.hid (show tkF T l = (out ++ [min z l[k]]) ++ tkF (z - (min z l[k])) (l.drop (k + 1)) from by rw [G1.out, drop_cons' hlt, List.append_assoc]; show out ++ (min z l[k] :: tkF (z - min z l[k]) _) = _; rfl)
        have N2 := Lib.hid (show tkR T l = tkR (z - (min z l[k])) (l.drop (k + 1)) from by rw [G2.out, drop_cons' hlt]; show tkR (z - min z l[k]) _ = _; rfl)
        clear hc
        obtain ⟨x, hxe⟩ : ∃ x, x = l[k] := ⟨_, rfl⟩
        rw [← hxe] at e0 hx0 hp0 N1 N2
        clear hxe
        by_cases hzx : z < x
        · have dz : decide (z < x) = true := by simpa using hzx
          rw [show min z x = z from by omega] at N1 N2 hp0
          go_wp2_with (first | (at_builtin; refine wpList_app rfl _ _ _ rfl elI w.heap.size _ _ rfl (Hown.out.alloc _) (some ⟨_, 0, none⟩) 1 1 rfl [encI (z)] rfl (fun h => by cases h) (rd_oneN (by simp)) (rowsI1 _) (by unfold maxLen; first | (simp; done) | omega | (simp; omega)) (by first | (simp; done) | omega | (simp; omega)) (by first | omega | (simp; done) | (simp; omega)) ?_; intro v3 w3 hown3 hb3; obtain ⟨fc3, fg3, hc3, hf3, hz3⟩ := bget hb3; (try simp at hz3)) | fail)
          go_roundw
          case rel => exact ⟨k + 1, z - (z), out ++ [z], by omega, by go_num, by go_num, by omega, by omega, by simp; omega, by rw [List.map_append]; exact hown3, N1.out, N2.out, by have hbl := Hbl.out; (repeat' (first | (with_reducible exact Below.refl _ _) | (with_reducible assumption) | (with_reducible refine Below.alloc ?_ ?_ _) | (with_reducible refine Below.setCell ?_ ?_ _) | (with_reducible refine Below.drew ?_) | (with_reducible refine below_drewN ?_ _) | (with_reducible refine below_via ?_ (by with_reducible assumption) ?_) | omega | (simp; done) | (simp; omega)))⟩
          case measure => simp [intOf]; omega
        · have dz : decide (z < x) = false := by simpa using hzx
          rw [show min z x = x from by omega] at N1 N2 hp0
          go_wp2_with (first | (at_builtin; refine wpList_app rfl _ _ _ rfl elI w.heap.size _ _ rfl (Hown.out.alloc _) (some ⟨_, 0, none⟩) 1 1 rfl [encI (x)] rfl (fun h => by cases h) (rd_oneN (by simp)) (rowsI1 _) (by unfold maxLen; first | (simp; done) | omega | (simp; omega)) (by first | (simp; done) | omega | (simp; omega)) (by first | omega | (simp; done) | (simp; omega)) ?_; intro v3 w3 hown3 hb3; obtain ⟨fc3, fg3, hc3, hf3, hz3⟩ := bget hb3; (try simp at hz3)) | fail)
          go_roundw
          case rel => exact ⟨k + 1, z - (x), out ++ [x], by omega, by go_num, by go_num, by omega, by omega, by simp; omega, by rw [List.map_append]; exact hown3, N1.out, N2.out, by have hbl := Hbl.out; (repeat' (first | (with_reducible exact Below.refl _ _) | (with_reducible assumption) | (with_reducible refine Below.alloc ?_ ?_ _) | (with_reducible refine Below.setCell ?_ ?_ _) | (with_reducible refine Below.drew ?_) | (with_reducible refine below_drewN ?_ _) | (with_reducible refine below_via ?_ (by with_reducible assumption) ?_) | omega | (simp; done) | (simp; omega)))⟩
          case measure => simp [intOf]; omega
      · have dl : decide ((k : Int) < (l.length : Int)) = false := by simpa using hlt
        have hd : l.drop k = [] := List.drop_eq_nil_of_le (by omega)
        have E1 := Lib.hid (show tkF T l = out from by rw [G1.out, hd]; simp [tkF])
        have E2 := Lib.hid (show tkR T l = z from by rw [G2.out, hd]; rfl)
        clear hd
        go_wp2_with fail
        have hbl := Hbl.out
        refine bodyPost_ret (by simp [results, Try.results42, go_sem]; try rfl) rfl ⟨_, by rw [HN.out, HC.out, E2.out], by rw [HL.out, E1.out]; exact Hown.out, ?_⟩
        (repeat' (first | (with_reducible exact Below.refl _ _) | (with_reducible assumption) | (with_reducible refine Below.alloc ?_ ?_ _) | (with_reducible refine Below.setCell ?_ ?_ _) | (with_reducible refine Below.drew ?_) | (with_reducible refine below_drewN ?_ _) | (with_reducible refine below_via ?_ (by with_reducible assumption) ?_) | omega | (simp; done) | (simp; omega)))
end Go.Proofs.Ytenehpcliajdnaa
