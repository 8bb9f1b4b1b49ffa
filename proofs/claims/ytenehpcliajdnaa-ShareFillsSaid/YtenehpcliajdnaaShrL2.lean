/- Layer 3's laws: ShareFair's walk. -/
import Derived.Test.YtenehpcliajdnaaShrL1
namespace Go.Proofs.Ytenehpcliajdnaa
open Go.RowKit
theorem split_rd {L : List Int} {code : Int} {w w' : World} {e : Ending} (h : ∃ v, e = .returned (.tuple #[v, .int .i64 code]) ∧ Own w' w.heap.size 2 1 v (L.map encI) ∧ Below w.heap.size w w') : ∃ A c, e = .returned (.tuple #[.slice A L.length c, .int .i64 code]) ∧ Rd w' A 1 (L.map encI) ∧ Below w.heap.size w w' := by
  obtain ⟨v, rfl, hown, hb⟩ := h
  obtain ⟨A, c, hv, hrs, _⟩ := hown.rs
  rw [List.length_map] at hv
  subst hv
  exact ⟨A, c, rfl, hrs.rd, hb⟩
set_option maxRecDepth 100000 in
set_option maxHeartbeats 8000000 in
theorem shareFairBad (l0 l : List Int) (T code : Int) (hne : code ≠ 0) (A : Option Addr) (c : Nat) (w : World) (hr0 : Rd w A 1 (l0.map encI)) (hr : Rd w A 1 (l.map encI))
    (cf : ∀ W, Rd W A 1 (l0.map encI) → Calls Try.prog 32 #[.slice A l0.length c] W fun e w' => e = .returned (.slice A l.length c) ∧ Below W.heap.size W w')
    (cs : ∀ W, Rd W A 1 (l.map encI) → Calls Try.prog 33 #[.int .i64 T, .slice A l.length c] W fun e w' => ∃ A2 c2, e = .returned (.tuple #[.slice A2 0 c2, .int .i64 code]) ∧ Rd w' A2 1 ([].map encI) ∧ Below W.heap.size W w') :
    Calls Try.prog 8 #[.int .i64 T, .slice A l0.length c] w fun e w' => e = .returned (.bool true) ∧ Below w.heap.size w w' := by
  have HR0 := Lib.hid hr0
  have HR := Lib.hid hr
  have CF := Lib.hid cf
  have CS := Lib.hid cs
  have d1 : (code == 0) = false := by simpa using hne
  clear hr0 hr cf cs
  go_enter Try.func8, Try.ntmps8
  go_wp2_with (first | (go_at_call 32; (with_reducible refine (CF.out _ (HR0.out.keep (by (repeat' (first | (with_reducible exact Below.refl _ _) | (with_reducible assumption) | (with_reducible refine Below.alloc ?_ ?_ _) | (with_reducible refine Below.setCell ?_ ?_ _) | (with_reducible refine Below.drew ?_) | (with_reducible refine below_drewN ?_ _) | (with_reducible refine below_via ?_ (by with_reducible assumption) ?_) | omega | (simp; done) | (simp; omega)))))).mono ?_); rintro e w1 ⟨rfl, hb1⟩; obtain ⟨fc1, fg1, hc1, hf1, hz1⟩ := bget hb1; (try simp at hz1)) | (go_at_call 33; (with_reducible refine (CS.out _ (HR.out.keep (by (repeat' (first | (with_reducible exact Below.refl _ _) | (with_reducible assumption) | (with_reducible refine Below.alloc ?_ ?_ _) | (with_reducible refine Below.setCell ?_ ?_ _) | (with_reducible refine Below.drew ?_) | (with_reducible refine below_drewN ?_ _) | (with_reducible refine below_via ?_ (by with_reducible assumption) ?_) | omega | (simp; done) | (simp; omega)))))).mono ?_); intro e w2 hp; obtain ⟨A2, c2, rfl, hrd2, hb2⟩ := hp; have H2 := Lib.hid hrd2; clear hrd2; obtain ⟨fc2, fg2, hc2, hf2, hz2⟩ := bget hb2; (try simp at hz2)) | (go_at_call 36; (with_reducible refine (law03lives _).mono ?_); rintro e w3 ⟨rfl, hb3⟩; obtain ⟨fc3, fg3, hc3, hf3, hz3⟩ := bget hb3; (try simp at hz3)) | fail)
  go_ret
  exact ⟨rfl, by (repeat' (first | (with_reducible exact Below.refl _ _) | (with_reducible assumption) | (with_reducible refine Below.alloc ?_ ?_ _) | (with_reducible refine Below.setCell ?_ ?_ _) | (with_reducible refine Below.drew ?_) | (with_reducible refine below_drewN ?_ _) | (with_reducible refine below_via ?_ (by with_reducible assumption) ?_) | omega | (simp; done) | (simp; omega)))⟩
set_option maxRecDepth 100000 in
set_option maxHeartbeats 16000000 in
theorem shareFairOk (l0 l L : List Int) (T : Int) (hl : l.length ≤ 30) (hL : L.length = l.length) (hfair : ∀ i k (hi : i < l.length) (hk : k < l.length), (l[k] < l[i] ∨ (l[i] = l[k] ∧ i < k)) → L.getD k 0 ≤ L.getD i 0) (A : Option Addr) (c : Nat) (w : World) (hr0 : Rd w A 1 (l0.map encI)) (hr : Rd w A 1 (l.map encI))
    (cf : ∀ W, Rd W A 1 (l0.map encI) → Calls Try.prog 32 #[.slice A l0.length c] W fun e w' => e = .returned (.slice A l.length c) ∧ Below W.heap.size W w')
    (cs : ∀ W, Rd W A 1 (l.map encI) → Calls Try.prog 33 #[.int .i64 T, .slice A l.length c] W fun e w' => ∃ A2 c2, e = .returned (.tuple #[.slice A2 l.length c2, .int .i64 0]) ∧ Rd w' A2 1 (L.map encI) ∧ Below W.heap.size W w') :
    Calls Try.prog 8 #[.int .i64 T, .slice A l0.length c] w fun e w' => e = .returned (.bool true) ∧ Below w.heap.size w w' := by
  have HR0 := Lib.hid hr0
  have HR := Lib.hid hr
  have CF := Lib.hid cf
  have CS := Lib.hid cs
  have HF := Lib.hid hfair
  have HLL := Lib.hid hL
  clear hr0 hr cf cs hfair hL
  go_enter Try.func8, Try.ntmps8
  go_wp2_with (first | (go_at_call 32; (with_reducible refine (CF.out _ (HR0.out.keep (by (repeat' (first | (with_reducible exact Below.refl _ _) | (with_reducible assumption) | (with_reducible refine Below.alloc ?_ ?_ _) | (with_reducible refine Below.setCell ?_ ?_ _) | (with_reducible refine Below.drew ?_) | (with_reducible refine below_drewN ?_ _) | (with_reducible refine below_via ?_ (by with_reducible assumption) ?_) | omega | (simp; done) | (simp; omega)))))).mono ?_); rintro e w1 ⟨rfl, hb1⟩; obtain ⟨fc1, fg1, hc1, hf1, hz1⟩ := bget hb1; (try simp at hz1)) | (go_at_call 33; (with_reducible refine (CS.out _ (HR.out.keep (by (repeat' (first | (with_reducible exact Below.refl _ _) | (with_reducible assumption) | (with_reducible refine Below.alloc ?_ ?_ _) | (with_reducible refine Below.setCell ?_ ?_ _) | (with_reducible refine Below.drew ?_) | (with_reducible refine below_drewN ?_ _) | (with_reducible refine below_via ?_ (by with_reducible assumption) ?_) | omega | (simp; done) | (simp; omega)))))).mono ?_); intro e w2 hp; obtain ⟨A2, c2, rfl, hrd2, hb2⟩ := hp; have H2 := Lib.hid hrd2; clear hrd2; obtain ⟨fc2, fg2, hc2, hf2, hz2⟩ := bget hb2; (try simp at hz2)) | fail)
  have HbA := Lib.hid (show Below w.heap.size w w2 from by (repeat' (first | (with_reducible exact Below.refl _ _) | (with_reducible assumption) | (with_reducible refine Below.alloc ?_ ?_ _) | (with_reducible refine Below.setCell ?_ ?_ _) | (with_reducible refine Below.drew ?_) | (with_reducible refine below_drewN ?_ _) | (with_reducible refine below_via ?_ (by with_reducible assumption) ?_) | omega | (simp; done) | (simp; omega))))
  have HR2 := Lib.hid (HR.out.keep HbA.out)
  clear hb1 hc1 hf1 hz1 hb2 hc2 hf2 hz2 HR HR0
  go_loopw [7] (fun i wr => ∃ k : Nat, k ≤ l.length ∧ i = .int .i64 k ∧ ∃ n, wr = w2.drewN n) (fun i _ => l.length - (intOf i).toNat)
  case atStart => exact ⟨0, Nat.zero_le _, rfl, 0, rfl⟩
  case round =>
    obtain ⟨k, hk, rfl, nn, rfl⟩ := hrel
    by_cases hlt : k < l.length
    · have kl : (k : Int) < (l.length : Int) := by omega
      have dl : decide ((k : Int) < (l.length : Int)) = true := by simpa using hlt
      go_wp2_with fail
      go_loopw [8] (fun i wr => ∃ j : Nat, j ≤ l.length ∧ i = .int .i64 j ∧ ∃ n, wr = w2.drewN n) (fun i _ => l.length - (intOf i).toNat)
      case atStart => exact ⟨0, Nat.zero_le _, rfl, nn, rfl⟩
      case round =>
        obtain ⟨j, hj, rfl, mm, rfl⟩ := hrel
        by_cases hjl : j < l.length
        · have jl : (j : Int) < (l.length : Int) := by omega
          have dj : decide ((j : Int) < (l.length : Int)) = true := by simpa using hjl
          obtain ⟨b, o, rfl, hb, hc⟩ := HR2.out k (encI l[k]) (by simp [hlt])
          obtain ⟨b', o', he, hb', hc'⟩ := HR2.out j (encI l[j]) (by simp [hjl])
          obtain ⟨rfl, rfl⟩ : b' = b ∧ o' = o := by injection he with he; injection he with h1 h2; exact ⟨h1.symm, h2.symm⟩
          have hkL : k < L.length := by rw [HLL.out]; exact hlt
          have hjL : j < L.length := by rw [HLL.out]; exact hjl
          obtain ⟨b2, o2, rfl, hb2, hc2⟩ := H2.out k (encI L[k]) (by simp [hkL])
          obtain ⟨b2', o2', he2, hb2', hc2'⟩ := H2.out j (encI L[j]) (by simp [hjL])
          obtain ⟨rfl, rfl⟩ : b2' = b2 ∧ o2' = o2 := by injection he2 with he; injection he with h1 h2; exact ⟨h1.symm, h2.symm⟩
          have e0 := hc 0 _ rfl
          have e1 := hc' 0 _ rfl
          have e2 := hc2 0 _ rfl
          have e3 := hc2' 0 _ rfl
          simp only [Nat.add_zero, Nat.mul_one] at e0 e1 e2 e3
          have f1 := HF.out k j hlt hjl
          rw [List.getD_eq_getElem?_getD, List.getD_eq_getElem?_getD, List.getElem?_eq_getElem hkL, List.getElem?_eq_getElem hjL] at f1
          have F1 := Lib.hid (show (l[j] < l[k] ∨ (l[k] = l[j] ∧ k < j)) → L[j] ≤ L[k] from f1)
          clear hc hc' hc2 hc2' he he2 f1
          obtain ⟨x, hx⟩ : ∃ x, x = l[k] := ⟨_, rfl⟩
          obtain ⟨y, hy⟩ : ∃ y, y = l[j] := ⟨_, rfl⟩
          obtain ⟨u, hu⟩ : ∃ u, u = L[k] := ⟨_, rfl⟩
          obtain ⟨v, hv⟩ : ∃ v, v = L[j] := ⟨_, rfl⟩
          rw [← hx] at e0 F1
          rw [← hy] at e1 F1
          rw [← hu] at e2 F1
          rw [← hv] at e3 F1
          clear hx hy hu hv
          by_cases hxy : y < x
          · have c1 : decide (y < x) = true := by simpa using hxy
            have c2 : (x == y) = false := by simp; omega
            have c3 : decide (u < v) = false := by have := F1.out (.inl hxy); simp; omega
            go_wp2_with fail
            go_quiet (fail)
            go_wp2_with fail
            go_roundw
            case rel => exact ⟨j + 1, by omega, by go_num, _, rfl⟩
            case measure => (simp [intOf]; omega)
          · have c1 : decide (y < x) = false := by simpa using hxy
            by_cases hxe : x = y
            · have c2 : (x == y) = true := by simpa using hxe
              by_cases hkj : k < j
              · have c4 : decide ((k : Int) < (j : Int)) = true := by simpa using hkj
                have c3 : decide (u < v) = false := by have := F1.out (.inr ⟨hxe, hkj⟩); simp; omega
                clear hxe
                go_wp2_with fail
                go_quiet (fail)
                go_wp2_with fail
                go_roundw
                case rel => exact ⟨j + 1, by omega, by go_num, _, rfl⟩
                case measure => (simp [intOf]; omega)
              · have c4 : decide ((k : Int) < (j : Int)) = false := by simpa using hkj
                clear hxe
                go_wp2_with fail
                go_quiet (fail)
                go_wp2_with fail
                go_roundw
                case rel => exact ⟨j + 1, by omega, by go_num, _, rfl⟩
                case measure => (simp [intOf]; omega)
            · have c2 : (x == y) = false := by simpa using hxe
              go_wp2_with fail
              go_quiet (fail)
              go_wp2_with fail
              go_roundw
              case rel => exact ⟨j + 1, by omega, by go_num, _, rfl⟩
              case measure => (simp [intOf]; omega)
        · have dj : decide ((j : Int) < (l.length : Int)) = false := by simpa using hjl
          go_wp2_with fail
          go_roundw
          case rel => exact ⟨k + 1, by omega, by go_num, _, rfl⟩
          case measure => simp [intOf]; omega
    · have dl : decide ((k : Int) < (l.length : Int)) = false := by simpa using hlt
      go_wp2_with (first | (go_at_call 36; (with_reducible refine (law03lives _).mono ?_); rintro e w3 ⟨rfl, hb3⟩; obtain ⟨fc3, fg3, hc3, hf3, hz3⟩ := bget hb3; (try simp at hz3)) | fail)
      go_ret
      exact ⟨rfl, by have h1 := below_drewN HbA.out nn; have hz := h1.size; (repeat' (first | (with_reducible exact Below.refl _ _) | (with_reducible assumption) | (with_reducible refine Below.alloc ?_ ?_ _) | (with_reducible refine Below.setCell ?_ ?_ _) | (with_reducible refine Below.drew ?_) | (with_reducible refine below_drewN ?_ _) | (with_reducible refine below_via ?_ (by with_reducible assumption) ?_) | omega | (simp; done) | (simp; omega)))⟩
theorem take30 {w : World} {l : List Int} {A : Option Addr} (h : Rd w A 1 (l.map encI)) (n : Nat) : Rd w A 1 ((l.take n).map encI) := by
  intro i r hr
  rw [List.map_take, List.getElem?_take] at hr
  split at hr
  · exact h i r hr
  · cases hr
theorem shareFair (l0 : List Int) (T : Int) (A : Option Addr) (c : Nat) (w : World) (hT : In64 T) (hin : ∀ x ∈ l0, In64 x) (hlc : l0.length ≤ c) (hcm : c ≤ maxLen) (hr : Rd w A 1 (l0.map encI)) :
    Calls Try.prog 8 #[.int .i64 T, .slice A l0.length c] w fun e w' => e = .returned (.bool true) ∧ Below w.heap.size w w' := by
  have hl : (l0.take 30).length ≤ 30 := by rw [List.length_take]; omega
  have hmin : ∀ x ∈ l0.take 30, In64 x := fun x hx => hin x (List.mem_of_mem_take hx)
  have cs := fun W (h : Rd W A 1 ((l0.take 30).map encI)) => shrSplit T (l0.take 30) A c W (by omega) hT hmin h
  by_cases h0 : spC T (l0.take 30) = 0
  · have hln := sp_len h0
    refine shareFairOk l0 (l0.take 30) (spL T (l0.take 30)) T hl hln (fun i k hi hk ho => sp_fair h0 hi hk ho) A c w hr (take30 hr 30) (fun W h => law03few l0 A c W hlc hcm h) (fun W h => Calls.mono (cs W h) ?_)
    intro e w' h
    obtain ⟨A2, c2, he, h1, h2⟩ := split_rd h
    rw [hln, h0] at he
    exact ⟨A2, c2, he, h1, h2⟩
  · have hnl : spL T (l0.take 30) = [] := by unfold spL; rw [if_neg h0]
    refine shareFairBad l0 (l0.take 30) T (spC T (l0.take 30)) h0 A c w hr (take30 hr 30) (fun W h => law03few l0 A c W hlc hcm h) (fun W h => Calls.mono (cs W h) ?_)
    intro e w' h
    obtain ⟨A2, c2, he, h1, h2⟩ := split_rd h
    rw [hnl] at he h1
    exact ⟨A2, c2, he, h1, h2⟩
end Go.Proofs.Ytenehpcliajdnaa
