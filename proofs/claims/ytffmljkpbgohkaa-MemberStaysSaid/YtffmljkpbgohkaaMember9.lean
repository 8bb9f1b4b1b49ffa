/- Contract of the reference's Table. -/
import Derived.Test.YtffmljkpbgohkaaMember8
namespace Go.Proofs.Ytffmljkpbgohkaa
open Go.RowKit
theorem own_ms {w : World} {base : Nat} {v : Value} {l : List Mem} (h : Own w base 36 4 v (l.map encM)) : ∃ A c, v = .slice A l.length c ∧ IsMs w l A c := by
  obtain ⟨A, c, hv, hcap, hroom, hrd, _⟩ := h.shape
  rw [List.length_map] at hv hcap
  refine ⟨A, c, hv, hrd, hcap, hroom, ?_⟩
  rcases h.2.2 with ⟨h1, h2⟩ | ⟨g, cap, cur, h1, _⟩
  · rw [hv] at h1
    injection h1 with e1 e2 e3
    exact .inl ⟨e1, List.eq_nil_of_length_eq_zero e2, e3⟩
  · rw [hv] at h1
    injection h1 with e1 e2 e3
    exact .inr ⟨g, 0, e1⟩
def stepM (out : List Mem) (m : Mem) : List Mem := if putC out m = 0 then putL out m else out
def tabN (l : List Mem) (k : Nat) : List Mem := (l.take k).foldl stepM []
theorem tabN_succ {l : List Mem} {k : Nat} (h : k < l.length) : tabN l (k + 1) = stepM (tabN l k) l[k] := by
  unfold tabN
  rw [List.take_succ_eq_append_getElem h, List.foldl_append]
  rfl
theorem insM_len (l : List Mem) (m : Mem) : (insM l m).length = l.length + 1 := by
  unfold insM
  have := congrArg List.length (List.takeWhile_append_dropWhile (p := fun x : Mem => decide (x.id < m.id)) (l := l))
  simp only [List.length_append, List.length_cons] at this ⊢
  omega
theorem putL_len (l : List Mem) (m : Mem) : (putL l m).length ≤ l.length + 1 := by
  unfold putL
  split
  · rw [insM_len]; omega
  · simp
theorem tabN_len (l : List Mem) : ∀ k, (tabN l k).length ≤ k
  | 0 => by simp [tabN]
  | k + 1 => by
    have ih := tabN_len l k
    rcases Nat.lt_or_ge k l.length with h | h
    · rw [tabN_succ h]; unfold stepM; split
      · have := putL_len (tabN l k) l[k]; omega
      · omega
    · have : tabN l (k + 1) = tabN l k := by unfold tabN; rw [List.take_of_length_le (by omega), List.take_of_length_le h]
      rw [this]; omega
def tabM (l : List Mem) : List Mem := tabN l 10
theorem tabM_at {l : List Mem} {k : Nat} (h : k = 10 ∨ (k ≤ 10 ∧ l.length ≤ k)) : tabN l k = tabM l := by
  rcases h with rfl | ⟨h1, h2⟩
  · rfl
  · unfold tabM tabN; rw [List.take_of_length_le h2, List.take_of_length_le (by omega)]
set_option maxRecDepth 100000 in
set_option maxHeartbeats 2000000 in
theorem refTable14 (l : List Mem) (A : Option Addr) (c : Nat) (w : World) (hl : l.length ≤ maxLen) (hr : Rd w A 4 (l.map encM)) :
    Calls Try.prog 28 #[.slice A l.length c] w fun e w' => ∃ v, e = .returned v ∧ Own w' w.heap.size 36 4 v ((tabM l).map encM) ∧ Below w.heap.size w w' := by
  have HR := Lib.hid hr
  have hml : (l.length : Int) ≤ 9223372036854775807 := by unfold maxLen at hl; omega
  clear hr hl
  go_enter Try.func28, Try.ntmps28
  go_wp2_with fail
  go_loopw [3, 4] (fun v i wr => ∃ k : Nat, k ≤ l.length ∧ k ≤ 10 ∧ i = .int .i64 k ∧ Own wr w.heap.size 36 4 v ((tabN l k).map encM) ∧ Below w.heap.size w wr) (fun _ i _ => l.length - (intOf i).toNat)
  case atStart => exact ⟨0, Nat.zero_le _, Nat.zero_le _, rfl, Own.nil _ _ _ _, Below.refl _ _⟩
  case round =>
    obtain ⟨k, hk, hk10, rfl, hown, hbl⟩ := hrel
    have Hbl := Lib.hid hbl
    have Hown := Lib.hid hown
    have hz := hbl.size
    clear hbl hown
    by_cases hgo : k < l.length ∧ k < 10
    · obtain ⟨hlt, h10⟩ := hgo
      have kl : (k : Int) < (l.length : Int) := by omega
      have k10 : (k : Int) < 10 := by omega
      have d10 : decide ((k : Int) < 10) = true := by simpa using k10
      obtain ⟨A1, c1, hv1, hms⟩ := own_ms Hown.out
      have Hms := Lib.hid hms
      have hlen := tabN_len l k
      subst hv1
      obtain ⟨b, o, rfl, hb, hc⟩ := HR.out k (encM l[k]) (by simp [hlt])
      have e0 := (Hbl.out.cell (p := ⟨b, o + k * 4 + 0, none⟩) hb).trans (hc 0 _ rfl)
      have e1 := (Hbl.out.cell (p := ⟨b, o + k * 4 + 1, none⟩) hb).trans (hc 1 _ rfl)
      have e2 := (Hbl.out.cell (p := ⟨b, o + k * 4 + 2, none⟩) hb).trans (hc 2 _ rfl)
      have e3 := (Hbl.out.cell (p := ⟨b, o + k * 4 + 3, none⟩) hb).trans (hc 3 _ rfl)
      simp only [Nat.add_zero] at e0
      have hs := tabN_succ hlt
      have HS := Lib.hid hs
      have hst : stepM (tabN l k) l[k] = if putC (tabN l k) l[k] = 0 then putL (tabN l k) l[k] else tabN l k := rfl
      have HST := Lib.hid hst
      clear hc hms hs hst
      cases hq : (putC (tabN l k) l[k] == 0)
      · have HQ := Lib.hid (show ¬ putC (tabN l k) l[k] = 0 from by simpa using hq)
        go_wp2_with (go_at_call 30; (with_reducible refine (refPut14 (tabN l k) l[k] A1 c1 _ (by omega) Hms.out).mono ?_); rintro e w1 ⟨v1, rfl, hown1, hb1⟩; have Hown1 := Lib.hid hown1; have Hb1 := Lib.hid hb1; have hz1 := hb1.size; clear hown1 hb1)
        go_roundw
        case rel => exact ⟨k + 1, by omega, by omega, by go_num, by rw [HS.out, HST.out, if_neg HQ.out]; exact Hown.out.keep Hb1.out, Hbl.out.trans (Hb1.out.mono hz)⟩
        case measure => simp [intOf]; omega
      · have HQ := Lib.hid (show putC (tabN l k) l[k] = 0 from by simpa using hq)
        go_wp2_with (go_at_call 30; (with_reducible refine (refPut14 (tabN l k) l[k] A1 c1 _ (by omega) Hms.out).mono ?_); rintro e w1 ⟨v1, rfl, hown1, hb1⟩; have Hown1 := Lib.hid hown1; have Hb1 := Lib.hid hb1; have hz1 := hb1.size; clear hown1 hb1)
        go_roundw
        case rel => exact ⟨k + 1, by omega, by omega, by go_num, by rw [HS.out, HST.out, if_pos HQ.out]; exact Hown1.out.mono hz, Hbl.out.trans (Hb1.out.mono hz)⟩
        case measure => simp [intOf]; omega
    · have ht := tabM_at (l := l) (k := k) (by omega)
      have HT := Lib.hid ht
      clear ht
      by_cases hlt : k < l.length
      · have d1 : decide ((k : Int) < (l.length : Int)) = true := by simpa using hlt
        have d2 : decide ((k : Int) < 10) = false := by simp; omega
        go_wp2_with fail
        go_ret
        exact ⟨_, rfl, by rw [← HT.out]; exact Hown.out, Hbl.out⟩
      · have d1 : decide ((k : Int) < (l.length : Int)) = false := by simpa using hlt
        go_wp2_with fail
        go_ret
        exact ⟨_, rfl, by rw [← HT.out]; exact Hown.out, Hbl.out⟩
end Go.Proofs.Ytffmljkpbgohkaa
