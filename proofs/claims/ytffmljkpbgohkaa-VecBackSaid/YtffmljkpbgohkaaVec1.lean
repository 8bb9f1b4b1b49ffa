/- Contracts of vec.none, ContainsFunc of it, vec.Same. -/
import Derived.Test.YtffmljkpbgohkaaLeg
import Derived.Test.YtffmljkpbgohkaaList
import Derived.Outline
namespace Go.Proofs.Ytffmljkpbgohkaa
open Go.RowKit
set_option maxRecDepth 100000 in
set_option maxHeartbeats 1000000 in
theorem vecNone (l : List Leg) (A : Option Addr) (c : Nat) (w : World) (hl : l.length ≤ 1099511627776) (hr : Rd w A 2 (l.map encLeg)) :
    Calls Try.prog 59 #[.slice A l.length c] w fun e w' => e = .returned (.bool (!isV l)) ∧ Below w.heap.size w w' := by
  have HR := Lib.hid hr
  clear hr
  go_enter Try.func59, Try.ntmps59
  go_wp2_with (go_at_call 14; (with_reducible refine (vecIs l A c _ hl HR.out).mono ?_); rintro e w1 ⟨rfl, hb1⟩; obtain ⟨fc1, fg1, hc1, hf1, hz1⟩ := bget hb1; try simp at hz1)
  go_ret
  exact ⟨rfl, by (repeat' (first | (with_reducible exact Below.refl _ _) | (with_reducible assumption) | (with_reducible refine Below.alloc ?_ ?_ _) | (with_reducible refine Below.setCell ?_ ?_ _) | (with_reducible refine Below.drew ?_) | (with_reducible refine below_drewN ?_ _) | (with_reducible refine below_via ?_ (by with_reducible assumption) ?_) | omega | (simp; done) | (simp; omega)))⟩
def Short (ls : List (List Leg)) : Prop := ls.length ≤ 1099511627776 ∧ ∀ l ∈ ls, l.length ≤ 1099511627776
theorem Short.pt {ls : List (List Leg)} (h : Short ls) {i : Nat} (hi : i < ls.length) : ls[i].length ≤ 1099511627776 := h.2 _ (List.getElem_mem hi)
set_option maxRecDepth 100000 in
set_option maxHeartbeats 1000000 in
theorem vecIndex (ls : List (List Leg)) (A : Option Addr) (c : Nat) (w : World) (hl : Short ls) (hr : RsS 2 encLeg w ls A c) :
    Calls Try.prog 84 #[.slice A ls.length c, .func (Fn.func 59) #[] #[]] w fun e w' => e = .returned (.int .i64 (idxOf (fun l => !isV l) ls)) ∧ Below w.heap.size w w' := by
  have HR := Lib.hid hr
  have HL := Lib.hid hl
  have hl1 := hl.1
  clear hr hl
  go_enter Try.func84, Try.ntmps84
  go_wp2_with fail
  go_loopw [8] (fun i wr => ∃ k : Nat, k ≤ ls.length ∧ i = .int .i64 k ∧ Below w.heap.size w wr ∧ ∀ j (_ : j < ls.length), j < k → (!isV ls[j]) = false) (fun i _ => ls.length - (intOf i).toNat)
  case atStart => exact ⟨0, Nat.zero_le _, rfl, Below.refl _ _, fun j _ h => absurd h (by omega)⟩
  case round =>
    obtain ⟨k, hk, rfl, hbl, hno⟩ := hrel
    have Hbl := Lib.hid hbl
    have Hno := Lib.hid hno
    have hz := hbl.size
    clear hbl hno
    by_cases hlt : k < ls.length
    · obtain ⟨b, o, B, d, rfl, hb, hq, hrk⟩ := HR.out.row hlt
      have e0 := (Hbl.out.cell (p := ⟨b, o + k, none⟩) hb).trans hq
      have HK := Lib.hid (hrk.keep Hbl.out)
      have HKL := HL.out.pt hlt
      clear hq hrk
      cases hm : (!isV ls[k])
      · have Hm := Lib.hid hm
        clear hm
        go_wp2_with (go_at_call 59; (with_reducible refine (vecNone ls[k] B d _ HKL HK.out.rd).mono ?_); rw [Hm.out]; rintro e w1 ⟨rfl, hb1⟩; have hz1 := hb1.size; have Hb1 := Lib.hid hb1; clear hb1)
        go_roundw
        case rel => exact ⟨k + 1, by omega, by go_num, Hbl.out.trans (Hb1.out.mono hz), fun j hj h => by
          rcases Nat.lt_or_ge j k with h1 | h1
          · exact Hno.out j hj h1
          · obtain rfl : j = k := by omega
            exact Hm.out⟩
        case measure => simp [intOf]; omega
      · have hi := idx_hit (p := fun l => !isV l) hlt hm Hno.out
        have Hi := Lib.hid hi
        have Hm := Lib.hid hm
        clear hm hi
        go_wp2_with (go_at_call 59; (with_reducible refine (vecNone ls[k] B d _ HKL HK.out.rd).mono ?_); rw [Hm.out]; rintro e w1 ⟨rfl, hb1⟩; have hz1 := hb1.size; have Hb1 := Lib.hid hb1; clear hb1)
        go_ret
        exact ⟨by rw [Hi.out]; rfl, Hbl.out.trans (Hb1.out.mono hz)⟩
    · have hi := idx_miss (p := fun l => !isV l) (l := ls) (fun j hj => Hno.out j hj (by omega))
      have Hi := Lib.hid hi
      clear hi
      go_wp2_with fail
      go_ret
      exact ⟨by rw [Hi.out]; rfl, Hbl.out⟩
def allV (ls : List (List Leg)) : Bool := ls.all isV
theorem idx_none (ls : List (List Leg)) : decide (0 ≤ idxOf (fun l => !isV l) ls) = !allV ls := by
  unfold idxOf allV
  cases h : ls.findIdx? (fun l => !isV l) with
  | none =>
    rw [List.findIdx?_eq_none_iff] at h
    have : ls.all isV = true := by rw [List.all_eq_true]; intro x hx; simpa using h x hx
    simp [this]
  | some k =>
    rw [List.findIdx?_eq_some_iff_getElem] at h
    obtain ⟨hk, h1, _⟩ := h
    have : ls.all isV = false := by
      rw [List.all_eq_false]; exact ⟨_, List.getElem_mem hk, by simpa using h1⟩
    simp [this]
set_option maxRecDepth 100000 in
set_option maxHeartbeats 1000000 in
theorem vecContains (ls : List (List Leg)) (A : Option Addr) (c : Nat) (w : World) (hl : Short ls) (hr : RsS 2 encLeg w ls A c) :
    Calls Try.prog 58 #[.slice A ls.length c, .func (Fn.func 59) #[] #[]] w fun e w' => e = .returned (.bool (!allV ls)) ∧ Below w.heap.size w w' := by
  have HR := Lib.hid hr
  have HL := Lib.hid hl
  have HI := Lib.hid (idx_none ls)
  clear hr hl
  go_enter Try.func58, Try.ntmps58
  go_wp2_with (go_at_call 84; (with_reducible refine (vecIndex ls A c _ HL.out HR.out).mono ?_); rintro e w1 ⟨rfl, hb1⟩; obtain ⟨fc1, fg1, hc1, hf1, hz1⟩ := bget hb1; try simp at hz1)
  go_ret
  exact ⟨by rw [← HI.out]; rfl, by (repeat' (first | (with_reducible exact Below.refl _ _) | (with_reducible assumption) | (with_reducible refine Below.alloc ?_ ?_ _) | (with_reducible refine Below.setCell ?_ ?_ _) | (with_reducible refine Below.drew ?_) | (with_reducible refine below_drewN ?_ _) | (with_reducible refine below_via ?_ (by with_reducible assumption) ?_) | omega | (simp; done) | (simp; omega)))⟩
end Go.Proofs.Ytffmljkpbgohkaa
