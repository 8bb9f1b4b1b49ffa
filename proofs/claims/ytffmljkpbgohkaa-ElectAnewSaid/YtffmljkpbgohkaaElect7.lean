/- Choices: contracts of elect.Drop, Find, the reference's Drop, Find, Same, Few. -/
import Derived.Test.YtffmljkpbgohkaaElect4
import Derived.Test.YtffmljkpbgohkaaElect5
import Derived.Outline
namespace Go.Proofs.Ytffmljkpbgohkaa
open Go.RowKit
def dropL (l : List Choice) (u : Un) : List Choice := l.filter (fun x => !decide (x.frm = u))
def findC (l : List Choice) (u : Un) : Choice × Bool := match l.find? (fun x => decide (x.frm = u)) with | some x => (x, true) | none => (⟨⟨0, 0⟩, ⟨0, 0⟩, false⟩, false)
set_option maxRecDepth 100000 in
set_option maxHeartbeats 1000000 in
theorem ref16Same (l : List Choice) (A B : Option Addr) (c d : Nat) (w : World) (hl : l.length ≤ 1099511627776) (ha : Rd w A 5 (l.map encChoice)) (hb : Rd w B 5 (l.map encChoice)) :
    Calls Try.prog 46 #[.slice A l.length c, .slice B l.length d] w fun e w' => e = .returned (.bool true) ∧ Below w.heap.size w w' := by
  have HA := Lib.hid ha
  have HB := Lib.hid hb
  clear ha hb
  go_enter Try.func46, Try.ntmps46
  go_wp2_with fail
  go_loopw [5] (fun i wr => ∃ k : Nat, k ≤ l.length ∧ i = .int .i64 k ∧ ∃ n, wr = w.drewN n) (fun i _ => l.length - (intOf i).toNat)
  case atStart => exact ⟨0, Nat.zero_le _, rfl, 0, rfl⟩
  case round =>
    obtain ⟨k, hk, rfl, nn, rfl⟩ := hrel
    by_cases hlt : k < l.length
    · have kl : (k : Int) < (l.length : Int) := by omega
      obtain ⟨b1, o1, rfl, hb1, hc1⟩ := HA.out k (encChoice l[k]) (by simp [hlt])
      obtain ⟨b2, o2, rfl, hb2, hc2⟩ := HB.out k (encChoice l[k]) (by simp [hlt])
      have e0 := hc1 0 _ rfl
      have e1 := hc1 1 _ rfl
      have e2 := hc1 2 _ rfl
      have e3 := hc1 3 _ rfl
      have e4 := hc1 4 _ rfl
      have f0 := hc2 0 _ rfl
      have f1 := hc2 1 _ rfl
      have f2 := hc2 2 _ rfl
      have f3 := hc2 3 _ rfl
      have f4 := hc2 4 _ rfl
      simp only [Nat.add_zero] at e0 f0
      clear hc1 hc2
      go_wp2_with fail
      go_quiet (fail)
      go_wp2_with fail
      go_roundw
      case rel => exact ⟨k + 1, by omega, by go_num, _, rfl⟩
      case measure => simp [intOf]; omega
    · go_wp2_with fail
      go_ret
      exact ⟨rfl, by (repeat' (first | (with_reducible exact Below.refl _ _) | (with_reducible assumption) | (with_reducible refine Below.alloc ?_ ?_ _) | (with_reducible refine Below.setCell ?_ ?_ _) | (with_reducible refine Below.drew ?_) | (with_reducible refine below_drewN ?_ _) | (with_reducible refine below_via ?_ (by with_reducible assumption) ?_) | omega | (simp; done) | (simp; omega)))⟩
/-- A slice of choices of the call's own, answered. -/
def ChoPost (w : World) (l : List Choice) (e : Ending) (w' : World) : Prop := ∃ v, e = .returned v ∧ Own w' w.heap.size 76 5 v (l.map encChoice) ∧ Below w.heap.size w w'
set_option maxRecDepth 100000 in
set_option maxHeartbeats 2000000 in
theorem electDrop (l : List Choice) (u : Un) (A : Option Addr) (c : Nat) (w : World) (hl : l.length ≤ 1048576) (hr : Rs w 5 (l.map encChoice) A c) :
    Calls Try.prog 47 #[.slice A l.length c, .agg #[.int .i64 u.acc, .int .i64 u.cli]] w (ChoPost w (dropL l u)) := by
  have HR := Lib.hid hr
  clear hr
  go_enter Try.func47, Try.ntmps47
  go_wp2_with (go_at_call 77; (with_reducible refine (cloneChoice l A c _ (by omega) (HR.out.keep (by (repeat' (first | (with_reducible exact Below.refl _ _) | (with_reducible assumption) | (with_reducible refine Below.alloc ?_ ?_ _) | (with_reducible refine Below.setCell ?_ ?_ _) | (with_reducible refine Below.drew ?_) | (with_reducible refine below_drewN ?_ _) | (with_reducible refine below_via ?_ (by with_reducible assumption) ?_) | omega | (simp; done) | (simp; omega)))))).mono ?_); rintro e w1 ⟨v, rfl, hown1, hb1⟩; obtain ⟨fc1, fg1, hc1, hf1, hz1⟩ := bget hb1; (try simp at hz1); have HO1 := Lib.hid hown1; clear hown1)
  refine (delDropU l u v (w.heap.size + 1) _ _ hl (by omega) (HO1.out.mono (by simp)) (capUn (by omega) (by simp [hc1, go_sem]) (by simp [hc1, go_sem])) (by omega)).mono ?_
  rintro e w2 ⟨v2, rfl, hown2, hb2⟩
  go_wp2_with fail
  go_ret
  exact ⟨_, rfl, hown2.mono (by omega), by have hb3 := hb2.mono (show w.heap.size ≤ w.heap.size + 1 by omega); exact (((Below.refl w.heap.size w).alloc (Nat.le_refl _) _).trans (hb1.mono (by simp))).trans hb3⟩
end Go.Proofs.Ytffmljkpbgohkaa
