/- Contracts of member.Find, the reference's Same, Put. -/
import Derived.Test.YtffmljkpbgohkaaMember6
namespace Go.Proofs.Ytffmljkpbgohkaa
open Go.RowKit
theorem idx_cases {α : Type} (p : α → Bool) (l : List α) : (∃ k, ∃ h : k < l.length, p l[k] = true ∧ (∀ j (_ : j < l.length), j < k → p l[j] = false) ∧ idxOf p l = k) ∨ ((∀ j (_ : j < l.length), p l[j] = false) ∧ idxOf p l = -1) := by
  unfold idxOf
  cases h : l.findIdx? p with
  | none =>
    right
    refine ⟨fun j hj => ?_, rfl⟩
    rw [List.findIdx?_eq_none_iff] at h
    exact h _ (List.getElem_mem hj)
  | some k =>
    left
    rw [List.findIdx?_eq_some_iff_getElem] at h
    obtain ⟨hk, h1, h2⟩ := h
    exact ⟨k, hk, h1, fun j hj hjk => by have := h2 j hjk; simpa using this, rfl⟩
theorem idx_find {l : List Mem} {id : Int} : 0 ≤ idxOf (fun m : Mem => m.id == id) l ↔ (findM l id).2 = true := by
  rcases idx_cases (fun m : Mem => m.id == id) l with ⟨k, hk, hm, hn, he⟩ | ⟨hn, he⟩
  · rw [he, find_hit hk hm hn]; simp
  · rw [he, find_miss hn]; simp
set_option maxRecDepth 100000 in
set_option maxHeartbeats 1000000 in
theorem memFind (l : List Mem) (id : Int) (A : Option Addr) (c : Nat) (w : World) (hl : l.length ≤ 1099511627776) (hr : Rd w A 4 (l.map encM)) :
    Calls Try.prog 33 #[.slice A l.length c, .int .i64 id] w fun e w' => e = .returned (.tuple #[.agg #[.int .i64 (findM l id).1.id, .int .i64 (findM l id).1.cap, .int .i64 (findM l id).1.phase, .int .i64 (findM l id).1.til], .bool (findM l id).2]) ∧ Below w.heap.size w w' := by
  have c1 := fun W (h : Rd W A 4 (l.map encM)) => memAt l id A c W hl h
  have HR := Lib.hid hr
  rcases idx_cases (fun m : Mem => m.id == id) l with ⟨k, hk, hm, hn, he⟩ | ⟨hn, he⟩
  · rw [find_hit hk hm hn]
    rw [he] at c1
    have C1 := Lib.hid c1
    have kl : (k : Int) < (l.length : Int) := by omega
    obtain ⟨b, o, rfl, hb, hc⟩ := hr k (encM l[k]) (by simp [hk])
    have e0 := hc 0 _ rfl
    have e1 := hc 1 _ rfl
    have e2 := hc 2 _ rfl
    have e3 := hc 3 _ rfl
    simp only [Nat.add_zero] at e0
    clear hr he hm hn hc c1
    go_enter Try.func33, Try.ntmps33
    go_wp2_with (go_at_call 66; (with_reducible refine (C1.out _ (HR.out.keep (by (repeat' (first | (with_reducible exact Below.refl _ _) | (with_reducible assumption) | (with_reducible refine Below.alloc ?_ ?_ _) | (with_reducible refine Below.setCell ?_ ?_ _) | (with_reducible refine Below.drew ?_) | (with_reducible refine below_drewN ?_ _) | (with_reducible refine below_via ?_ (by with_reducible assumption) ?_) | omega | (simp; done) | (simp; omega)))))).mono ?_); rintro e w1 ⟨rfl, hb1⟩; obtain ⟨fc1, fg1, hc1, hf1, hz1⟩ := bget hb1; try simp at hz1)
    have g0 : w1.cell? ⟨w.heap.size, 0, none⟩ = some (.int .i64 0) := by simp [go_sem, hc1]
    have g1 : w1.cell? ⟨w.heap.size, 1, none⟩ = some (.int .i64 0) := by simp [go_sem, hc1]
    have g2 : w1.cell? ⟨w.heap.size, 2, none⟩ = some (.int .i64 0) := by simp [go_sem, hc1]
    have g3 : w1.cell? ⟨w.heap.size, 3, none⟩ = some (.int .i64 0) := by simp [go_sem, hc1]
    refine bodyPost_ret (by simp [results, Try.results33, go_sem, g0, g1, g2, g3]; try rfl) rfl ⟨rfl, ?_⟩
    (repeat' (first | (with_reducible exact Below.refl _ _) | (with_reducible assumption) | (with_reducible refine Below.alloc ?_ ?_ _) | (with_reducible refine Below.setCell ?_ ?_ _) | (with_reducible refine Below.drew ?_) | (with_reducible refine below_drewN ?_ _) | (with_reducible refine below_via ?_ (by with_reducible assumption) ?_) | omega | (simp; done) | (simp; omega)))
  · rw [find_miss hn]
    rw [he] at c1
    have C1 := Lib.hid c1
    clear hr he hn c1
    go_enter Try.func33, Try.ntmps33
    go_wp2_with (go_at_call 66; (with_reducible refine (C1.out _ (HR.out.keep (by (repeat' (first | (with_reducible exact Below.refl _ _) | (with_reducible assumption) | (with_reducible refine Below.alloc ?_ ?_ _) | (with_reducible refine Below.setCell ?_ ?_ _) | (with_reducible refine Below.drew ?_) | (with_reducible refine below_drewN ?_ _) | (with_reducible refine below_via ?_ (by with_reducible assumption) ?_) | omega | (simp; done) | (simp; omega)))))).mono ?_); rintro e w1 ⟨rfl, hb1⟩; obtain ⟨fc1, fg1, hc1, hf1, hz1⟩ := bget hb1; try simp at hz1)
    have g0 : w1.cell? ⟨w.heap.size, 0, none⟩ = some (.int .i64 0) := by simp [go_sem, hc1]
    have g1 : w1.cell? ⟨w.heap.size, 1, none⟩ = some (.int .i64 0) := by simp [go_sem, hc1]
    have g2 : w1.cell? ⟨w.heap.size, 2, none⟩ = some (.int .i64 0) := by simp [go_sem, hc1]
    have g3 : w1.cell? ⟨w.heap.size, 3, none⟩ = some (.int .i64 0) := by simp [go_sem, hc1]
    refine bodyPost_ret (by simp [results, Try.results33, go_sem, g0, g1, g2, g3]; try rfl) rfl ⟨rfl, ?_⟩
    (repeat' (first | (with_reducible exact Below.refl _ _) | (with_reducible assumption) | (with_reducible refine Below.alloc ?_ ?_ _) | (with_reducible refine Below.setCell ?_ ?_ _) | (with_reducible refine Below.drew ?_) | (with_reducible refine below_drewN ?_ _) | (with_reducible refine below_via ?_ (by with_reducible assumption) ?_) | omega | (simp; done) | (simp; omega)))
set_option maxRecDepth 100000 in
set_option maxHeartbeats 1000000 in
theorem refSame14 (l : List Mem) (A B : Option Addr) (c d : Nat) (w : World) (hl : l.length ≤ 1099511627776) (ha : Rd w A 4 (l.map encM)) (hb : Rd w B 4 (l.map encM)) :
    Calls Try.prog 35 #[.slice A l.length c, .slice B l.length d] w fun e w' => e = .returned (.bool true) ∧ Below w.heap.size w w' := by
  have HA := Lib.hid ha
  have HB := Lib.hid hb
  clear ha hb
  go_enter Try.func35, Try.ntmps35
  go_wp2_with fail
  go_loopw [5] (fun i wr => ∃ k : Nat, k ≤ l.length ∧ i = .int .i64 k ∧ ∃ n, wr = w.drewN n) (fun i _ => l.length - (intOf i).toNat)
  case atStart => exact ⟨0, Nat.zero_le _, rfl, 0, rfl⟩
  case round =>
    obtain ⟨k, hk, rfl, nn, rfl⟩ := hrel
    by_cases hlt : k < l.length
    · have kl : (k : Int) < (l.length : Int) := by omega
      obtain ⟨b1, o1, rfl, hb1, hc1⟩ := HA.out k (encM l[k]) (by simp [hlt])
      obtain ⟨b2, o2, rfl, hb2, hc2⟩ := HB.out k (encM l[k]) (by simp [hlt])
      have e0 := hc1 0 _ rfl
      have e1 := hc1 1 _ rfl
      have e2 := hc1 2 _ rfl
      have e3 := hc1 3 _ rfl
      have f0 := hc2 0 _ rfl
      have f1 := hc2 1 _ rfl
      have f2 := hc2 2 _ rfl
      have f3 := hc2 3 _ rfl
      simp only [Nat.add_zero] at e0 f0
      clear hc1 hc2
      go_wp2_with fail
      go_quiet (fail)
      go_wp2_with fail
      go_roundw
      case rel => exact ⟨k + 1, by omega, by go_num, _, rfl⟩
      case measure => simp [intOf]; omega
    · go_wp2_with fail
      go_ret
      exact ⟨rfl, by (repeat' (first | (with_reducible exact Below.refl _ _) | (with_reducible assumption) | (with_reducible refine Below.alloc ?_ ?_ _) | (with_reducible refine Below.setCell ?_ ?_ _) | (with_reducible refine Below.drew ?_) | (with_reducible refine below_drewN ?_ _) | (with_reducible refine below_via ?_ (by with_reducible assumption) ?_) | omega | (simp; done) | (simp; omega)))⟩
end Go.Proofs.Ytffmljkpbgohkaa
