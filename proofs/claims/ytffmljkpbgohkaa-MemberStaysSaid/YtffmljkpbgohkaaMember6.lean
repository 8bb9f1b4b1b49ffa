/- Contracts of member.Check, the reference's Is, Find, Same. -/
import Derived.Test.YtffmljkpbgohkaaMember3
namespace Go.Proofs.Ytffmljkpbgohkaa
open Go.RowKit
set_option maxRecDepth 100000 in
set_option maxHeartbeats 4000000 in
theorem memCheckNo (m : Mem) (w : World) (h : ¬ okM m) :
    Calls Try.prog 26 #[.agg #[.int .i64 m.id, .int .i64 m.cap, .int .i64 m.phase, .int .i64 m.til]] w fun e w' => e = .returned (.int .i64 2) ∧ Below w.heap.size w w' := by
  by_cases h1 : m.id < 1
  · have d1 : decide (m.id < 1) = true := by simpa using h1
    clear h
    go_enter Try.func26, Try.ntmps26
    go_wp2
    go_ret
    exact ⟨rfl, by (repeat' (first | (with_reducible exact Below.refl _ _) | (with_reducible assumption) | (with_reducible refine Below.alloc ?_ ?_ _) | (with_reducible refine Below.setCell ?_ ?_ _) | (with_reducible refine Below.drew ?_) | (with_reducible refine below_drewN ?_ _) | (with_reducible refine below_via ?_ (by with_reducible assumption) ?_) | omega | (simp; done) | (simp; omega)))⟩
  have d1 : decide (m.id < 1) = false := by simpa using h1
  by_cases h2 : 8 < m.id
  · have d2 : decide (8 < m.id) = true := by simpa using h2
    clear h
    go_enter Try.func26, Try.ntmps26
    go_wp2
    go_ret
    exact ⟨rfl, by (repeat' (first | (with_reducible exact Below.refl _ _) | (with_reducible assumption) | (with_reducible refine Below.alloc ?_ ?_ _) | (with_reducible refine Below.setCell ?_ ?_ _) | (with_reducible refine Below.drew ?_) | (with_reducible refine below_drewN ?_ _) | (with_reducible refine below_via ?_ (by with_reducible assumption) ?_) | omega | (simp; done) | (simp; omega)))⟩
  have d2 : decide (8 < m.id) = false := by simpa using h2
  by_cases h3 : m.cap < 0
  · have d3 : decide (m.cap < 0) = true := by simpa using h3
    clear h
    go_enter Try.func26, Try.ntmps26
    go_wp2
    go_ret
    exact ⟨rfl, by (repeat' (first | (with_reducible exact Below.refl _ _) | (with_reducible assumption) | (with_reducible refine Below.alloc ?_ ?_ _) | (with_reducible refine Below.setCell ?_ ?_ _) | (with_reducible refine Below.drew ?_) | (with_reducible refine below_drewN ?_ _) | (with_reducible refine below_via ?_ (by with_reducible assumption) ?_) | omega | (simp; done) | (simp; omega)))⟩
  have d3 : decide (m.cap < 0) = false := by simpa using h3
  by_cases h4 : 4611686018427387904 < m.cap
  · have d4 : decide (4611686018427387904 < m.cap) = true := by simpa using h4
    clear h
    go_enter Try.func26, Try.ntmps26
    go_wp2
    go_ret
    exact ⟨rfl, by (repeat' (first | (with_reducible exact Below.refl _ _) | (with_reducible assumption) | (with_reducible refine Below.alloc ?_ ?_ _) | (with_reducible refine Below.setCell ?_ ?_ _) | (with_reducible refine Below.drew ?_) | (with_reducible refine below_drewN ?_ _) | (with_reducible refine below_via ?_ (by with_reducible assumption) ?_) | omega | (simp; done) | (simp; omega)))⟩
  have d4 : decide (4611686018427387904 < m.cap) = false := by simpa using h4
  by_cases h5 : m.phase < 0
  · have d5 : decide (m.phase < 0) = true := by simpa using h5
    clear h
    go_enter Try.func26, Try.ntmps26
    go_wp2
    go_ret
    exact ⟨rfl, by (repeat' (first | (with_reducible exact Below.refl _ _) | (with_reducible assumption) | (with_reducible refine Below.alloc ?_ ?_ _) | (with_reducible refine Below.setCell ?_ ?_ _) | (with_reducible refine Below.drew ?_) | (with_reducible refine below_drewN ?_ _) | (with_reducible refine below_via ?_ (by with_reducible assumption) ?_) | omega | (simp; done) | (simp; omega)))⟩
  have d5 : decide (m.phase < 0) = false := by simpa using h5
  by_cases h6 : 3 < m.phase
  · have d6 : decide (3 < m.phase) = true := by simpa using h6
    clear h
    go_enter Try.func26, Try.ntmps26
    go_wp2
    go_ret
    exact ⟨rfl, by (repeat' (first | (with_reducible exact Below.refl _ _) | (with_reducible assumption) | (with_reducible refine Below.alloc ?_ ?_ _) | (with_reducible refine Below.setCell ?_ ?_ _) | (with_reducible refine Below.drew ?_) | (with_reducible refine below_drewN ?_ _) | (with_reducible refine below_via ?_ (by with_reducible assumption) ?_) | omega | (simp; done) | (simp; omega)))⟩
  have d6 : decide (3 < m.phase) = false := by simpa using h6
  by_cases h7 : m.til < 0
  · have d7 : decide (m.til < 0) = true := by simpa using h7
    clear h
    go_enter Try.func26, Try.ntmps26
    go_wp2
    go_ret
    exact ⟨rfl, by (repeat' (first | (with_reducible exact Below.refl _ _) | (with_reducible assumption) | (with_reducible refine Below.alloc ?_ ?_ _) | (with_reducible refine Below.setCell ?_ ?_ _) | (with_reducible refine Below.drew ?_) | (with_reducible refine below_drewN ?_ _) | (with_reducible refine below_via ?_ (by with_reducible assumption) ?_) | omega | (simp; done) | (simp; omega)))⟩
  have d7 : decide (m.til < 0) = false := by simpa using h7
  by_cases h8 : 2097152 < m.til
  · have d8 : decide (2097152 < m.til) = true := by simpa using h8
    clear h
    go_enter Try.func26, Try.ntmps26
    go_wp2
    go_ret
    exact ⟨rfl, by (repeat' (first | (with_reducible exact Below.refl _ _) | (with_reducible assumption) | (with_reducible refine Below.alloc ?_ ?_ _) | (with_reducible refine Below.setCell ?_ ?_ _) | (with_reducible refine Below.drew ?_) | (with_reducible refine below_drewN ?_ _) | (with_reducible refine below_via ?_ (by with_reducible assumption) ?_) | omega | (simp; done) | (simp; omega)))⟩
  have d8 : decide (2097152 < m.til) = false := by simpa using h8
  exact absurd ⟨by omega, by omega, by omega, by omega, by omega, by omega, by omega, by omega⟩ h
instance (m : Mem) : Decidable (okM m) := by unfold okM; infer_instance
set_option maxRecDepth 100000 in
set_option maxHeartbeats 4000000 in
theorem refIs14 (m : Mem) (w : World) :
    Calls Try.prog 27 #[.agg #[.int .i64 m.id, .int .i64 m.cap, .int .i64 m.phase, .int .i64 m.til]] w fun e w' => e = .returned (.bool (decide (okM m))) ∧ Below w.heap.size w w' := by
  by_cases h1 : 0 < m.id
  rotate_left
  · have d1 : decide (0 < m.id) = false := by simpa using h1
    rw [show decide (okM m) = false from by simp only [decide_eq_false_iff_not]; unfold okM; omega]
    go_enter Try.func27, Try.ntmps27
    go_wp2
    go_ret
    exact ⟨rfl, by (repeat' (first | (with_reducible exact Below.refl _ _) | (with_reducible assumption) | (with_reducible refine Below.alloc ?_ ?_ _) | (with_reducible refine Below.setCell ?_ ?_ _) | (with_reducible refine Below.drew ?_) | (with_reducible refine below_drewN ?_ _) | (with_reducible refine below_via ?_ (by with_reducible assumption) ?_) | omega | (simp; done) | (simp; omega)))⟩
  have d1 : decide (0 < m.id) = true := by simpa using h1
  by_cases h2 : m.id < 9
  rotate_left
  · have d2 : decide (m.id < 9) = false := by simpa using h2
    rw [show decide (okM m) = false from by simp only [decide_eq_false_iff_not]; unfold okM; omega]
    go_enter Try.func27, Try.ntmps27
    go_wp2
    go_ret
    exact ⟨rfl, by (repeat' (first | (with_reducible exact Below.refl _ _) | (with_reducible assumption) | (with_reducible refine Below.alloc ?_ ?_ _) | (with_reducible refine Below.setCell ?_ ?_ _) | (with_reducible refine Below.drew ?_) | (with_reducible refine below_drewN ?_ _) | (with_reducible refine below_via ?_ (by with_reducible assumption) ?_) | omega | (simp; done) | (simp; omega)))⟩
  have d2 : decide (m.id < 9) = true := by simpa using h2
  by_cases h3 : 0 ≤ m.cap
  rotate_left
  · have d3 : decide (0 ≤ m.cap) = false := by simpa using h3
    rw [show decide (okM m) = false from by simp only [decide_eq_false_iff_not]; unfold okM; omega]
    go_enter Try.func27, Try.ntmps27
    go_wp2
    go_ret
    exact ⟨rfl, by (repeat' (first | (with_reducible exact Below.refl _ _) | (with_reducible assumption) | (with_reducible refine Below.alloc ?_ ?_ _) | (with_reducible refine Below.setCell ?_ ?_ _) | (with_reducible refine Below.drew ?_) | (with_reducible refine below_drewN ?_ _) | (with_reducible refine below_via ?_ (by with_reducible assumption) ?_) | omega | (simp; done) | (simp; omega)))⟩
  have d3 : decide (0 ≤ m.cap) = true := by simpa using h3
  by_cases h4 : m.cap ≤ 4611686018427387904
  rotate_left
  · have d4 : decide (m.cap ≤ 4611686018427387904) = false := by simpa using h4
    rw [show decide (okM m) = false from by simp only [decide_eq_false_iff_not]; unfold okM; omega]
    go_enter Try.func27, Try.ntmps27
    go_wp2
    go_ret
    exact ⟨rfl, by (repeat' (first | (with_reducible exact Below.refl _ _) | (with_reducible assumption) | (with_reducible refine Below.alloc ?_ ?_ _) | (with_reducible refine Below.setCell ?_ ?_ _) | (with_reducible refine Below.drew ?_) | (with_reducible refine below_drewN ?_ _) | (with_reducible refine below_via ?_ (by with_reducible assumption) ?_) | omega | (simp; done) | (simp; omega)))⟩
  have d4 : decide (m.cap ≤ 4611686018427387904) = true := by simpa using h4
  by_cases h5 : 0 ≤ m.phase
  rotate_left
  · have d5 : decide (0 ≤ m.phase) = false := by simpa using h5
    rw [show decide (okM m) = false from by simp only [decide_eq_false_iff_not]; unfold okM; omega]
    go_enter Try.func27, Try.ntmps27
    go_wp2
    go_ret
    exact ⟨rfl, by (repeat' (first | (with_reducible exact Below.refl _ _) | (with_reducible assumption) | (with_reducible refine Below.alloc ?_ ?_ _) | (with_reducible refine Below.setCell ?_ ?_ _) | (with_reducible refine Below.drew ?_) | (with_reducible refine below_drewN ?_ _) | (with_reducible refine below_via ?_ (by with_reducible assumption) ?_) | omega | (simp; done) | (simp; omega)))⟩
  have d5 : decide (0 ≤ m.phase) = true := by simpa using h5
  by_cases h6 : m.phase < 4
  rotate_left
  · have d6 : decide (m.phase < 4) = false := by simpa using h6
    rw [show decide (okM m) = false from by simp only [decide_eq_false_iff_not]; unfold okM; omega]
    go_enter Try.func27, Try.ntmps27
    go_wp2
    go_ret
    exact ⟨rfl, by (repeat' (first | (with_reducible exact Below.refl _ _) | (with_reducible assumption) | (with_reducible refine Below.alloc ?_ ?_ _) | (with_reducible refine Below.setCell ?_ ?_ _) | (with_reducible refine Below.drew ?_) | (with_reducible refine below_drewN ?_ _) | (with_reducible refine below_via ?_ (by with_reducible assumption) ?_) | omega | (simp; done) | (simp; omega)))⟩
  have d6 : decide (m.phase < 4) = true := by simpa using h6
  by_cases h7 : 0 ≤ m.til
  rotate_left
  · have d7 : decide (0 ≤ m.til) = false := by simpa using h7
    rw [show decide (okM m) = false from by simp only [decide_eq_false_iff_not]; unfold okM; omega]
    go_enter Try.func27, Try.ntmps27
    go_wp2
    go_ret
    exact ⟨rfl, by (repeat' (first | (with_reducible exact Below.refl _ _) | (with_reducible assumption) | (with_reducible refine Below.alloc ?_ ?_ _) | (with_reducible refine Below.setCell ?_ ?_ _) | (with_reducible refine Below.drew ?_) | (with_reducible refine below_drewN ?_ _) | (with_reducible refine below_via ?_ (by with_reducible assumption) ?_) | omega | (simp; done) | (simp; omega)))⟩
  have d7 : decide (0 ≤ m.til) = true := by simpa using h7
  by_cases h8 : m.til ≤ 2097152
  rotate_left
  · have d8 : decide (m.til ≤ 2097152) = false := by simpa using h8
    rw [show decide (okM m) = false from by simp only [decide_eq_false_iff_not]; unfold okM; omega]
    go_enter Try.func27, Try.ntmps27
    go_wp2
    go_ret
    exact ⟨rfl, by (repeat' (first | (with_reducible exact Below.refl _ _) | (with_reducible assumption) | (with_reducible refine Below.alloc ?_ ?_ _) | (with_reducible refine Below.setCell ?_ ?_ _) | (with_reducible refine Below.drew ?_) | (with_reducible refine below_drewN ?_ _) | (with_reducible refine below_via ?_ (by with_reducible assumption) ?_) | omega | (simp; done) | (simp; omega)))⟩
  have d8 : decide (m.til ≤ 2097152) = true := by simpa using h8
  rw [show decide (okM m) = true from by simp only [decide_eq_true_eq]; unfold okM; omega]
  go_enter Try.func27, Try.ntmps27
  go_wp2
  go_ret
  exact ⟨rfl, by (repeat' (first | (with_reducible exact Below.refl _ _) | (with_reducible assumption) | (with_reducible refine Below.alloc ?_ ?_ _) | (with_reducible refine Below.setCell ?_ ?_ _) | (with_reducible refine Below.drew ?_) | (with_reducible refine below_drewN ?_ _) | (with_reducible refine below_via ?_ (by with_reducible assumption) ?_) | omega | (simp; done) | (simp; omega)))⟩
def findM (l : List Mem) (id : Int) : Mem × Bool := match l.find? (fun m => m.id == id) with | some m => (m, true) | none => (⟨0, 0, 0, 0⟩, false)
theorem find_hit {l : List Mem} {id : Int} {k : Nat} (h : k < l.length) (hm : (l[k].id == id) = true) (hn : ∀ j (_ : j < l.length), j < k → (l[j].id == id) = false) : findM l id = (l[k], true) := by
  have : l.find? (fun m => m.id == id) = some l[k] := by
    rw [List.find?_eq_some_iff_getElem]
    exact ⟨hm, k, h, rfl, fun j hj => by simp [hn j (by omega) hj]⟩
  simp [findM, this]
theorem find_miss {l : List Mem} {id : Int} (hn : ∀ j (_ : j < l.length), (l[j].id == id) = false) : findM l id = (⟨0, 0, 0, 0⟩, false) := by
  have : l.find? (fun m => m.id == id) = none := by
    rw [List.find?_eq_none]
    intro x hx
    obtain ⟨j, hj, rfl⟩ := List.mem_iff_getElem.1 hx
    simp [hn j hj]
  simp [findM, this]
set_option maxRecDepth 100000 in
set_option maxHeartbeats 1000000 in
theorem refFind14 (l : List Mem) (id : Int) (A : Option Addr) (c : Nat) (w : World) (hl : l.length ≤ 1099511627776) (hr : Rd w A 4 (l.map encM)) :
    Calls Try.prog 34 #[.slice A l.length c, .int .i64 id] w fun e w' => e = .returned (.tuple #[.agg #[.int .i64 (findM l id).1.id, .int .i64 (findM l id).1.cap, .int .i64 (findM l id).1.phase, .int .i64 (findM l id).1.til], .bool (findM l id).2]) ∧ Below w.heap.size w w' := by
  have Hr := Lib.hid hr
  clear hr
  go_enter Try.func34, Try.ntmps34
  go_wp2_with fail
  go_loopw [6] (fun i wr => ∃ k : Nat, k ≤ l.length ∧ i = .int .i64 k ∧ Below w.heap.size w wr ∧ (wr.cell? ⟨w.heap.size, 0, none⟩ = some (.int .i64 0) ∧ wr.cell? ⟨w.heap.size, 1, none⟩ = some (.int .i64 0) ∧ wr.cell? ⟨w.heap.size, 2, none⟩ = some (.int .i64 0) ∧ wr.cell? ⟨w.heap.size, 3, none⟩ = some (.int .i64 0) ∧ wr.frozen? ⟨w.heap.size, 0, none⟩ = false ∧ wr.frozen? ⟨w.heap.size, 1, none⟩ = false ∧ wr.frozen? ⟨w.heap.size, 2, none⟩ = false ∧ wr.frozen? ⟨w.heap.size, 3, none⟩ = false) ∧ ∀ j (_ : j < l.length), j < k → (l[j].id == id) = false) (fun i _ => l.length - (intOf i).toNat)
  case atStart => exact ⟨0, Nat.zero_le _, rfl, by (repeat' (first | (with_reducible exact Below.refl _ _) | (with_reducible assumption) | (with_reducible refine Below.alloc ?_ ?_ _) | (with_reducible refine Below.setCell ?_ ?_ _) | (with_reducible refine Below.drew ?_) | (with_reducible refine below_drewN ?_ _) | (with_reducible refine below_via ?_ (by with_reducible assumption) ?_) | omega | (simp; done) | (simp; omega))), by simp [go_sem], fun j _ h => absurd h (by omega)⟩
  case round =>
    obtain ⟨k, hk, rfl, hbl, ⟨g0, g1, g2, g3, f0, f1, f2, f3⟩, hno⟩ := hrel
    have Hbl := Lib.hid hbl
    have Hno := Lib.hid hno
    have hz := hbl.size
    clear hbl hno
    by_cases hlt : k < l.length
    · obtain ⟨b, o, rfl, hb, hc⟩ := Hr.out k (encM l[k]) (by simp [hlt])
      have c0 := (Hbl.out.cell (p := ⟨b, o + k * 4 + 0, none⟩) hb).trans (hc 0 _ rfl)
      have c1 := (Hbl.out.cell (p := ⟨b, o + k * 4 + 1, none⟩) hb).trans (hc 1 _ rfl)
      have c2 := (Hbl.out.cell (p := ⟨b, o + k * 4 + 2, none⟩) hb).trans (hc 2 _ rfl)
      have c3 := (Hbl.out.cell (p := ⟨b, o + k * 4 + 3, none⟩) hb).trans (hc 3 _ rfl)
      simp only [Nat.add_zero] at c0
      clear hc
      cases hm : (l[k].id == id)
      · have Hm := Lib.hid hm
        go_wp2_with fail
        go_roundw
        case rel => exact ⟨k + 1, by omega, by go_num, Hbl.out, ⟨g0, g1, g2, g3, f0, f1, f2, f3⟩, fun j hj h => by
          rcases Nat.lt_or_ge j k with h1 | h1
          · exact Hno.out j hj h1
          · obtain rfl : j = k := by omega
            exact Hm.out⟩
        case measure => simp [intOf]; omega
      · have hi := find_hit hlt hm Hno.out
        have Hi := Lib.hid hi
        clear hi
        go_wp2_with fail
        rw [Hi.out]
        have hbl := Hbl.out
        refine bodyPost_ret (by simp [results, Try.results34, go_sem, g0, g1, g2, g3]; try rfl) rfl ⟨rfl, ?_⟩
        (repeat' (first | (with_reducible exact Below.refl _ _) | (with_reducible assumption) | (with_reducible refine Below.alloc ?_ ?_ _) | (with_reducible refine Below.setCell ?_ ?_ _) | (with_reducible refine Below.drew ?_) | (with_reducible refine below_drewN ?_ _) | (with_reducible refine below_via ?_ (by with_reducible assumption) ?_) | omega | (simp; done) | (simp; omega)))
    · have hi := find_miss (l := l) (fun j hj => Hno.out j hj (by omega))
      have Hi := Lib.hid hi
      clear hi
      go_wp2_with fail
      rw [Hi.out]
      have hbl := Hbl.out
      refine bodyPost_ret (by simp [results, Try.results34, go_sem, g0, g1, g2, g3]; try rfl) rfl ⟨rfl, ?_⟩
      (repeat' (first | (with_reducible exact Below.refl _ _) | (with_reducible assumption) | (with_reducible refine Below.alloc ?_ ?_ _) | (with_reducible refine Below.setCell ?_ ?_ _) | (with_reducible refine Below.drew ?_) | (with_reducible refine below_drewN ?_ _) | (with_reducible refine below_via ?_ (by with_reducible assumption) ?_) | omega | (simp; done) | (simp; omega)))
end Go.Proofs.Ytffmljkpbgohkaa
