/- Contracts of member.Check, Put onto nothing; the law's lives. -/
import Derived.Test.YtffmljkpbgohkaaMember2
namespace Go.Proofs.Ytffmljkpbgohkaa
open Go.RowKit
def okM (m : Mem) : Prop := 1 ≤ m.id ∧ m.id ≤ 8 ∧ 0 ≤ m.cap ∧ m.cap ≤ 4611686018427387904 ∧ 0 ≤ m.phase ∧ m.phase ≤ 3 ∧ 0 ≤ m.til ∧ m.til ≤ 2097152
set_option maxRecDepth 100000 in
set_option maxHeartbeats 1000000 in
theorem memCheckYes (m : Mem) (w : World) (h : okM m) :
    Calls Try.prog 26 #[.agg #[.int .i64 m.id, .int .i64 m.cap, .int .i64 m.phase, .int .i64 m.til]] w fun e w' => e = .returned (.int .i64 0) ∧ Below w.heap.size w w' := by
  obtain ⟨h1, h2, h3, h4, h5, h6, h7, h8⟩ := h
  have d1 : decide (m.id < 1) = false := by simp; omega
  have d2 : decide (8 < m.id) = false := by simp; omega
  have d3 : decide (m.cap < 0) = false := by simp; omega
  have d4 : decide (4611686018427387904 < m.cap) = false := by simp; omega
  have d5 : decide (m.phase < 0) = false := by simp; omega
  have d6 : decide (3 < m.phase) = false := by simp; omega
  have d7 : decide (m.til < 0) = false := by simp; omega
  have d8 : decide (2097152 < m.til) = false := by simp; omega
  go_enter Try.func26, Try.ntmps26
  go_wp2
  go_ret
  exact ⟨rfl, by (repeat' (first | (with_reducible exact Below.refl _ _) | (with_reducible assumption) | (with_reducible refine Below.alloc ?_ ?_ _) | (with_reducible refine Below.setCell ?_ ?_ _) | (with_reducible refine Below.drew ?_) | (with_reducible refine below_drewN ?_ _) | (with_reducible refine below_via ?_ (by with_reducible assumption) ?_) | omega | (simp; done) | (simp; omega)))⟩
theorem memAtNil (id : Int) (w : World) : Calls Try.prog 66 #[.slice none 0 0, .int .i64 id] w fun e w' => e = .returned (.int .i64 (-1)) ∧ Below w.heap.size w w' := memAt [] id none 0 w (by simp) (fun i r hr => by simp at hr)
theorem memCloneNil (w : World) : Calls Try.prog 67 #[.slice none 0 0] w fun e w' => ∃ v, e = .returned v ∧ Own w' w.heap.size 36 4 v [] ∧ Below w.heap.size w w' := memClone [] none 0 w (by simp) (fun i r hr => by simp at hr) (fun _ => rfl)
set_option maxRecDepth 100000 in
set_option maxHeartbeats 1000000 in
theorem memPutNil (m : Mem) (w : World) (h : okM m) :
    Calls Try.prog 29 #[.slice none 0 0, .agg #[.int .i64 m.id, .int .i64 m.cap, .int .i64 m.phase, .int .i64 m.til]] w fun e w' => ∃ v, e = .returned (.tuple #[v, .int .i64 0]) ∧ Own w' w.heap.size 36 4 v [encM m] ∧ Below w.heap.size w w' := by
  have HO := Lib.hid h
  clear h
  go_enter Try.func29, Try.ntmps29
  go_wp2_with (first | (go_at_call 26; (with_reducible refine (memCheckYes m _ HO.out).mono ?_); rintro e w1 ⟨rfl, hb1⟩; obtain ⟨fc1, fg1, hc1, hf1, hz1⟩ := bget hb1; try simp at hz1) | (go_at_call 66; (with_reducible refine (memAtNil m.id _).mono ?_); rintro e w2 ⟨rfl, hb2⟩; obtain ⟨fc2, fg2, hc2, hf2, hz2⟩ := bget hb2; try simp at hz2))
  go_region_held3 (fun w' => w'.cell? ⟨w.heap.size, 0, none⟩ = some (.int .i64 m.id) ∧ w'.cell? ⟨w.heap.size, 1, none⟩ = some (.int .i64 m.cap) ∧ w'.cell? ⟨w.heap.size, 2, none⟩ = some (.int .i64 m.phase) ∧ w'.cell? ⟨w.heap.size, 3, none⟩ = some (.int .i64 m.til)) (first | (simp [go_sem]; done) | (repeat' (first | (with_reducible assumption) | (with_reducible refine And.intro ?_ ?_) | (with_reducible refine cell_drew ?_) | (with_reducible refine cell_via (by with_reducible assumption) ?_ ?_) | (simp [*]; done) | (simp [go_sem]; done) | (with_reducible refine cell_alloc ?_ ?_) | (with_reducible refine cell_set_far ?_ ?_) | omega | (simp; omega)))) (first | (go_at_call 67; (with_reducible refine (memCloneNil _).mono ?_); rintro e w3 ⟨v, rfl, hown3, hb3⟩; obtain ⟨fc3, fg3, hc3, hf3, hz3⟩ := bget hb3; (try simp at hz3)) | (refine step_app rfl _ _ _ rfl elM w2.heap.size _ [] rfl (by first | exact (hown3.mono (by first | omega | (simp; done) | (simp; omega))).alloc _ | exact hown3.mono (by first | omega | (simp; done) | (simp; omega))) _ 1 1 rfl [encM m] rfl (fun h => by cases h) (by first | exact rd_one | exact rd_one.drew.keep hb3) (by simp [encM]; exact ⟨rfl, rfl, rfl, rfl⟩) (by unfold maxLen; simp) (by simp) (by first | omega | (simp; done) | (simp; omega)) ?_; intro v' w4 hown4 hb4; obtain ⟨fc4, fg4, hc4, hf4, hz4⟩ := bget hb4; (try simp at hz4)))
  all_goals
    obtain ⟨A5, c5, rfl, hcc, hmm, hr5, hA5⟩ := hown4.shape
    have Hown := Lib.hid hown4
    simp only [List.length_append, List.length_cons, List.length_nil, Nat.zero_add] at hcc
    clear hown4 hA5 hr5
    go_wp2_with fail
    refine wp_loop_rounds 1 ?_
    rw [rounds_succ]
    go_wp2_with fail
    go_quiet (fail)
    go_wp2_with fail
    go_ret2
    exact ⟨_, rfl, (Hown.out.mono (by first | omega | (simp; done) | (simp; omega))), by (repeat' (first | (with_reducible exact Below.refl _ _) | (with_reducible assumption) | (with_reducible refine Below.alloc ?_ ?_ _) | (with_reducible refine Below.setCell ?_ ?_ _) | (with_reducible refine Below.drew ?_) | (with_reducible refine below_drewN ?_ _) | (with_reducible refine below_via ?_ (by with_reducible assumption) ?_) | omega | (simp; done) | (simp; omega)))⟩
end Go.Proofs.Ytffmljkpbgohkaa
