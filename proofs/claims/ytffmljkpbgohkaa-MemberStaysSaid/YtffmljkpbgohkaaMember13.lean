/- Contract of member.Put for a sorted table: the walk. -/
import Derived.Test.YtffmljkpbgohkaaMember12
namespace Go.Proofs.Ytffmljkpbgohkaa
open Go.RowKit
set_option maxRecDepth 100000 in
set_option maxHeartbeats 4000000 in
theorem memPut (l : List Mem) (m : Mem) (A : Option Addr) (c : Nat) (w : World) (hl : l.length ≤ 1000000) (hs : SortedM l) (hr : IsMs w l A c) :
    Calls Try.prog 29 #[.slice A l.length c, .agg #[.int .i64 m.id, .int .i64 m.cap, .int .i64 m.phase, .int .i64 m.til]] w (PutPost w l m) := by
  have HR := Lib.hid hr
  have c2 := fun W (h : Rd W A 4 (l.map encM)) => memAt l m.id A c W (by omega) h
  have hA : A = none → c = 0 := by rintro rfl; rcases hr.form with ⟨_, _, h⟩ | ⟨b, o, h⟩; exact h; cases h
  by_cases hok : okM m
  rotate_left
  · have hp : putL l m = [] := by unfold putL; rw [if_neg (fun h => hok h.1)]
    have hq : putC l m = 2 := by unfold putC; rw [if_neg hok]
    have HP := Lib.hid hp
    have HQ := Lib.hid hq
    have HO := Lib.hid hok
    clear hr c2 hp hq hok hA hs
    go_enter Try.func29, Try.ntmps29
    go_wp2_with (go_at_call 26; (with_reducible refine (memCheckNo m _ HO.out).mono ?_); rintro e w1 ⟨rfl, hb1⟩; obtain ⟨fc1, fg1, hc1, hf1, hz1⟩ := bget hb1; try simp at hz1)
    go_ret2
    exact ⟨_, by rw [HQ.out]; rfl, by rw [HP.out]; exact Own.nil _ _ _ _, by (repeat' (first | (with_reducible exact Below.refl _ _) | (with_reducible assumption) | (with_reducible refine Below.alloc ?_ ?_ _) | (with_reducible refine Below.setCell ?_ ?_ _) | (with_reducible refine Below.drew ?_) | (with_reducible refine below_drewN ?_ _) | (with_reducible refine below_via ?_ (by with_reducible assumption) ?_) | omega | (simp; done) | (simp; omega)))⟩
  rcases idx_cases (fun m' : Mem => m'.id == m.id) l with ⟨k, hk, hm, hn, he⟩ | ⟨hn, he⟩
  · have hf : (findM l m.id).2 = true := by rw [find_hit hk hm hn]
    have hp : putL l m = [] := by unfold putL; rw [hf, if_neg (by simp)]
    have hq : putC l m = 12 := by unfold putC; rw [if_pos hok, hf]; rfl
    rw [he] at c2
    have kp : decide ((0 : Int) ≤ (k : Int)) = true := by simp
    have HP := Lib.hid hp
    have HQ := Lib.hid hq
    have HO := Lib.hid hok
    have C2 := Lib.hid c2
    clear hr c2 hp hq hok hA hn he hf hs hm
    go_enter Try.func29, Try.ntmps29
    go_wp2_with (first | (go_at_call 26; (with_reducible refine (memCheckYes m _ HO.out).mono ?_); rintro e w1 ⟨rfl, hb1⟩; obtain ⟨fc1, fg1, hc1, hf1, hz1⟩ := bget hb1; try simp at hz1) | (go_at_call 66; (with_reducible refine (C2.out _ (HR.out.rd.keep (by (repeat' (first | (with_reducible exact Below.refl _ _) | (with_reducible assumption) | (with_reducible refine Below.alloc ?_ ?_ _) | (with_reducible refine Below.setCell ?_ ?_ _) | (with_reducible refine Below.drew ?_) | (with_reducible refine below_drewN ?_ _) | (with_reducible refine below_via ?_ (by with_reducible assumption) ?_) | omega | (simp; done) | (simp; omega)))))).mono ?_); rintro e w2 ⟨rfl, hb2⟩; obtain ⟨fc2, fg2, hc2, hf2, hz2⟩ := bget hb2; try simp at hz2))
    go_ret2
    exact ⟨_, by rw [HQ.out]; rfl, by rw [HP.out]; exact Own.nil _ _ _ _, by (repeat' (first | (with_reducible exact Below.refl _ _) | (with_reducible assumption) | (with_reducible refine Below.alloc ?_ ?_ _) | (with_reducible refine Below.setCell ?_ ?_ _) | (with_reducible refine Below.drew ?_) | (with_reducible refine below_drewN ?_ _) | (with_reducible refine below_via ?_ (by with_reducible assumption) ?_) | omega | (simp; done) | (simp; omega)))⟩
  have hf : (findM l m.id).2 = false := by rw [find_miss hn]
  have hp : putL l m = insM l m := by unfold putL; rw [hf, if_pos ⟨hok, rfl⟩]
  have hq : putC l m = 0 := by unfold putC; rw [if_pos hok, hf]; rfl
  rw [he] at c2
  have HP := Lib.hid hp
  have HQ := Lib.hid hq
  have HO := Lib.hid hok
  have C2 := Lib.hid c2
  have HA := Lib.hid hA
  have HF := Lib.hid hf
  have HS := Lib.hid hs
  clear hr c2 hp hq hok hA hn he hf hs
  go_enter Try.func29, Try.ntmps29
  go_wp2_with (first | (go_at_call 26; (with_reducible refine (memCheckYes m _ HO.out).mono ?_); rintro e w1 ⟨rfl, hb1⟩; obtain ⟨fc1, fg1, hc1, hf1, hz1⟩ := bget hb1; try simp at hz1) | (go_at_call 66; (with_reducible refine (C2.out _ (HR.out.rd.keep (by (repeat' (first | (with_reducible exact Below.refl _ _) | (with_reducible assumption) | (with_reducible refine Below.alloc ?_ ?_ _) | (with_reducible refine Below.setCell ?_ ?_ _) | (with_reducible refine Below.drew ?_) | (with_reducible refine below_drewN ?_ _) | (with_reducible refine below_via ?_ (by with_reducible assumption) ?_) | omega | (simp; done) | (simp; omega)))))).mono ?_); rintro e w2 ⟨rfl, hb2⟩; obtain ⟨fc2, fg2, hc2, hf2, hz2⟩ := bget hb2; try simp at hz2))
  go_region_held3 (fun w' => w'.cell? ⟨w.heap.size, 0, none⟩ = some (.int .i64 m.id) ∧ w'.cell? ⟨w.heap.size, 1, none⟩ = some (.int .i64 m.cap) ∧ w'.cell? ⟨w.heap.size, 2, none⟩ = some (.int .i64 m.phase) ∧ w'.cell? ⟨w.heap.size, 3, none⟩ = some (.int .i64 m.til)) (first | (simp [go_sem]; done) | (repeat' (first | (with_reducible assumption) | (with_reducible refine And.intro ?_ ?_) | (with_reducible refine cell_drew ?_) | (with_reducible refine cell_via (by with_reducible assumption) ?_ ?_) | (simp [*]; done) | (simp [go_sem]; done) | (with_reducible refine cell_alloc ?_ ?_) | (with_reducible refine cell_set_far ?_ ?_) | omega | (simp; omega)))) (first | (go_at_call 67; (with_reducible refine (memClone l A c _ (by omega) (HR.out.rd.keep (by (repeat' (first | (with_reducible exact Below.refl _ _) | (with_reducible assumption) | (with_reducible refine Below.alloc ?_ ?_ _) | (with_reducible refine Below.setCell ?_ ?_ _) | (with_reducible refine Below.drew ?_) | (with_reducible refine below_drewN ?_ _) | (with_reducible refine below_via ?_ (by with_reducible assumption) ?_) | omega | (simp; done) | (simp; omega))))) HA.out).mono ?_); rintro e w3 ⟨v, rfl, hown3, hb3⟩; obtain ⟨fc3, fg3, hc3, hf3, hz3⟩ := bget hb3; (try simp at hz3)) | (refine step_app rfl _ _ _ rfl elM w2.heap.size _ (l.map encM) rfl (by first | exact (hown3.mono (by first | omega | (simp; done) | (simp; omega))).alloc _ | exact hown3.mono (by first | omega | (simp; done) | (simp; omega))) _ 1 1 rfl [encM m] rfl (fun h => by cases h) (by first | exact rd_one | exact rd_one.drew.keep hb3) (encM_rows [m]) (by unfold maxLen; simp; omega) (by simp; omega) (by first | omega | (simp; done) | (simp; omega)) ?_; intro v' w4 hown4 hb4; obtain ⟨fc4, fg4, hc4, hf4, hz4⟩ := bget hb4; (try simp at hz4)))
  all_goals
    have m0 : w4.cell? ⟨w.heap.size, 0, none⟩ = some (.int .i64 m.id) := by simp [go_sem, hc4, hc3, hc2, hc1, ↓IntWalk.iteOmega]
    have hb5 : Below w.heap.size w w4 := by (repeat' (first | (with_reducible exact Below.refl _ _) | (with_reducible assumption) | (with_reducible refine Below.alloc ?_ ?_ _) | (with_reducible refine Below.setCell ?_ ?_ _) | (with_reducible refine Below.drew ?_) | (with_reducible refine below_drewN ?_ _) | (with_reducible refine below_via ?_ (by with_reducible assumption) ?_) | omega | (simp; done) | (simp; omega)))
    have hsz : w.heap.size + 1 ≤ w4.heap.size := (by first | omega | (simp; done) | (simp; omega))
    have hbase : w.heap.size + 1 ≤ w2.heap.size := (by first | omega | (simp; done) | (simp; omega))
    have hown5 : Own w4 (w.heap.size + 1) 36 4 v' ((putAt l m l.length).map encM) := by
      have := hown4.mono hbase
      simpa [putAt] using this
    have m1 : w4.cell? ⟨w.heap.size, 1, none⟩ = some (.int .i64 m.cap) := by simp [go_sem, hc4, hc3, hc2, hc1, ↓IntWalk.iteOmega]
    have m2 : w4.cell? ⟨w.heap.size, 2, none⟩ = some (.int .i64 m.phase) := by simp [go_sem, hc4, hc3, hc2, hc1, ↓IntWalk.iteOmega]
    have m3 : w4.cell? ⟨w.heap.size, 3, none⟩ = some (.int .i64 m.til) := by simp [go_sem, hc4, hc3, hc2, hc1, ↓IntWalk.iteOmega]
    obtain ⟨A5, c5, hv5, hcap5, hroom5, _, hform5⟩ := hown5.shape
    obtain ⟨g, rfl, hg1, hg2⟩ := hform5 (by simp [putAt])
    rw [List.length_map, putAt_len] at hv5 hcap5
    subst hv5
    have Hown5 := Lib.hid hown5
    have Hb5 := Lib.hid hb5
    have hgl : g ≠ w.heap.size := by omega
    clear hown5 hb5 hform5 hown4 hc4 hf4
    go_wp2_with fail
    go_loopw [8] (fun i wr => ∃ k : Nat, k ≤ l.length ∧ i = .int .i64 k ∧ Own wr (w.heap.size + 1) 36 4 (.slice (some ⟨g, 0, none⟩) (l.length + 1) c5) ((putAt l m k).map encM) ∧ Below w.heap.size w wr ∧ w.heap.size + 1 ≤ wr.heap.size ∧ (wr.cell? ⟨w.heap.size, 0, none⟩ = some (.int .i64 m.id) ∧ wr.cell? ⟨w.heap.size, 1, none⟩ = some (.int .i64 m.cap) ∧ wr.cell? ⟨w.heap.size, 2, none⟩ = some (.int .i64 m.phase) ∧ wr.cell? ⟨w.heap.size, 3, none⟩ = some (.int .i64 m.til)) ∧ ∀ j (_ : j < l.length), k ≤ j → m.id < l[j].id) (fun i _ => (intOf i).toNat)
    case atStart => exact ⟨l.length, Nat.le_refl _, by go_num, Hown5.out, Hb5.out, hsz, ⟨m0, m1, m2, m3⟩, fun j hj h => absurd hj (by omega)⟩
    case round =>
      obtain ⟨k, hk, rfl, hown, hbl, hszr, ⟨g0, g1, g2, g3⟩, hup⟩ := hrel
      have Hown := Lib.hid hown
      have Hbl := Lib.hid hbl
      have Hup := Lib.hid hup
      clear hown hbl hup m0 m1 m2 m3
      by_cases h0 : k = 0
      · subst h0
        have HI := Lib.hid (ins_at (m := m) (i := 0) HS.out (Nat.zero_le _) HF.out (fun _ h => absurd h (by omega)) (fun h => Hup.out 0 h (Nat.le_refl _)))
        go_wp2_with fail
        go_quiet (fail)
        go_wp2_with fail
        go_ret2
        exact ⟨_, by rw [HQ.out]; rfl, by rw [HP.out, HI.out]; exact own_drewN (Hown.out.mono (by omega)) _, below_drewN Hbl.out _⟩
      · have kl : (k : Int) ≤ (l.length : Int) := by omega
        have k0 : 0 < k := by omega
        have k0i : (0 : Int) < (k : Int) := by omega
        have kd : decide ((0 : Int) < (k : Int)) = true := by simpa using k0
        have hrd6 := (Hown.out.rd).1
        obtain ⟨b1, o1, q1, _, hc1'⟩ := hrd6 (k - 1) (encM l[k - 1]) (by rw [List.getElem?_map, putAt_low hk (by omega), List.getElem?_eq_getElem (by omega)]; rfl)
        obtain ⟨b2, o2, q2, _, hc2'⟩ := hrd6 k (encM m) (by rw [List.getElem?_map, putAt_self hk]; rfl)
        injection q1 with q1
        injection q1 with q1 q1' _
        injection q2 with q2
        injection q2 with q2 q2' _
        subst q1 q1' q2 q2'
        have x0 := hc1' 0 _ rfl
        have x1 := hc1' 1 _ rfl
        have x2 := hc1' 2 _ rfl
        have x3 := hc1' 3 _ rfl
        have y0 := hc2' 0 _ rfl
        have y1 := hc2' 1 _ rfl
        have y2 := hc2' 2 _ rfl
        have y3 := hc2' 3 _ rfl
        simp only [Nat.add_zero, Nat.zero_add] at x0 x1 x2 x3 y0 y1 y2 y3
        obtain ⟨cur, hblk⟩ := Hown.out.blk rfl
        have fz := fun i => hblk.frozen i
        clear hrd6 hc1' hc2' hblk
        cases hm : decide (m.id < l[k - 1].id)
        · have HI := Lib.hid (ins_at (m := m) (i := k) HS.out hk HF.out (fun _ _ => by simpa using hm) (fun h => Hup.out k h (Nat.le_refl _)))
          go_wp2_with fail
          go_quiet (fail)
          go_wp2_with fail
          go_ret2
          exact ⟨_, by rw [HQ.out]; rfl, by rw [HP.out, HI.out]; exact own_drewN (Hown.out.mono (by omega)) _, below_drewN Hbl.out _⟩
        · go_wp2_with fail
          go_quiet (fail)
          go_wp2_with fail
          have HW := Lib.hid (show (((putAt l m k).map encM).set (k - 1) (encM m)).set k (encM l[k - 1]) = (putAt l m (k - 1)).map encM from by rw [← List.map_set, ← List.map_set, putAt_swap k0 hk (by omega)])
          go_region
          all_goals
            go_wp2_with fail
            go_roundw
            case rel => exact ⟨k - 1, by omega, by go_num, by rw [← HW.out]; exact ((own_drewN Hown.out _).put4 rfl (by rw [List.length_map, putAt_len]; omega) _ _ _ _).put4 rfl (by rw [List.length_set, List.length_map, putAt_len]; omega) _ _ _ _, by have hbl := Hbl.out; (repeat' (first | (with_reducible exact Below.refl _ _) | (with_reducible assumption) | (with_reducible refine Below.alloc ?_ ?_ _) | (with_reducible refine Below.setCell ?_ ?_ _) | (with_reducible refine Below.drew ?_) | (with_reducible refine below_drewN ?_ _) | (with_reducible refine below_via ?_ (by with_reducible assumption) ?_) | omega | (simp; done) | (simp; omega))), by simpa using hszr, by simp [go_sem, g0, g1, g2, g3], fun j hj h => by
              rcases Nat.lt_or_ge j k with h1 | h1
              · obtain rfl : j = k - 1 := by omega
                simpa using hm
              · exact Hup.out j hj h1⟩
            case measure => simp [intOf]; omega
end Go.Proofs.Ytffmljkpbgohkaa
