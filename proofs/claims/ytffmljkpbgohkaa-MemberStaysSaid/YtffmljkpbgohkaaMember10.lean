/- Contract of the reference's Set. -/
import Derived.Test.YtffmljkpbgohkaaMember9
namespace Go.Proofs.Ytffmljkpbgohkaa
open Go.RowKit
theorem own_drewN {w : World} {base E k : Nat} {v : Value} {rows : List (List Value)} (h : Own w base E k v rows) (n : Nat) : Own (w.drewN n) base E k v rows := h
def setOne (m x : Mem) : Mem := if x.id == m.id then m else x
def setC (l : List Mem) (m : Mem) : Int := if okM m then (if (findM l m.id).2 then 0 else 11) else 2
def setL (l : List Mem) (m : Mem) : List Mem := if okM m ∧ (findM l m.id).2 = true then l.map (setOne m) else []
def SetPost (w : World) (l : List Mem) (m : Mem) (e : Ending) (w' : World) : Prop :=
  ∃ v, e = .returned (.tuple #[v, .int .i64 (setC l m)]) ∧ Own w' w.heap.size 36 4 v ((setL l m).map encM) ∧ Below w.heap.size w w'
theorem map_take_succ {α β : Type} {l : List α} {k : Nat} (h : k < l.length) (f : α → β) : (l.take (k + 1)).map f = (l.take k).map f ++ [f l[k]] := by
  rw [List.take_succ_eq_append_getElem h, List.map_append]; rfl
set_option maxRecDepth 100000 in
set_option maxHeartbeats 2000000 in
theorem refSet14 (l : List Mem) (m : Mem) (A : Option Addr) (c : Nat) (w : World) (hl : l.length ≤ 1048576) (hr : Rd w A 4 (l.map encM)) :
    Calls Try.prog 32 #[.slice A l.length c, .agg #[.int .i64 m.id, .int .i64 m.cap, .int .i64 m.phase, .int .i64 m.til]] w (SetPost w l m) := by
  have HR := Lib.hid hr
  have c1 := fun W => refIs14 m W
  have c2 := fun W (h : Rd W A 4 (l.map encM)) => refFind14 l m.id A c W (by omega) h
  by_cases hok : okM m
  rotate_left
  · rw [show decide (okM m) = false from by simpa using hok] at c1
    have hp : setL l m = [] := by unfold setL; rw [if_neg (fun h => hok h.1)]
    have hq : setC l m = 2 := by unfold setC; rw [if_neg hok]
    have HP := Lib.hid hp
    have HQ := Lib.hid hq
    have C1 := Lib.hid c1
    clear hr c1 c2 hp hq hok
    go_enter Try.func32, Try.ntmps32
    go_wp2_with (go_at_call 27; (with_reducible refine (C1.out _).mono ?_); rintro e w1 ⟨rfl, hb1⟩; obtain ⟨fc1, fg1, hc1, hf1, hz1⟩ := bget hb1; try simp at hz1)
    go_ret2
    exact ⟨_, by rw [HQ.out]; rfl, by rw [HP.out]; exact Own.nil _ _ _ _, by (repeat' (first | (with_reducible exact Below.refl _ _) | (with_reducible assumption) | (with_reducible refine Below.alloc ?_ ?_ _) | (with_reducible refine Below.setCell ?_ ?_ _) | (with_reducible refine Below.drew ?_) | (with_reducible refine below_drewN ?_ _) | (with_reducible refine below_via ?_ (by with_reducible assumption) ?_) | omega | (simp; done) | (simp; omega)))⟩
  rw [show decide (okM m) = true from by simpa using hok] at c1
  cases hf : (findM l m.id).2
  · rw [hf] at c2
    have hp : setL l m = [] := by unfold setL; rw [hf, if_neg (by simp)]
    have hq : setC l m = 11 := by unfold setC; rw [if_pos hok, hf]; rfl
    have HP := Lib.hid hp
    have HQ := Lib.hid hq
    have C1 := Lib.hid c1
    have C2 := Lib.hid c2
    clear hr c1 c2 hp hq hok hf
    go_enter Try.func32, Try.ntmps32
    go_wp2_with (first | (go_at_call 27; (with_reducible refine (C1.out _).mono ?_); rintro e w1 ⟨rfl, hb1⟩; obtain ⟨fc1, fg1, hc1, hf1, hz1⟩ := bget hb1; try simp at hz1) | (go_at_call 34; (with_reducible refine (C2.out _ (HR.out.keep (by (repeat' (first | (with_reducible exact Below.refl _ _) | (with_reducible assumption) | (with_reducible refine Below.alloc ?_ ?_ _) | (with_reducible refine Below.setCell ?_ ?_ _) | (with_reducible refine Below.drew ?_) | (with_reducible refine below_drewN ?_ _) | (with_reducible refine below_via ?_ (by with_reducible assumption) ?_) | omega | (simp; done) | (simp; omega)))))).mono ?_); rintro e w2 ⟨rfl, hb2⟩; obtain ⟨fc2, fg2, hc2, hf2, hz2⟩ := bget hb2; try simp at hz2))
    go_ret2
    exact ⟨_, by rw [HQ.out]; rfl, by rw [HP.out]; exact Own.nil _ _ _ _, by (repeat' (first | (with_reducible exact Below.refl _ _) | (with_reducible assumption) | (with_reducible refine Below.alloc ?_ ?_ _) | (with_reducible refine Below.setCell ?_ ?_ _) | (with_reducible refine Below.drew ?_) | (with_reducible refine below_drewN ?_ _) | (with_reducible refine below_via ?_ (by with_reducible assumption) ?_) | omega | (simp; done) | (simp; omega)))⟩
  rw [hf] at c2
  have hp : setL l m = l.map (setOne m) := by unfold setL; rw [hf, if_pos ⟨hok, rfl⟩]
  have hq : setC l m = 0 := by unfold setC; rw [if_pos hok, hf]; rfl
  have HP := Lib.hid hp
  have HQ := Lib.hid hq
  have C1 := Lib.hid c1
  have C2 := Lib.hid c2
  clear hr c1 c2 hp hq hok hf
  go_enter Try.func32, Try.ntmps32
  go_wp2_with (first | (go_at_call 27; (with_reducible refine (C1.out _).mono ?_); rintro e w1 ⟨rfl, hb1⟩; obtain ⟨fc1, fg1, hc1, hf1, hz1⟩ := bget hb1; try simp at hz1) | (go_at_call 34; (with_reducible refine (C2.out _ (HR.out.keep (by (repeat' (first | (with_reducible exact Below.refl _ _) | (with_reducible assumption) | (with_reducible refine Below.alloc ?_ ?_ _) | (with_reducible refine Below.setCell ?_ ?_ _) | (with_reducible refine Below.drew ?_) | (with_reducible refine below_drewN ?_ _) | (with_reducible refine below_via ?_ (by with_reducible assumption) ?_) | omega | (simp; done) | (simp; omega)))))).mono ?_); rintro e w2 ⟨rfl, hb2⟩; obtain ⟨fc2, fg2, hc2, hf2, hz2⟩ := bget hb2; try simp at hz2))
  go_loopw [8, 9] (fun v i wr => ∃ k : Nat, k ≤ l.length ∧ i = .int .i64 k ∧ Below w.heap.size w wr ∧ w.heap.size + 1 ≤ wr.heap.size ∧ Own wr (w.heap.size + 1) 36 4 v (((l.take k).map (setOne m)).map encM) ∧ (wr.cell? ⟨w.heap.size, 0, none⟩ = some (.int .i64 m.id) ∧ wr.cell? ⟨w.heap.size, 1, none⟩ = some (.int .i64 m.cap) ∧ wr.cell? ⟨w.heap.size, 2, none⟩ = some (.int .i64 m.phase) ∧ wr.cell? ⟨w.heap.size, 3, none⟩ = some (.int .i64 m.til))) (fun _ i _ => l.length - (intOf i).toNat)
  case atStart => exact ⟨0, Nat.zero_le _, rfl, by (repeat' (first | (with_reducible exact Below.refl _ _) | (with_reducible assumption) | (with_reducible refine Below.alloc ?_ ?_ _) | (with_reducible refine Below.setCell ?_ ?_ _) | (with_reducible refine Below.drew ?_) | (with_reducible refine below_drewN ?_ _) | (with_reducible refine below_via ?_ (by with_reducible assumption) ?_) | omega | (simp; done) | (simp; omega))), (by first | omega | (simp; done) | (simp; omega)), Own.nil _ _ _ _, by simp [go_sem, hc1, hc2, ↓IntWalk.iteOmega]⟩
  case round =>
    obtain ⟨k, hk, rfl, hbl, hsz, hown, g0, g1, g2, g3⟩ := hrel
    have Hbl := Lib.hid hbl
    have Hown := Lib.hid hown
    have hz := hbl.size
    clear hbl hown
    by_cases hlt : k < l.length
    · have kl : (k : Int) < (l.length : Int) := by omega
      obtain ⟨b, o, rfl, hb, hc⟩ := HR.out k (encM l[k]) (by simp [hlt])
      have e0 := (Hbl.out.cell (p := ⟨b, o + k * 4 + 0, none⟩) hb).trans (hc 0 _ rfl)
      have e1 := (Hbl.out.cell (p := ⟨b, o + k * 4 + 1, none⟩) hb).trans (hc 1 _ rfl)
      have e2 := (Hbl.out.cell (p := ⟨b, o + k * 4 + 2, none⟩) hb).trans (hc 2 _ rfl)
      have e3 := (Hbl.out.cell (p := ⟨b, o + k * 4 + 3, none⟩) hb).trans (hc 3 _ rfl)
      simp only [Nat.add_zero] at e0
      have HS := Lib.hid (map_take_succ hlt (setOne m))
      clear hc
      cases hm : (l[k].id == m.id)
      · have HM := Lib.hid (show setOne m l[k] = l[k] from by unfold setOne; rw [hm]; rfl)
        go_wp2_with fail
        go_quiet (fail)
        go_wp2_with (at_builtin; refine wpList_app rfl _ _ _ rfl elM (w.heap.size + 1) _ _ rfl ((own_drewN Hown.out _).alloc _) (some ⟨_, 0, none⟩) 1 1 rfl [encM l[k]] rfl (fun h => by cases h) rd_one (encM_rows [l[k]]) (by unfold maxLen; simp; omega) (by simp; omega) (by first | omega | (simp; done) | (simp; omega)) ?_; intro v3 w3 hown3 hb3; obtain ⟨fc3, fg3, hc3, hf3, hz3⟩ := bget hb3; (try simp at hz3))
        go_roundw
        case rel => exact ⟨k + 1, by omega, by go_num, by have hbl := Hbl.out; (repeat' (first | (with_reducible exact Below.refl _ _) | (with_reducible assumption) | (with_reducible refine Below.alloc ?_ ?_ _) | (with_reducible refine Below.setCell ?_ ?_ _) | (with_reducible refine Below.drew ?_) | (with_reducible refine below_drewN ?_ _) | (with_reducible refine below_via ?_ (by with_reducible assumption) ?_) | omega | (simp; done) | (simp; omega))), by omega, by rw [HS.out, HM.out, List.map_append]; exact hown3, by simp [go_sem, hc3, g0, g1, g2, g3, ↓IntWalk.iteOmega]⟩
        case measure => simp [intOf]; omega
      · have HM := Lib.hid (show setOne m l[k] = m from by unfold setOne; rw [hm]; rfl)
        go_wp2_with fail
        go_quiet (fail)
        go_wp2_with (at_builtin; refine wpList_app rfl _ _ _ rfl elM (w.heap.size + 1) _ _ rfl ((own_drewN Hown.out _).alloc _) (some ⟨_, 0, none⟩) 1 1 rfl [encM m] rfl (fun h => by cases h) rd_one (encM_rows [m]) (by unfold maxLen; simp; omega) (by simp; omega) (by first | omega | (simp; done) | (simp; omega)) ?_; intro v3 w3 hown3 hb3; obtain ⟨fc3, fg3, hc3, hf3, hz3⟩ := bget hb3; (try simp at hz3))
        go_roundw
        case rel => exact ⟨k + 1, by omega, by go_num, by have hbl := Hbl.out; (repeat' (first | (with_reducible exact Below.refl _ _) | (with_reducible assumption) | (with_reducible refine Below.alloc ?_ ?_ _) | (with_reducible refine Below.setCell ?_ ?_ _) | (with_reducible refine Below.drew ?_) | (with_reducible refine below_drewN ?_ _) | (with_reducible refine below_via ?_ (by with_reducible assumption) ?_) | omega | (simp; done) | (simp; omega))), by omega, by rw [HS.out, HM.out, List.map_append]; exact hown3, by simp [go_sem, hc3, g0, g1, g2, g3]⟩
        case measure => simp [intOf]; omega
    · have HT := Lib.hid (show l.take k = l from List.take_of_length_le (by omega))
      have d1 : decide ((k : Int) < (l.length : Int)) = false := by simpa using hlt
      go_wp2_with fail
      go_ret2
      exact ⟨_, by rw [HQ.out]; rfl, by rw [HP.out]; have := Hown.out; rw [HT.out] at this; exact this.mono (by omega), Hbl.out⟩
end Go.Proofs.Ytffmljkpbgohkaa
