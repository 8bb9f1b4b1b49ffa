/- Contract of member.Set. -/
import Derived.Test.YtffmljkpbgohkaaMember10
import Derived.Test.YtffmljkpbgohkaaStore
namespace Go.Proofs.Ytffmljkpbgohkaa
open Go.RowKit
/-- Strictly by number. -/
def SortedM (l : List Mem) : Prop := l.Pairwise (fun a b => a.id < b.id)
theorem set_map {l : List Mem} {m : Mem} {k : Nat} (hs : SortedM l) (hk : k < l.length) (hm : (l[k].id == m.id) = true) : l.set k m = l.map (setOne m) := by
  apply List.ext_getElem (by simp)
  intro j h1 h2
  simp at h1
  rw [List.getElem_set, List.getElem_map]
  have hkm : l[k].id = m.id := by simpa using hm
  split
  · rename_i e; subst e; unfold setOne; rw [hm]; rfl
  · have hne : (l[j].id == m.id) = false := by
      have hp := List.pairwise_iff_getElem.1 hs
      rcases Nat.lt_or_ge j k with h3 | h3
      · have := hp j k h1 hk h3; simp; omega
      · have := hp k j hk h1 (by omega); simp; omega
    unfold setOne; rw [hne]; rfl
set_option maxRecDepth 100000 in
set_option maxHeartbeats 2000000 in
theorem memSet (l : List Mem) (m : Mem) (A : Option Addr) (c : Nat) (w : World) (hl : l.length ≤ 1048576) (hs : SortedM l) (hr : IsMs w l A c) :
    Calls Try.prog 31 #[.slice A l.length c, .agg #[.int .i64 m.id, .int .i64 m.cap, .int .i64 m.phase, .int .i64 m.til]] w (SetPost w l m) := by
  have HR := Lib.hid hr
  have c2 := fun W (h : Rd W A 4 (l.map encM)) => memAt l m.id A c W (by omega) h
  have hA : A = none → c = 0 := by rintro rfl; rcases hr.form with ⟨_, _, h⟩ | ⟨b, o, h⟩; exact h; cases h
  by_cases hok : okM m
  rotate_left
  · have hp : setL l m = [] := by unfold setL; rw [if_neg (fun h => hok h.1)]
    have hq : setC l m = 2 := by unfold setC; rw [if_neg hok]
    have HP := Lib.hid hp
    have HQ := Lib.hid hq
    have HO := Lib.hid hok
    clear hr c2 hp hq hok hA hs
    go_enter Try.func31, Try.ntmps31
    go_wp2_with (go_at_call 26; (with_reducible refine (memCheckNo m _ HO.out).mono ?_); rintro e w1 ⟨rfl, hb1⟩; obtain ⟨fc1, fg1, hc1, hf1, hz1⟩ := bget hb1; try simp at hz1)
    go_ret2
    exact ⟨_, by rw [HQ.out]; rfl, by rw [HP.out]; exact Own.nil _ _ _ _, by (repeat' (first | (with_reducible exact Below.refl _ _) | (with_reducible assumption) | (with_reducible refine Below.alloc ?_ ?_ _) | (with_reducible refine Below.setCell ?_ ?_ _) | (with_reducible refine Below.drew ?_) | (with_reducible refine below_drewN ?_ _) | (with_reducible refine below_via ?_ (by with_reducible assumption) ?_) | omega | (simp; done) | (simp; omega)))⟩
  rcases idx_cases (fun m' : Mem => m'.id == m.id) l with ⟨k, hk, hm, hn, he⟩ | ⟨hn, he⟩
  rotate_left
  · have hf : (findM l m.id).2 = false := by rw [find_miss hn]
    have hp : setL l m = [] := by unfold setL; rw [hf, if_neg (by simp)]
    have hq : setC l m = 11 := by unfold setC; rw [if_pos hok, hf]; rfl
    rw [he] at c2
    have HP := Lib.hid hp
    have HQ := Lib.hid hq
    have HO := Lib.hid hok
    have C2 := Lib.hid c2
    clear hr c2 hp hq hok hA hn he hf hs
    go_enter Try.func31, Try.ntmps31
    go_wp2_with (first | (go_at_call 26; (with_reducible refine (memCheckYes m _ HO.out).mono ?_); rintro e w1 ⟨rfl, hb1⟩; obtain ⟨fc1, fg1, hc1, hf1, hz1⟩ := bget hb1; try simp at hz1) | (go_at_call 66; (with_reducible refine (C2.out _ (HR.out.rd.keep (by (repeat' (first | (with_reducible exact Below.refl _ _) | (with_reducible assumption) | (with_reducible refine Below.alloc ?_ ?_ _) | (with_reducible refine Below.setCell ?_ ?_ _) | (with_reducible refine Below.drew ?_) | (with_reducible refine below_drewN ?_ _) | (with_reducible refine below_via ?_ (by with_reducible assumption) ?_) | omega | (simp; done) | (simp; omega)))))).mono ?_); rintro e w2 ⟨rfl, hb2⟩; obtain ⟨fc2, fg2, hc2, hf2, hz2⟩ := bget hb2; try simp at hz2))
    go_ret2
    exact ⟨_, by rw [HQ.out]; rfl, by rw [HP.out]; exact Own.nil _ _ _ _, by (repeat' (first | (with_reducible exact Below.refl _ _) | (with_reducible assumption) | (with_reducible refine Below.alloc ?_ ?_ _) | (with_reducible refine Below.setCell ?_ ?_ _) | (with_reducible refine Below.drew ?_) | (with_reducible refine below_drewN ?_ _) | (with_reducible refine below_via ?_ (by with_reducible assumption) ?_) | omega | (simp; done) | (simp; omega)))⟩
  have hf : (findM l m.id).2 = true := by rw [find_hit hk hm hn]
  have hp : setL l m = l.set k m := by unfold setL; rw [hf, if_pos ⟨hok, rfl⟩, set_map hs hk hm]
  have hq : setC l m = 0 := by unfold setC; rw [if_pos hok, hf]; rfl
  rw [he] at c2
  have HP := Lib.hid hp
  have HQ := Lib.hid hq
  have HO := Lib.hid hok
  have C2 := Lib.hid c2
  have HA := Lib.hid hA
  have kl : (k : Int) < (l.length : Int) := by omega
  clear hr c2 hp hq hok hA hn he hf hs hm
  go_enter Try.func31, Try.ntmps31
  go_wp2_with (first | (go_at_call 26; (with_reducible refine (memCheckYes m _ HO.out).mono ?_); rintro e w1 ⟨rfl, hb1⟩; obtain ⟨fc1, fg1, hc1, hf1, hz1⟩ := bget hb1; try simp at hz1) | (go_at_call 66; (with_reducible refine (C2.out _ (HR.out.rd.keep (by (repeat' (first | (with_reducible exact Below.refl _ _) | (with_reducible assumption) | (with_reducible refine Below.alloc ?_ ?_ _) | (with_reducible refine Below.setCell ?_ ?_ _) | (with_reducible refine Below.drew ?_) | (with_reducible refine below_drewN ?_ _) | (with_reducible refine below_via ?_ (by with_reducible assumption) ?_) | omega | (simp; done) | (simp; omega)))))).mono ?_); rintro e w2 ⟨rfl, hb2⟩; obtain ⟨fc2, fg2, hc2, hf2, hz2⟩ := bget hb2; try simp at hz2) | (go_at_call 67; (with_reducible refine (memClone l A c _ (by omega) (HR.out.rd.keep (by (repeat' (first | (with_reducible exact Below.refl _ _) | (with_reducible assumption) | (with_reducible refine Below.alloc ?_ ?_ _) | (with_reducible refine Below.setCell ?_ ?_ _) | (with_reducible refine Below.drew ?_) | (with_reducible refine below_drewN ?_ _) | (with_reducible refine below_via ?_ (by with_reducible assumption) ?_) | omega | (simp; done) | (simp; omega))))) HA.out).mono ?_); rintro e w3 ⟨v, rfl, hown3, hb3⟩; obtain ⟨fc3, fg3, hc3, hf3, hz3⟩ := bget hb3; (try simp at hz3); obtain ⟨A3, c3, hv3, hcap3, hroom3, hrd3, hform3⟩ := hown3.shape; obtain ⟨g, rfl, hg1, hg2⟩ := hform3 (by intro h; have h' := List.map_eq_nil_iff.1 h; rw [h'] at hk; simp at hk); rw [List.length_map] at hv3 hcap3; subst hv3; obtain ⟨cur, hblk⟩ := hown3.blk rfl; have fz := fun i => hblk.frozen i; obtain ⟨b', o', e', hb', hcc⟩ := hrd3 k (encM l[k]) (by simp [hk]); injection e' with e'; injection e' with e1 e2 _; subst e1 e2; have e0 := hcc 0 _ rfl; have e1 := hcc 1 _ rfl; have e2 := hcc 2 _ rfl; have e3 := hcc 3 _ rfl; simp only [Nat.add_zero, Nat.zero_add] at e0 e1 e2 e3; have m0 : w3.cell? ⟨w.heap.size, 0, none⟩ = some (.int .i64 m.id) := (by simp [go_sem, hc3, hc2, hc1, ↓IntWalk.iteOmega]); have m1 : w3.cell? ⟨w.heap.size, 1, none⟩ = some (.int .i64 m.cap) := (by simp [go_sem, hc3, hc2, hc1, ↓IntWalk.iteOmega]); have m2 : w3.cell? ⟨w.heap.size, 2, none⟩ = some (.int .i64 m.phase) := (by simp [go_sem, hc3, hc2, hc1, ↓IntWalk.iteOmega]); have m3 : w3.cell? ⟨w.heap.size, 3, none⟩ = some (.int .i64 m.til) := (by simp [go_sem, hc3, hc2, hc1, ↓IntWalk.iteOmega]); have Hown3 := Lib.hid hown3; clear hown3 hrd3 hform3 hcc hblk hc3 hf3))
  go_ret2
  exact ⟨_, by rw [HQ.out]; rfl, by rw [HP.out, List.map_set]; exact (Hown3.out.put4 rfl (by simpa using hk) _ _ _ _).mono (by first | omega | (simp; done) | (simp; omega)), by (repeat' (first | (with_reducible exact Below.refl _ _) | (with_reducible assumption) | (with_reducible refine Below.alloc ?_ ?_ _) | (with_reducible refine Below.setCell ?_ ?_ _) | (with_reducible refine Below.drew ?_) | (with_reducible refine below_drewN ?_ _) | (with_reducible refine below_via ?_ (by with_reducible assumption) ?_) | omega | (simp; done) | (simp; omega)))⟩
end Go.Proofs.Ytffmljkpbgohkaa
