/- Choices: contract of elect.Agree. -/
import Derived.Test.YtffmljkpbgohkaaElect9
import Derived.Test.YtffmljkpbgohkaaStore
namespace Go.Proofs.Ytffmljkpbgohkaa
open Go.RowKit
theorem agreeF_hit {l : List Choice} {u : Un} {k : Nat} (h : k < l.length) (hm : (fun x : Choice => decide (x.frm = u)) l[k] = true) (hn : ∀ j (_ : j < l.length), j < k → (fun x : Choice => decide (x.frm = u)) l[j] = false) : agreeF l u = l.set k { l[k] with con := true } := by
  have : l.findIdx? (fun x : Choice => decide (x.frm = u)) = some k := by
    rw [List.findIdx?_eq_some_iff_getElem]
    exact ⟨h, hm, fun j hj => by have := hn j (by omega) hj; simpa using this⟩
  simp only [agreeF, this]
  refine List.ext_getElem (by simp) fun i h1 h2 => ?_
  rw [List.getElem_modify, List.getElem_set]
  split
  · rename_i h3; subst h3; rfl
  · rfl
set_option maxRecDepth 100000 in
set_option maxHeartbeats 4000000 in
theorem electAgree (l : List Choice) (u t : Un) (A : Option Addr) (c : Nat) (w : World) (hl : l.length ≤ 1000000) (hr : Rs w 5 (l.map encChoice) A c) :
    Calls Try.prog 51 #[.slice A l.length c, .agg #[.int .i64 u.acc, .int .i64 u.cli], .agg #[.int .i64 t.acc, .int .i64 t.cli]] w (ChoPost2 w (agreeC l u t) (agreeL l u t)) := by
  have HR := Lib.hid hr
  have c1 := fun W h => electAt l u A c W (by omega) h
  have c2 := fun W h => electIs l A c W (by omega) h
  cases hi : isC l
  · rw [hi] at c2
    have HC := Lib.hid (show agreeC l u t = 3 from by unfold agreeC; rw [hi]; rfl)
    have HL := Lib.hid (show agreeL l u t = [] from by unfold agreeL; rw [hi]; rfl)
    have C1 := Lib.hid c1
    have C2 := Lib.hid c2
    clear c1 c2 hi hr
    go_enter Try.func51, Try.ntmps51
    go_wp2_with (first | (go_at_call 44; (with_reducible refine (C2.out _ (HR.out.keep (by (repeat' (first | (with_reducible exact Below.refl _ _) | (with_reducible assumption) | (with_reducible refine Below.alloc ?_ ?_ _) | (with_reducible refine Below.setCell ?_ ?_ _) | (with_reducible refine Below.drew ?_) | (with_reducible refine below_drewN ?_ _) | (with_reducible refine below_via ?_ (by with_reducible assumption) ?_) | omega | (simp; done) | (simp; omega))))).rd).mono ?_); rintro e w2 ⟨rfl, hb2⟩; obtain ⟨fc2, fg2, hc2, hf2, hz2⟩ := bget hb2; (try simp at hz2)) | (go_at_call 83; (with_reducible refine (C1.out _ (HR.out.keep (by (repeat' (first | (with_reducible exact Below.refl _ _) | (with_reducible assumption) | (with_reducible refine Below.alloc ?_ ?_ _) | (with_reducible refine Below.setCell ?_ ?_ _) | (with_reducible refine Below.drew ?_) | (with_reducible refine below_drewN ?_ _) | (with_reducible refine below_via ?_ (by with_reducible assumption) ?_) | omega | (simp; done) | (simp; omega))))).rd).mono ?_); rintro e w1 ⟨rfl, hb1⟩; obtain ⟨fc1, fg1, hc1, hf1, hz1⟩ := bget hb1; (try simp at hz1)))
    go_ret2
    exact ⟨_, by rw [HC.out]; rfl, by rw [HL.out]; exact Own.nil _ _ _ _, by (repeat' (first | (with_reducible exact Below.refl _ _) | (with_reducible assumption) | (with_reducible refine Below.alloc ?_ ?_ _) | (with_reducible refine Below.setCell ?_ ?_ _) | (with_reducible refine Below.drew ?_) | (with_reducible refine below_drewN ?_ _) | (with_reducible refine below_via ?_ (by with_reducible assumption) ?_) | omega | (simp; done) | (simp; omega)))⟩
  rw [hi] at c2
  have C2 := Lib.hid c2
  clear c2
  rcases idxCases (fun x : Choice => decide (x.frm = u)) l with ⟨k, hk, hm, hn, he⟩ | ⟨hn, he⟩
  · rw [he] at c1
    have C1 := Lib.hid c1
    have hfc := findC_hit hk hm hn
    have hag := agreeF_hit hk hm hn
    have kl : (k : Int) < (l.length : Int) := by omega
    have kd : decide ((k : Int) < 0) = false := by simp
    obtain ⟨b, o, rfl, hb, hc⟩ := hr.rd k (encChoice l[k]) (by simp [hk])
    have e2 := hc 2 _ rfl
    have e3 := hc 3 _ rfl
    clear hc he c1
    rcases un_test (x := l[k].too) (u := t) with he | he | he
    · have HC := Lib.hid (show agreeC l u t = 0 from by unfold agreeC; rw [hi, hfc]; simp [he])
      have HL := Lib.hid (show agreeL l u t = l.set k { l[k] with con := true } from by unfold agreeL; rw [hi, hfc, hag]; simp [he])
      rw [he] at e2 e3
      clear hm hn hfc hag he hi hr
      go_enter Try.func51, Try.ntmps51
      go_wp2_with (first | (go_at_call 44; (with_reducible refine (C2.out _ (HR.out.keep (by (repeat' (first | (with_reducible exact Below.refl _ _) | (with_reducible assumption) | (with_reducible refine Below.alloc ?_ ?_ _) | (with_reducible refine Below.setCell ?_ ?_ _) | (with_reducible refine Below.drew ?_) | (with_reducible refine below_drewN ?_ _) | (with_reducible refine below_via ?_ (by with_reducible assumption) ?_) | omega | (simp; done) | (simp; omega))))).rd).mono ?_); rintro e w2 ⟨rfl, hb2⟩; obtain ⟨fc2, fg2, hc2, hf2, hz2⟩ := bget hb2; (try simp at hz2)) | (go_at_call 83; (with_reducible refine (C1.out _ (HR.out.keep (by (repeat' (first | (with_reducible exact Below.refl _ _) | (with_reducible assumption) | (with_reducible refine Below.alloc ?_ ?_ _) | (with_reducible refine Below.setCell ?_ ?_ _) | (with_reducible refine Below.drew ?_) | (with_reducible refine below_drewN ?_ _) | (with_reducible refine below_via ?_ (by with_reducible assumption) ?_) | omega | (simp; done) | (simp; omega))))).rd).mono ?_); rintro e w1 ⟨rfl, hb1⟩; obtain ⟨fc1, fg1, hc1, hf1, hz1⟩ := bget hb1; (try simp at hz1)))
      go_quiet (fail)
      go_wp2_with (first | (go_at_call 77; (with_reducible refine (cloneChoice l (some ⟨b, o, none⟩) c _ (by omega) (HR.out.keep (by (repeat' (first | (with_reducible exact Below.refl _ _) | (with_reducible assumption) | (with_reducible refine Below.alloc ?_ ?_ _) | (with_reducible refine Below.setCell ?_ ?_ _) | (with_reducible refine Below.drew ?_) | (with_reducible refine below_drewN ?_ _) | (with_reducible refine below_via ?_ (by with_reducible assumption) ?_) | omega | (simp; done) | (simp; omega)))))).mono ?_); rintro e w3 ⟨v, rfl, hown3, hb3⟩; have HB3 := Lib.hid hb3; have hz3 := hb3.size; simp at hz3; clear hb3; have HO3 := Lib.hid hown3; obtain ⟨A3, c3, hv3, hrs3, hf3⟩ := hown3.rs; (rcases hf3 with ⟨_, h0, _⟩ | ⟨g3, rfl, hg3, hg4⟩; exact absurd (congrArg List.length h0) (by simp; intro h; rw [h] at hk; simp at hk)); rw [List.length_map] at hv3; subst hv3; obtain ⟨b3, o3, q3, hb4, hc4⟩ := hrs3.rd k (encChoice l[k]) (by simp [hk]); (injection q3 with q3; injection q3 with q3 q4 _); subst q3 q4; have d4 := hc4 4 _ rfl; obtain ⟨cur, hblk⟩ := hown3.blk rfl; have fz := fun i => hblk.frozen i; simp only [Nat.zero_add] at d4; clear hown3 hrs3 hblk hc4))
      go_ret2
      refine ⟨_, by rw [HC.out]; rfl, ?_, ?_⟩
      · rw [HL.out]
        have h5 := HO3.out.put rfl (i := k) (r := encChoice l[k]) (by simp [hk]) (j := 4) (by omega) (.bool true)
        rw [List.map_set]
        exact h5.mono (by first | omega | (simp; done) | (simp; omega))
      · have hb3 := HB3.out
        have hg5 : w.heap.size ≤ g3 := by simp at hg3; omega
        have hg6 : w.heap.size ≤ (⟨g3, k * 5 + 4, none⟩ : Addr).block := hg5
        clear hg5
        (repeat' (first | (with_reducible exact Below.refl _ _) | (with_reducible assumption) | (with_reducible refine Below.alloc ?_ ?_ _) | (with_reducible refine Below.setCell ?_ ?_ _) | (with_reducible refine Below.drew ?_) | (with_reducible refine below_drewN ?_ _) | (with_reducible refine below_via ?_ (by with_reducible assumption) ?_) | omega | (simp; done) | (simp; omega)))
    all_goals
      have HC := Lib.hid (show agreeC l u t = 11 from by unfold agreeC; rw [hi, hfc]; have : ¬ l[k].too = t := (by intro e; rw [e] at he; simp at he); simp [this])
      have HL := Lib.hid (show agreeL l u t = [] from by unfold agreeL; rw [hi, hfc]; have : ¬ l[k].too = t := (by intro e; rw [e] at he; simp at he); simp [this])
      clear hm hn hfc hag hi hr
      go_enter Try.func51, Try.ntmps51
      go_wp2_with (first | (go_at_call 44; (with_reducible refine (C2.out _ (HR.out.keep (by (repeat' (first | (with_reducible exact Below.refl _ _) | (with_reducible assumption) | (with_reducible refine Below.alloc ?_ ?_ _) | (with_reducible refine Below.setCell ?_ ?_ _) | (with_reducible refine Below.drew ?_) | (with_reducible refine below_drewN ?_ _) | (with_reducible refine below_via ?_ (by with_reducible assumption) ?_) | omega | (simp; done) | (simp; omega))))).rd).mono ?_); rintro e w2 ⟨rfl, hb2⟩; obtain ⟨fc2, fg2, hc2, hf2, hz2⟩ := bget hb2; (try simp at hz2)) | (go_at_call 83; (with_reducible refine (C1.out _ (HR.out.keep (by (repeat' (first | (with_reducible exact Below.refl _ _) | (with_reducible assumption) | (with_reducible refine Below.alloc ?_ ?_ _) | (with_reducible refine Below.setCell ?_ ?_ _) | (with_reducible refine Below.drew ?_) | (with_reducible refine below_drewN ?_ _) | (with_reducible refine below_via ?_ (by with_reducible assumption) ?_) | omega | (simp; done) | (simp; omega))))).rd).mono ?_); rintro e w1 ⟨rfl, hb1⟩; obtain ⟨fc1, fg1, hc1, hf1, hz1⟩ := bget hb1; (try simp at hz1)))
      go_quiet (fail)
      go_wp2_with fail
      go_ret2
      exact ⟨_, by rw [HC.out]; rfl, by rw [HL.out]; exact Own.nil _ _ _ _, by (repeat' (first | (with_reducible exact Below.refl _ _) | (with_reducible assumption) | (with_reducible refine Below.alloc ?_ ?_ _) | (with_reducible refine Below.setCell ?_ ?_ _) | (with_reducible refine Below.drew ?_) | (with_reducible refine below_drewN ?_ _) | (with_reducible refine below_via ?_ (by with_reducible assumption) ?_) | omega | (simp; done) | (simp; omega)))⟩
  · rw [he] at c1
    have C1 := Lib.hid c1
    have HC := Lib.hid (show agreeC l u t = 19 from by unfold agreeC; rw [hi, findC_miss hn]; rfl)
    have HL := Lib.hid (show agreeL l u t = [] from by unfold agreeL; rw [hi, findC_miss hn]; rfl)
    have kd : decide ((-1 : Int) < 0) = true := by simp
    clear c1 hn he hi hr
    go_enter Try.func51, Try.ntmps51
    go_wp2_with (first | (go_at_call 44; (with_reducible refine (C2.out _ (HR.out.keep (by (repeat' (first | (with_reducible exact Below.refl _ _) | (with_reducible assumption) | (with_reducible refine Below.alloc ?_ ?_ _) | (with_reducible refine Below.setCell ?_ ?_ _) | (with_reducible refine Below.drew ?_) | (with_reducible refine below_drewN ?_ _) | (with_reducible refine below_via ?_ (by with_reducible assumption) ?_) | omega | (simp; done) | (simp; omega))))).rd).mono ?_); rintro e w2 ⟨rfl, hb2⟩; obtain ⟨fc2, fg2, hc2, hf2, hz2⟩ := bget hb2; (try simp at hz2)) | (go_at_call 83; (with_reducible refine (C1.out _ (HR.out.keep (by (repeat' (first | (with_reducible exact Below.refl _ _) | (with_reducible assumption) | (with_reducible refine Below.alloc ?_ ?_ _) | (with_reducible refine Below.setCell ?_ ?_ _) | (with_reducible refine Below.drew ?_) | (with_reducible refine below_drewN ?_ _) | (with_reducible refine below_via ?_ (by with_reducible assumption) ?_) | omega | (simp; done) | (simp; omega))))).rd).mono ?_); rintro e w1 ⟨rfl, hb1⟩; obtain ⟨fc1, fg1, hc1, hf1, hz1⟩ := bget hb1; (try simp at hz1)))
    go_ret2
    exact ⟨_, by rw [HC.out]; rfl, by rw [HL.out]; exact Own.nil _ _ _ _, by (repeat' (first | (with_reducible exact Below.refl _ _) | (with_reducible assumption) | (with_reducible refine Below.alloc ?_ ?_ _) | (with_reducible refine Below.setCell ?_ ?_ _) | (with_reducible refine Below.drew ?_) | (with_reducible refine below_drewN ?_ _) | (with_reducible refine below_via ?_ (by with_reducible assumption) ?_) | omega | (simp; done) | (simp; omega)))⟩
end Go.Proofs.Ytffmljkpbgohkaa
