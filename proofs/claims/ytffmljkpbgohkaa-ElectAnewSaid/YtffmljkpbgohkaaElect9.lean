/- Choices: contracts of elect.Elect, Agree. -/
import Derived.Test.YtffmljkpbgohkaaElect8
import Derived.Test.YtffmljkpbgohkaaElect6
import Derived.Test.YtffmljkpbgohkaaElect3
namespace Go.Proofs.Ytffmljkpbgohkaa
open Go.RowKit
/-- Choices with one in its place. -/
def insC (l : List Choice) (x : Choice) : List Choice := l.takeWhile (fun y => !lessU x.frm y.frm) ++ x :: l.dropWhile (fun y => !lessU x.frm y.frm)
def electC (l : List Choice) (u t : Un) : Int := if isC l then (if u = t then 24 else 0) else 3
def electL (l : List Choice) (u t : Un) : List Choice := if isC l then (if u = t then [] else insC (dropL l u) ⟨u, t, false⟩) else []
def agreeC (l : List Choice) (u t : Un) : Int := if isC l then (if (findC l u).2 then (if (findC l u).1.too = t then 0 else 11) else 19) else 3
/-- The first of a part is agreed to. -/
def agreeF (l : List Choice) (u : Un) : List Choice := match l.findIdx? (fun x => decide (x.frm = u)) with | some k => l.modify k (fun x => { x with con := true }) | none => l
def agreeL (l : List Choice) (u t : Un) : List Choice := if isC l && (findC l u).2 && decide ((findC l u).1.too = t) then agreeF l u else []
def ChoPost2 (w : World) (c : Int) (l : List Choice) (e : Ending) (w' : World) : Prop := ∃ v, e = .returned (.tuple #[v, .int .i64 c]) ∧ Own w' w.heap.size 76 5 v (l.map encChoice) ∧ Below w.heap.size w w'
theorem dropL_len (l : List Choice) (u : Un) : (dropL l u).length ≤ l.length := List.length_filter_le _ _
theorem while_at' {α : Type} {p : α → Bool} : ∀ {l : List α} {k : Nat} (_ : ∀ j (_ : j < l.length), j < k → p l[j] = true) (_ : k ≤ l.length) (_ : ∀ h : k < l.length, p l[k] = false), l.takeWhile p = l.take k ∧ l.dropWhile p = l.drop k
  | [], k, _, hk, _ => by simp at hk; subst hk; simp
  | a :: l, 0, _, _, h => by have := h (by simp); simp at this; simp [this]
  | a :: l, k + 1, h, hk, hn => by
    have h0 := h 0 (by simp) (by omega)
    simp at h0
    have := while_at' (p := p) (l := l) (k := k) (fun j hj hjk => by have := h (j + 1) (by simp; omega) (by omega); simpa using this) (by simpa using hk) (fun hk' => by have := hn (by simp; omega); simpa using this)
    simp [h0, this.1, this.2]
set_option maxRecDepth 100000 in
set_option maxHeartbeats 4000000 in
theorem electElect (l : List Choice) (u t : Un) (A : Option Addr) (c : Nat) (w : World) (hl : l.length ≤ 1000000) (hr : Rs w 5 (l.map encChoice) A c) :
    Calls Try.prog 49 #[.slice A l.length c, .agg #[.int .i64 u.acc, .int .i64 u.cli], .agg #[.int .i64 t.acc, .int .i64 t.cli]] w (ChoPost2 w (electC l u t) (electL l u t)) := by
  have HR := Lib.hid hr
  have c1 := fun W h => electIs l A c W (by omega) h
  clear hr
  cases hi : isC l
  · rw [hi] at c1
    have HC := Lib.hid (show electC l u t = 3 from by unfold electC; rw [hi]; rfl)
    have HL := Lib.hid (show electL l u t = [] from by unfold electL; rw [hi]; rfl)
    have C1 := Lib.hid c1
    clear c1 hi
    go_enter Try.func49, Try.ntmps49
    go_wp2_with (go_at_call 44; (with_reducible refine (C1.out _ (HR.out.keep (by (repeat' (first | (with_reducible exact Below.refl _ _) | (with_reducible assumption) | (with_reducible refine Below.alloc ?_ ?_ _) | (with_reducible refine Below.setCell ?_ ?_ _) | (with_reducible refine Below.drew ?_) | (with_reducible refine below_drewN ?_ _) | (with_reducible refine below_via ?_ (by with_reducible assumption) ?_) | omega | (simp; done) | (simp; omega))))).rd).mono ?_); rintro e w1 ⟨rfl, hb1⟩; obtain ⟨fc1, fg1, hc1, hf1, hz1⟩ := bget hb1; try simp at hz1)
    go_ret2
    exact ⟨_, by rw [HC.out]; rfl, by rw [HL.out]; exact Own.nil _ _ _ _, by (repeat' (first | (with_reducible exact Below.refl _ _) | (with_reducible assumption) | (with_reducible refine Below.alloc ?_ ?_ _) | (with_reducible refine Below.setCell ?_ ?_ _) | (with_reducible refine Below.drew ?_) | (with_reducible refine below_drewN ?_ _) | (with_reducible refine below_via ?_ (by with_reducible assumption) ?_) | omega | (simp; done) | (simp; omega)))⟩
  rw [hi] at c1
  have C1 := Lib.hid c1
  clear c1
  rcases un_test (x := u) (u := t) with he | he | he
  · have HC := Lib.hid (show electC l u t = 24 from by unfold electC; rw [hi, if_pos he]; rfl)
    have HL := Lib.hid (show electL l u t = [] from by unfold electL; rw [hi, if_pos he]; rfl)
    subst he
    clear hi
    go_enter Try.func49, Try.ntmps49
    go_wp2_with (go_at_call 44; (with_reducible refine (C1.out _ (HR.out.keep (by (repeat' (first | (with_reducible exact Below.refl _ _) | (with_reducible assumption) | (with_reducible refine Below.alloc ?_ ?_ _) | (with_reducible refine Below.setCell ?_ ?_ _) | (with_reducible refine Below.drew ?_) | (with_reducible refine below_drewN ?_ _) | (with_reducible refine below_via ?_ (by with_reducible assumption) ?_) | omega | (simp; done) | (simp; omega))))).rd).mono ?_); rintro e w1 ⟨rfl, hb1⟩; obtain ⟨fc1, fg1, hc1, hf1, hz1⟩ := bget hb1; try simp at hz1)
    go_ret2
    exact ⟨_, by rw [HC.out]; rfl, by rw [HL.out]; exact Own.nil _ _ _ _, by (repeat' (first | (with_reducible exact Below.refl _ _) | (with_reducible assumption) | (with_reducible refine Below.alloc ?_ ?_ _) | (with_reducible refine Below.setCell ?_ ?_ _) | (with_reducible refine Below.drew ?_) | (with_reducible refine below_drewN ?_ _) | (with_reducible refine below_via ?_ (by with_reducible assumption) ?_) | omega | (simp; done) | (simp; omega)))⟩
  all_goals
    have hne : ¬ u = t := by intro e; rw [e] at he; simp at he
    have HC := Lib.hid (show electC l u t = 0 from by unfold electC; rw [hi, if_neg hne]; rfl)
    have HL := Lib.hid (show electL l u t = insC (dropL l u) ⟨u, t, false⟩ from by unfold electL; rw [hi, if_neg hne]; rfl)
    have hdl := dropL_len l u
    have c2 := fun W h => electDrop l u A c W (by omega) h
    obtain ⟨d, hd⟩ : ∃ d, d = dropL l u := ⟨_, rfl⟩
    rw [← hd] at c2 HL hdl
    have C2 := Lib.hid c2
    clear c2 hd hne hi
    have c3 := fun A c g W h hc => idxLessU d u A c g W (by omega) h hc
    rcases idxCases (fun x : Choice => lessU u x.frm) d with ⟨k, hk, hm, hn, hx⟩ | ⟨hn, hx⟩
    · rw [hx] at c3
      have C3 := Lib.hid c3
      have HI := Lib.hid (show insC d ⟨u, t, false⟩ = d.take k ++ ⟨u, t, false⟩ :: d.drop k from by
        have hw := while_at' (p := fun y : Choice => !lessU u y.frm) (l := d) (k := k) (fun j hj hjk => by have h3 : lessU u d[j].frm = false := hn j hj hjk; simp [h3]) (by omega) (fun h => by have h3 : lessU u d[k].frm = true := hm; simp [h3])
        unfold insC
        rw [hw.1, hw.2])
      have kd : decide ((k : Int) < 0) = false := by simp
      clear c3 hm hn hx
      go_enter Try.func49, Try.ntmps49
      go_wp2_with (first | (go_at_call 44; (with_reducible refine (C1.out _ (HR.out.keep (by (repeat' (first | (with_reducible exact Below.refl _ _) | (with_reducible assumption) | (with_reducible refine Below.alloc ?_ ?_ _) | (with_reducible refine Below.setCell ?_ ?_ _) | (with_reducible refine Below.drew ?_) | (with_reducible refine below_drewN ?_ _) | (with_reducible refine below_via ?_ (by with_reducible assumption) ?_) | omega | (simp; done) | (simp; omega))))).rd).mono ?_); rintro e w1 ⟨rfl, hb1⟩; obtain ⟨fc1, fg1, hc1, hf1, hz1⟩ := bget hb1; try simp at hz1) | (go_at_call 47; (with_reducible refine (C2.out _ (HR.out.keep (by (repeat' (first | (with_reducible exact Below.refl _ _) | (with_reducible assumption) | (with_reducible refine Below.alloc ?_ ?_ _) | (with_reducible refine Below.setCell ?_ ?_ _) | (with_reducible refine Below.drew ?_) | (with_reducible refine below_drewN ?_ _) | (with_reducible refine below_via ?_ (by with_reducible assumption) ?_) | omega | (simp; done) | (simp; omega)))))).mono ?_); rintro e w2 ⟨v2, rfl, hown2, hb2⟩; obtain ⟨A2, c2, rfl, hrs2, hf2⟩ := hown2.rs; have HRS2 := Lib.hid hrs2; have HO2 := Lib.hid hown2; have HF2 := Lib.hid hf2; rw [List.length_map] at HO2; rw [List.length_map]; clear hown2 hrs2 hf2; obtain ⟨fc2, fg2, hc2, hf2, hz2⟩ := bget hb2; (try simp at hz2)) | (go_at_call 79; (with_reducible refine (C3.out A2 c2 w.heap.size _ ?_ ?_).mono ?_); exact (HRS2.out.keep (by (repeat' (first | (with_reducible exact Below.refl _ _) | (with_reducible assumption) | (with_reducible refine Below.alloc ?_ ?_ _) | (with_reducible refine Below.setCell ?_ ?_ _) | (with_reducible refine Below.drew ?_) | (with_reducible refine below_drewN ?_ _) | (with_reducible refine below_via ?_ (by with_reducible assumption) ?_) | omega | (simp; done) | (simp; omega))))).rd; exact capUn (by first | omega | (simp; done) | (simp; omega)) (by simp [hc2, hc1, go_sem, ↓IntWalk.iteOmega]) (by simp [hc2, hc1, go_sem, ↓IntWalk.iteOmega]); rintro e w3 ⟨rfl, hb3⟩; obtain ⟨fc3, fg3, hc3, hf3, hz3⟩ := bget hb3; (try simp at hz3)))
      refine (insChoice d ⟨u, t, false⟩ (k) _ w.heap.size w3.heap.size _ (by omega) (by omega) (by first | omega | (simp; done) | (simp; omega)) ((HO2.out.keep (by (repeat' (first | (with_reducible exact Below.refl _ _) | (with_reducible assumption) | (with_reducible refine Below.alloc ?_ ?_ _) | (with_reducible refine Below.setCell ?_ ?_ _) | (with_reducible refine Below.drew ?_) | (with_reducible refine below_drewN ?_ _) | (with_reducible refine below_via ?_ (by with_reducible assumption) ?_) | omega | (simp; done) | (simp; omega))))).mono (by first | omega | (simp; done) | (simp; omega))) ?_ ?_).mono ?_
      · exact Blk.here rfl
      · rcases HF2.out with ⟨rfl, _⟩ | ⟨g, rfl, hg1, hg2⟩
        · intro h; cases h
        · intro h
          have h2 : g = w3.heap.size := by simpa [Value.ownBlock] using h
          omega
      · rintro e w4 ⟨v4, rfl, hown4, hb4⟩
        go_wp2_with fail
        go_ret2
        exact ⟨_, by rw [HC.out]; rfl, by rw [HL.out, HI.out]; exact hown4, by (repeat' (first | (with_reducible exact Below.refl _ _) | (with_reducible assumption) | (with_reducible refine Below.alloc ?_ ?_ _) | (with_reducible refine Below.setCell ?_ ?_ _) | (with_reducible refine Below.drew ?_) | (with_reducible refine below_drewN ?_ _) | (with_reducible refine below_via ?_ (by with_reducible assumption) ?_) | omega | (simp; done) | (simp; omega)))⟩
    · rw [hx] at c3
      have C3 := Lib.hid c3
      have HI := Lib.hid (show insC d ⟨u, t, false⟩ = d.take d.length ++ ⟨u, t, false⟩ :: d.drop d.length from by
        have hw := while_at' (p := fun y : Choice => !lessU u y.frm) (l := d) (k := d.length) (fun j hj hjk => by have h3 : lessU u d[j].frm = false := hn j hj; simp [h3]) (by omega) (fun h => absurd h (by omega))
        unfold insC
        rw [hw.1, hw.2])
      have kd : decide ((-1 : Int) < 0) = true := by simp
      clear c3 hn hx
      go_enter Try.func49, Try.ntmps49
      go_wp2_with (first | (go_at_call 44; (with_reducible refine (C1.out _ (HR.out.keep (by (repeat' (first | (with_reducible exact Below.refl _ _) | (with_reducible assumption) | (with_reducible refine Below.alloc ?_ ?_ _) | (with_reducible refine Below.setCell ?_ ?_ _) | (with_reducible refine Below.drew ?_) | (with_reducible refine below_drewN ?_ _) | (with_reducible refine below_via ?_ (by with_reducible assumption) ?_) | omega | (simp; done) | (simp; omega))))).rd).mono ?_); rintro e w1 ⟨rfl, hb1⟩; obtain ⟨fc1, fg1, hc1, hf1, hz1⟩ := bget hb1; try simp at hz1) | (go_at_call 47; (with_reducible refine (C2.out _ (HR.out.keep (by (repeat' (first | (with_reducible exact Below.refl _ _) | (with_reducible assumption) | (with_reducible refine Below.alloc ?_ ?_ _) | (with_reducible refine Below.setCell ?_ ?_ _) | (with_reducible refine Below.drew ?_) | (with_reducible refine below_drewN ?_ _) | (with_reducible refine below_via ?_ (by with_reducible assumption) ?_) | omega | (simp; done) | (simp; omega)))))).mono ?_); rintro e w2 ⟨v2, rfl, hown2, hb2⟩; obtain ⟨A2, c2, rfl, hrs2, hf2⟩ := hown2.rs; have HRS2 := Lib.hid hrs2; have HO2 := Lib.hid hown2; have HF2 := Lib.hid hf2; rw [List.length_map] at HO2; rw [List.length_map]; clear hown2 hrs2 hf2; obtain ⟨fc2, fg2, hc2, hf2, hz2⟩ := bget hb2; (try simp at hz2)) | (go_at_call 79; (with_reducible refine (C3.out A2 c2 w.heap.size _ ?_ ?_).mono ?_); exact (HRS2.out.keep (by (repeat' (first | (with_reducible exact Below.refl _ _) | (with_reducible assumption) | (with_reducible refine Below.alloc ?_ ?_ _) | (with_reducible refine Below.setCell ?_ ?_ _) | (with_reducible refine Below.drew ?_) | (with_reducible refine below_drewN ?_ _) | (with_reducible refine below_via ?_ (by with_reducible assumption) ?_) | omega | (simp; done) | (simp; omega))))).rd; exact capUn (by first | omega | (simp; done) | (simp; omega)) (by simp [hc2, hc1, go_sem, ↓IntWalk.iteOmega]) (by simp [hc2, hc1, go_sem, ↓IntWalk.iteOmega]); rintro e w3 ⟨rfl, hb3⟩; obtain ⟨fc3, fg3, hc3, hf3, hz3⟩ := bget hb3; (try simp at hz3)))
      refine (insChoice d ⟨u, t, false⟩ (d.length) _ w.heap.size w3.heap.size _ (by omega) (by omega) (by first | omega | (simp; done) | (simp; omega)) ((HO2.out.keep (by (repeat' (first | (with_reducible exact Below.refl _ _) | (with_reducible assumption) | (with_reducible refine Below.alloc ?_ ?_ _) | (with_reducible refine Below.setCell ?_ ?_ _) | (with_reducible refine Below.drew ?_) | (with_reducible refine below_drewN ?_ _) | (with_reducible refine below_via ?_ (by with_reducible assumption) ?_) | omega | (simp; done) | (simp; omega))))).mono (by first | omega | (simp; done) | (simp; omega))) ?_ ?_).mono ?_
      · exact Blk.here rfl
      · rcases HF2.out with ⟨rfl, _⟩ | ⟨g, rfl, hg1, hg2⟩
        · intro h; cases h
        · intro h
          have h2 : g = w3.heap.size := by simpa [Value.ownBlock] using h
          omega
      · rintro e w4 ⟨v4, rfl, hown4, hb4⟩
        go_wp2_with fail
        go_ret2
        exact ⟨_, by rw [HC.out]; rfl, by rw [HL.out, HI.out]; exact hown4, by (repeat' (first | (with_reducible exact Below.refl _ _) | (with_reducible assumption) | (with_reducible refine Below.alloc ?_ ?_ _) | (with_reducible refine Below.setCell ?_ ?_ _) | (with_reducible refine Below.drew ?_) | (with_reducible refine below_drewN ?_ _) | (with_reducible refine below_via ?_ (by with_reducible assumption) ?_) | omega | (simp; done) | (simp; omega)))⟩
end Go.Proofs.Ytffmljkpbgohkaa
