/- Choices: contracts of elect.Find, Ready, the reference's Find, Ready. -/
import Derived.Test.YtffmljkpbgohkaaElect7
import Derived.Outline
namespace Go.Proofs.Ytffmljkpbgohkaa
open Go.RowKit
theorem findC_hit {l : List Choice} {u : Un} {k : Nat} (h : k < l.length) (hm : (fun x : Choice => decide (x.frm = u)) l[k] = true) (hn : ∀ j (_ : j < l.length), j < k → (fun x : Choice => decide (x.frm = u)) l[j] = false) : findC l u = (l[k], true) := by
  have : l.find? (fun x : Choice => decide (x.frm = u)) = some l[k] := by
    rw [List.find?_eq_some_iff_getElem]
    exact ⟨hm, k, h, rfl, fun j hj => by have := hn j (by omega) hj; simpa using this⟩
  simp [findC, this]
theorem findC_miss {l : List Choice} {u : Un} (hn : ∀ j (_ : j < l.length), (fun x : Choice => decide (x.frm = u)) l[j] = false) : findC l u = (⟨⟨0, 0⟩, ⟨0, 0⟩, false⟩, false) := by
  have : l.find? (fun x : Choice => decide (x.frm = u)) = none := by
    rw [List.find?_eq_none]
    intro x hx
    obtain ⟨j, hj, rfl⟩ := List.mem_iff_getElem.1 hx
    have := hn j hj
    simpa using this
  simp [findC, this]
set_option maxRecDepth 100000 in
set_option maxHeartbeats 1000000 in
theorem electFind (l : List Choice) (u : Un) (A : Option Addr) (c : Nat) (w : World) (hl : l.length ≤ 1099511627776) (hr : Rd w A 5 (l.map encChoice)) :
    Calls Try.prog 53 #[.slice A l.length c, .agg #[.int .i64 u.acc, .int .i64 u.cli]] w fun e w' => e = .returned (.tuple #[.agg #[.int .i64 (findC l u).1.frm.acc, .int .i64 (findC l u).1.frm.cli, .int .i64 (findC l u).1.too.acc, .int .i64 (findC l u).1.too.cli, .bool (findC l u).1.con], .bool (findC l u).2]) ∧ Below w.heap.size w w' := by
  have c1 := fun W (h : Rd W A 5 (l.map encChoice)) => electAt l u A c W hl h
  have HR := Lib.hid hr
  rcases idxCases (fun x : Choice => decide (x.frm = u)) l with ⟨k, hk, hm, hn, he⟩ | ⟨hn, he⟩
  · rw [findC_hit hk hm hn]
    rw [he] at c1
    have C1 := Lib.hid c1
    have kl : (k : Int) < (l.length : Int) := by omega
    obtain ⟨b, o, rfl, hb, hc⟩ := hr k (encChoice l[k]) (by simp [hk])
    have e0 := hc 0 _ rfl
    have e1 := hc 1 _ rfl
    have e2 := hc 2 _ rfl
    have e3 := hc 3 _ rfl
    have e4 := hc 4 _ rfl
    simp only [Nat.add_zero] at e0
    clear hr he hm hn hc c1
    go_enter Try.func53, Try.ntmps53
    go_wp2_with (go_at_call 83; (with_reducible refine (C1.out _ (HR.out.keep (by (repeat' (first | (with_reducible exact Below.refl _ _) | (with_reducible assumption) | (with_reducible refine Below.alloc ?_ ?_ _) | (with_reducible refine Below.setCell ?_ ?_ _) | (with_reducible refine Below.drew ?_) | (with_reducible refine below_drewN ?_ _) | (with_reducible refine below_via ?_ (by with_reducible assumption) ?_) | omega | (simp; done) | (simp; omega)))))).mono ?_); rintro e w1 ⟨rfl, hb1⟩; obtain ⟨fc1, fg1, hc1, hf1, hz1⟩ := bget hb1; try simp at hz1)
    have g0 : w1.cell? ⟨w.heap.size + 1, 0, none⟩ = some (.int .i64 0) := by simp [go_sem, hc1]
    have g1 : w1.cell? ⟨w.heap.size + 1, 1, none⟩ = some (.int .i64 0) := by simp [go_sem, hc1]
    have g2 : w1.cell? ⟨w.heap.size + 1, 2, none⟩ = some (.int .i64 0) := by simp [go_sem, hc1]
    have g3 : w1.cell? ⟨w.heap.size + 1, 3, none⟩ = some (.int .i64 0) := by simp [go_sem, hc1]
    have g4 : w1.cell? ⟨w.heap.size + 1, 4, none⟩ = some (.bool false) := by simp [go_sem, hc1]
    refine bodyPost_ret (by simp [results, Try.results53, go_sem, g0, g1, g2, g3, g4]; try rfl) rfl ⟨rfl, ?_⟩
    (repeat' (first | (with_reducible exact Below.refl _ _) | (with_reducible assumption) | (with_reducible refine Below.alloc ?_ ?_ _) | (with_reducible refine Below.setCell ?_ ?_ _) | (with_reducible refine Below.drew ?_) | (with_reducible refine below_drewN ?_ _) | (with_reducible refine below_via ?_ (by with_reducible assumption) ?_) | omega | (simp; done) | (simp; omega)))
  · rw [findC_miss hn]
    rw [he] at c1
    have C1 := Lib.hid c1
    clear hr he hn c1
    go_enter Try.func53, Try.ntmps53
    go_wp2_with (go_at_call 83; (with_reducible refine (C1.out _ (HR.out.keep (by (repeat' (first | (with_reducible exact Below.refl _ _) | (with_reducible assumption) | (with_reducible refine Below.alloc ?_ ?_ _) | (with_reducible refine Below.setCell ?_ ?_ _) | (with_reducible refine Below.drew ?_) | (with_reducible refine below_drewN ?_ _) | (with_reducible refine below_via ?_ (by with_reducible assumption) ?_) | omega | (simp; done) | (simp; omega)))))).mono ?_); rintro e w1 ⟨rfl, hb1⟩; obtain ⟨fc1, fg1, hc1, hf1, hz1⟩ := bget hb1; try simp at hz1)
    have g0 : w1.cell? ⟨w.heap.size + 1, 0, none⟩ = some (.int .i64 0) := by simp [go_sem, hc1]
    have g1 : w1.cell? ⟨w.heap.size + 1, 1, none⟩ = some (.int .i64 0) := by simp [go_sem, hc1]
    have g2 : w1.cell? ⟨w.heap.size + 1, 2, none⟩ = some (.int .i64 0) := by simp [go_sem, hc1]
    have g3 : w1.cell? ⟨w.heap.size + 1, 3, none⟩ = some (.int .i64 0) := by simp [go_sem, hc1]
    have g4 : w1.cell? ⟨w.heap.size + 1, 4, none⟩ = some (.bool false) := by simp [go_sem, hc1]
    refine bodyPost_ret (by simp [results, Try.results53, go_sem, g0, g1, g2, g3, g4]; try rfl) rfl ⟨rfl, ?_⟩
    (repeat' (first | (with_reducible exact Below.refl _ _) | (with_reducible assumption) | (with_reducible refine Below.alloc ?_ ?_ _) | (with_reducible refine Below.setCell ?_ ?_ _) | (with_reducible refine Below.drew ?_) | (with_reducible refine below_drewN ?_ _) | (with_reducible refine below_via ?_ (by with_reducible assumption) ?_) | omega | (simp; done) | (simp; omega)))
set_option maxRecDepth 100000 in
set_option maxHeartbeats 2000000 in
theorem ref16Find (l : List Choice) (u : Un) (A : Option Addr) (c : Nat) (w : World) (hl : l.length ≤ 1099511627776) (hr : Rd w A 5 (l.map encChoice)) :
    Calls Try.prog 54 #[.slice A l.length c, .agg #[.int .i64 u.acc, .int .i64 u.cli]] w fun e w' => e = .returned (.tuple #[.agg #[.int .i64 (findC l u).1.frm.acc, .int .i64 (findC l u).1.frm.cli, .int .i64 (findC l u).1.too.acc, .int .i64 (findC l u).1.too.cli, .bool (findC l u).1.con], .bool (findC l u).2]) ∧ Below w.heap.size w w' := by
  have Hr := Lib.hid hr
  clear hr
  go_enter Try.func54, Try.ntmps54
  go_wp2_with fail
  go_loopw [6] (fun i wr => ∃ k : Nat, k ≤ l.length ∧ i = .int .i64 k ∧ Below w.heap.size w wr ∧ Blk wr w.heap.size 66 #[.int .i64 u.acc, .int .i64 u.cli] ∧ Blk wr (w.heap.size + 1) 76 #[.int .i64 0, .int .i64 0, .int .i64 0, .int .i64 0, .bool false] ∧ ∀ j (_ : j < l.length), j < k → (fun x : Choice => decide (x.frm = u)) l[j] = false) (fun i _ => l.length - (intOf i).toNat)
  case atStart => exact ⟨0, Nat.zero_le _, rfl, by (repeat' (first | (with_reducible exact Below.refl _ _) | (with_reducible assumption) | (with_reducible refine Below.alloc ?_ ?_ _) | (with_reducible refine Below.setCell ?_ ?_ _) | (with_reducible refine Below.drew ?_) | (with_reducible refine below_drewN ?_ _) | (with_reducible refine below_via ?_ (by with_reducible assumption) ?_) | omega | (simp; done) | (simp; omega))), by (repeat' (first | (with_reducible assumption) | (with_reducible refine Blk.drew ?_) | (with_reducible refine Blk.here ?_) | (with_reducible refine Blk.alloc ?_ _) | (with_reducible refine Blk.far ?_ ?_ _) | (with_reducible refine Blk.below ?_ (by with_reducible assumption) ?_) | omega | (simp; done) | (simp; omega))), by (repeat' (first | (with_reducible assumption) | (with_reducible refine Blk.drew ?_) | (with_reducible refine Blk.here ?_) | (with_reducible refine Blk.alloc ?_ _) | (with_reducible refine Blk.far ?_ ?_ _) | (with_reducible refine Blk.below ?_ (by with_reducible assumption) ?_) | omega | (simp; done) | (simp; omega))), fun j _ h => absurd h (by omega)⟩
  case round =>
    obtain ⟨k, hk, rfl, hbl, hk1, hk2, hno⟩ := hrel
    have Hbl := Lib.hid hbl
    have Hno := Lib.hid hno
    have HK1 := Lib.hid hk1
    have HK2 := Lib.hid hk2
    have hz := hk2.lt
    have u0 := hk1.cell 0
    have u1 := hk1.cell 1
    have g0 := hk2.cell 0
    have g1 := hk2.cell 1
    have g2 := hk2.cell 2
    have g3 := hk2.cell 3
    have g4 := hk2.cell 4
    simp at u0 u1 g0 g1 g2 g3 g4
    have fz := fun i => hk2.frozen i
    clear hbl hno hk1 hk2
    by_cases hlt : k < l.length
    · have kl : (k : Int) < (l.length : Int) := by omega
      obtain ⟨b, o, rfl, hb, hc⟩ := Hr.out k (encChoice l[k]) (by simp [hlt])
      replace hc := fun j v hv => (Hbl.out.cell (p := ⟨b, o + k * 5 + j, none⟩) hb).trans (hc j v hv)
      have c0 := hc 0 _ rfl
      have c1 := hc 1 _ rfl
      have c2 := hc 2 _ rfl
      have c3 := hc 3 _ rfl
      have c4 := hc 4 _ rfl
      simp only [Nat.add_zero] at c0
      clear hc
      rcases un_test (x := l[k].frm) (u := u) with he | he | he
      · have Hi := Lib.hid (findC_hit hlt (decide_eq_true he) Hno.out)
        rw [he] at c0 c1
        have HE := Lib.hid he
        clear he
        go_wp2_with fail
        go_quiet (fail)
        go_wp2_with fail
        rw [Hi.out]
        have hbl := Hbl.out
        refine bodyPost_ret (by simp [results, Try.results54, go_sem, g0, g1, g2, g3, g4]; try rfl) rfl ⟨by rw [HE.out], ?_⟩
        (repeat' (first | (with_reducible exact Below.refl _ _) | (with_reducible assumption) | (with_reducible refine Below.alloc ?_ ?_ _) | (with_reducible refine Below.setCell ?_ ?_ _) | (with_reducible refine Below.drew ?_) | (with_reducible refine below_drewN ?_ _) | (with_reducible refine below_via ?_ (by with_reducible assumption) ?_) | omega | (simp; done) | (simp; omega)))
      all_goals
        have HE := Lib.hid (decide_eq_false (show ¬ l[k].frm = u from by intro e; rw [e] at he; simp at he))
        go_wp2_with fail
        go_quiet (fail)
        go_wp2_with fail
        go_roundw
        case rel => exact ⟨k + 1, by omega, by go_num, by (have hbl := Hbl.out; (repeat' (first | (with_reducible exact Below.refl _ _) | (with_reducible assumption) | (with_reducible refine Below.alloc ?_ ?_ _) | (with_reducible refine Below.setCell ?_ ?_ _) | (with_reducible refine Below.drew ?_) | (with_reducible refine below_drewN ?_ _) | (with_reducible refine below_via ?_ (by with_reducible assumption) ?_) | omega | (simp; done) | (simp; omega)))), HK1.out, HK2.out, fun j hj h => by
          rcases Nat.lt_or_ge j k with h1 | h1
          · exact Hno.out j hj h1
          · obtain rfl : j = k := by omega
            exact HE.out⟩
        case measure => simp [intOf]; omega
    · have Hi := Lib.hid (findC_miss (l := l) (u := u) (fun j hj => Hno.out j hj (by omega)))
      go_wp2_with fail
      rw [Hi.out]
      have hbl := Hbl.out
      refine bodyPost_ret (by simp [results, Try.results54, go_sem, g0, g1, g2, g3, g4]; try rfl) rfl ⟨rfl, ?_⟩
      (repeat' (first | (with_reducible exact Below.refl _ _) | (with_reducible assumption) | (with_reducible refine Below.alloc ?_ ?_ _) | (with_reducible refine Below.setCell ?_ ?_ _) | (with_reducible refine Below.drew ?_) | (with_reducible refine below_drewN ?_ _) | (with_reducible refine below_via ?_ (by with_reducible assumption) ?_) | omega | (simp; done) | (simp; omega)))
def readyC (l : List Choice) (u : Un) : Int := if (findC l u).2 then (if (findC l u).1.con then 0 else 20) else 19
def readyU (l : List Choice) (u : Un) : Un := if (findC l u).2 && (findC l u).1.con then (findC l u).1.too else ⟨0, 0⟩
set_option maxRecDepth 100000 in
set_option maxHeartbeats 2000000 in
theorem electReady (l : List Choice) (u : Un) (A : Option Addr) (c : Nat) (w : World) (hl : l.length ≤ 1099511627776) (hr : Rd w A 5 (l.map encChoice)) :
    Calls Try.prog 55 #[.slice A l.length c, .agg #[.int .i64 u.acc, .int .i64 u.cli]] w fun e w' => e = .returned (.tuple #[.agg #[.int .i64 (readyU l u).acc, .int .i64 (readyU l u).cli], .int .i64 (readyC l u)]) ∧ Below w.heap.size w w' := by
  have HR := Lib.hid hr
  have c1 := fun W (h : Rd W A 5 (l.map encChoice)) => electFind l u A c W hl h
  clear hr
  have hc := show readyC l u = if (findC l u).2 then (if (findC l u).1.con then 0 else 20) else 19 from rfl
  have hu := show readyU l u = if (findC l u).2 && (findC l u).1.con then (findC l u).1.too else ⟨0, 0⟩ from rfl
  obtain ⟨f, hf⟩ : ∃ f, f = findC l u := ⟨_, rfl⟩
  rw [← hf] at c1 hc hu
  obtain ⟨x, b⟩ := f
  clear hf
  obtain ⟨xf, xt, xc⟩ := x
  cases b
  all_goals cases xc
  all_goals
    simp only [Bool.false_and, Bool.true_and, Bool.false_eq_true, ↓reduceIte] at hc hu
    have C1 := Lib.hid c1
    have HC := Lib.hid hc
    have HU := Lib.hid hu
    clear c1 hc hu
    rw [HC.out, HU.out]
  all_goals
    go_enter Try.func55, Try.ntmps55
    go_wp2_with (go_at_call 53; (with_reducible refine (C1.out _ (HR.out.keep (by (repeat' (first | (with_reducible exact Below.refl _ _) | (with_reducible assumption) | (with_reducible refine Below.alloc ?_ ?_ _) | (with_reducible refine Below.setCell ?_ ?_ _) | (with_reducible refine Below.drew ?_) | (with_reducible refine below_drewN ?_ _) | (with_reducible refine below_via ?_ (by with_reducible assumption) ?_) | omega | (simp; done) | (simp; omega)))))).mono ?_); rintro e w1 ⟨rfl, hb1⟩; obtain ⟨fc1, fg1, hc1, hf1, hz1⟩ := bget hb1; try simp at hz1)
    have g0 : w1.cell? ⟨w.heap.size + 1, 0, none⟩ = some (.int .i64 0) := by simp [go_sem, hc1]
    have g1 : w1.cell? ⟨w.heap.size + 1, 1, none⟩ = some (.int .i64 0) := by simp [go_sem, hc1]
    have g0' := fun X => cell_alloc (w := w1) (b := w.heap.size + 1) (o := 0) (x := X) (by omega) g0
    have g1' := fun X => cell_alloc (w := w1) (b := w.heap.size + 1) (o := 1) (x := X) (by omega) g1
    refine bodyPost_ret (by simp [results, Try.results55, go_sem, g0', g1']; try rfl) rfl ⟨rfl, ?_⟩
    (repeat' (first | (with_reducible exact Below.refl _ _) | (with_reducible assumption) | (with_reducible refine Below.alloc ?_ ?_ _) | (with_reducible refine Below.setCell ?_ ?_ _) | (with_reducible refine Below.drew ?_) | (with_reducible refine below_drewN ?_ _) | (with_reducible refine below_via ?_ (by with_reducible assumption) ?_) | omega | (simp; done) | (simp; omega)))
set_option maxRecDepth 100000 in
set_option maxHeartbeats 2000000 in
theorem ref16Ready (l : List Choice) (u : Un) (A : Option Addr) (c : Nat) (w : World) (hl : l.length ≤ 1099511627776) (hr : Rd w A 5 (l.map encChoice)) :
    Calls Try.prog 56 #[.slice A l.length c, .agg #[.int .i64 u.acc, .int .i64 u.cli]] w fun e w' => e = .returned (.tuple #[.agg #[.int .i64 (readyU l u).acc, .int .i64 (readyU l u).cli], .int .i64 (readyC l u)]) ∧ Below w.heap.size w w' := by
  have HR := Lib.hid hr
  have c1 := fun W (h : Rd W A 5 (l.map encChoice)) => ref16Find l u A c W hl h
  clear hr
  have hc := show readyC l u = if (findC l u).2 then (if (findC l u).1.con then 0 else 20) else 19 from rfl
  have hu := show readyU l u = if (findC l u).2 && (findC l u).1.con then (findC l u).1.too else ⟨0, 0⟩ from rfl
  obtain ⟨f, hf⟩ : ∃ f, f = findC l u := ⟨_, rfl⟩
  rw [← hf] at c1 hc hu
  obtain ⟨x, b⟩ := f
  clear hf
  obtain ⟨xf, xt, xc⟩ := x
  cases b
  all_goals cases xc
  all_goals
    simp only [Bool.false_and, Bool.true_and, Bool.false_eq_true, ↓reduceIte] at hc hu
    have C1 := Lib.hid c1
    have HC := Lib.hid hc
    have HU := Lib.hid hu
    clear c1 hc hu
    rw [HC.out, HU.out]
  all_goals
    go_enter Try.func56, Try.ntmps56
    go_wp2_with (go_at_call 54; (with_reducible refine (C1.out _ (HR.out.keep (by (repeat' (first | (with_reducible exact Below.refl _ _) | (with_reducible assumption) | (with_reducible refine Below.alloc ?_ ?_ _) | (with_reducible refine Below.setCell ?_ ?_ _) | (with_reducible refine Below.drew ?_) | (with_reducible refine below_drewN ?_ _) | (with_reducible refine below_via ?_ (by with_reducible assumption) ?_) | omega | (simp; done) | (simp; omega)))))).mono ?_); rintro e w1 ⟨rfl, hb1⟩; obtain ⟨fc1, fg1, hc1, hf1, hz1⟩ := bget hb1; try simp at hz1)
    have g0 : w1.cell? ⟨w.heap.size + 1, 0, none⟩ = some (.int .i64 0) := by simp [go_sem, hc1]
    have g1 : w1.cell? ⟨w.heap.size + 1, 1, none⟩ = some (.int .i64 0) := by simp [go_sem, hc1]
    have g0' := fun X => cell_alloc (w := w1) (b := w.heap.size + 1) (o := 0) (x := X) (by omega) g0
    have g1' := fun X => cell_alloc (w := w1) (b := w.heap.size + 1) (o := 1) (x := X) (by omega) g1
    refine bodyPost_ret (by simp [results, Try.results56, go_sem, g0', g1']; try rfl) rfl ⟨rfl, ?_⟩
    (repeat' (first | (with_reducible exact Below.refl _ _) | (with_reducible assumption) | (with_reducible refine Below.alloc ?_ ?_ _) | (with_reducible refine Below.setCell ?_ ?_ _) | (with_reducible refine Below.drew ?_) | (with_reducible refine below_drewN ?_ _) | (with_reducible refine below_via ?_ (by with_reducible assumption) ?_) | omega | (simp; done) | (simp; omega)))
end Go.Proofs.Ytffmljkpbgohkaa
