/- Layer 15's laws: short, lives; AcctBinds' walk. -/
import Derived.Test.YtemhhojenocddaaRef15c
import Derived.Test.YtemhhojenocddaaRef15d
namespace Go.Proofs.Ytemhhojenocddaa
open Go.RowKit
def shortV (x : AcctV) : AcctV := { x with clients := ⟨x.clients.A, x.clients.c, x.clients.val.take 20⟩ }
set_option maxRecDepth 100000 in
set_option maxHeartbeats 8000000 in
theorem law15short (x : AcctV) (w : World) (hg : GoodA w x) :
    Calls Try.prog 10 #[.agg #[.int .i64 x.id, .int .i64 x.member, .int .i64 x.kind, .slice x.clients.A x.clients.val.length x.clients.c]] w fun e w' => e = .returned (.agg #[.int .i64 (shortV x).id, .int .i64 (shortV x).member, .int .i64 (shortV x).kind, .slice (shortV x).clients.A (shortV x).clients.val.length (shortV x).clients.c]) ∧ Below w.heap.size w w' := by
  have hlc : x.clients.val.length ≤ x.clients.c := by have := hg.cap; rw [List.length_map] at this; exact this
  have hcm := hg.room
  unfold maxLen at hcm
  have hr := hg.rd
  unfold shortV
  by_cases h : 20 < x.clients.val.length
  · have HN := Lib.hid (show (x.clients.val.take 20).length = 20 from by rw [List.length_take]; omega)
    have d1 : decide (20 < (x.clients.val.length : Int)) = true := by simp; omega
    obtain ⟨b, o, hA, hq⟩ := hr 0 (encI (x.clients.val[0]'(by omega))) (by rw [List.getElem?_map, List.getElem?_eq_getElem (by omega)]; rfl)
    simp only [hA]
    rw [HN.out]
    clear hq hr hA
    go_enter Try.func10, Try.ntmps10
    go_wp2_with fail
    all_goals
      refine bodyPost_ret (by simp [results, Try.results10, go_sem, ]; try rfl) rfl ⟨rfl, ?_⟩
      (repeat' (first | (with_reducible exact Below.refl _ _) | (with_reducible assumption) | (with_reducible refine Below.alloc ?_ ?_ _) | (with_reducible refine Below.setCell ?_ ?_ _) | (with_reducible refine Below.drew ?_) | (with_reducible refine below_drewN ?_ _) | (with_reducible refine below_via ?_ (by with_reducible assumption) ?_) | omega | (simp; done) | (simp; omega)))
  · rw [List.take_of_length_le (by omega)]
    have d1 : decide (20 < (x.clients.val.length : Int)) = false := by simp; omega
    clear hr
    go_enter Try.func10, Try.ntmps10
    go_wp2_with fail
    all_goals
      refine bodyPost_ret (by simp [results, Try.results10, go_sem, ]; try rfl) rfl ⟨rfl, ?_⟩
      (repeat' (first | (with_reducible exact Below.refl _ _) | (with_reducible assumption) | (with_reducible refine Below.alloc ?_ ?_ _) | (with_reducible refine Below.setCell ?_ ?_ _) | (with_reducible refine Below.drew ?_) | (with_reducible refine below_drewN ?_ _) | (with_reducible refine below_via ?_ (by with_reducible assumption) ?_) | omega | (simp; done) | (simp; omega)))
theorem good_short {w : World} {x : AcctV} (h : GoodA w x) : GoodA w (shortV x) ∧ (shortV x).clients.val.length ≤ 20 := by
  refine ⟨?_, by simp [shortV]; omega⟩
  unfold GoodA at *
  have := Rs.take h 20
  rw [← List.map_take] at this
  exact this
theorem insC_len (l : List Int) (c : Int) : (insC l c).length = l.length + 1 := by
  unfold insC
  have := congrArg List.length (List.takeWhile_append_dropWhile (p := fun x : Int => decide (x < c)) (l := l))
  simp only [List.length_append, List.length_cons] at this ⊢
  omega
theorem bindA_len (x : Acct) (c : Int) : (bindA x c).clients.length ≤ x.clients.length + 1 := by
  unfold bindA
  split
  · rw [insC_len]; omega
  · simp
theorem acctUnitsV (x : AcctV) (w : World) (hl : x.clients.val.length ≤ 1048576) (hg : GoodA w x) :
    Calls Try.prog 14 #[.agg #[.int .i64 x.id, .int .i64 x.member, .int .i64 x.kind, .slice x.clients.A x.clients.val.length x.clients.c]] w fun e w' => ∃ A c, e = .returned (.slice A (unitsA (lgA x)).length c) ∧ Rs w' 2 ((unitsA (lgA x)).map encUn) A c ∧ Below w.heap.size w w' :=
  (acctUnits (lgA x) x.clients.A x.clients.c w hl hg.rd).mono fun e w' ⟨v, h1, ⟨A, c, h2, h3⟩, h4⟩ => ⟨A, c, by rw [h1, h2], h3, h4⟩
theorem ref15UnitsV (x : AcctV) (w : World) (hl : x.clients.val.length ≤ 1048576) (hg : GoodA w x) :
    Calls Try.prog 15 #[.agg #[.int .i64 x.id, .int .i64 x.member, .int .i64 x.kind, .slice x.clients.A x.clients.val.length x.clients.c]] w fun e w' => ∃ A c, e = .returned (.slice A (unitsA (lgA x)).length c) ∧ Rs w' 2 ((unitsA (lgA x)).map encUn) A c ∧ Below w.heap.size w w' :=
  (ref15Units (lgA x) x.clients.A x.clients.c w hl hg.rd).mono fun e w' ⟨v, h1, ⟨A, c, h2, h3⟩, h4⟩ => ⟨A, c, by rw [h1, h2], h3, h4⟩
theorem acctHasV (x : AcctV) (u : Un) (w : World) (hl : x.clients.val.length ≤ 1000000) (hg : GoodA w x) :
    Calls Try.prog 16 #[.agg #[.int .i64 x.id, .int .i64 x.member, .int .i64 x.kind, .slice x.clients.A x.clients.val.length x.clients.c], .agg #[.int .i64 u.acc, .int .i64 u.cli]] w fun e w' => e = .returned (.bool (hasA (lgA x) u)) ∧ Below w.heap.size w w' :=
  acctHas (lgA x) u x.clients.A x.clients.c w hl hg.rd
theorem bind_lives : bindC ⟨2, 1, 2, [3]⟩ 7 = 0 ∧ bindA ⟨2, 1, 2, [3]⟩ 7 = ⟨2, 1, 2, [3, 7]⟩ := by decide
theorem live_has (W : World) (A : Option Addr) (c : Nat) (h : Rs W 1 ([3, 7].map encI) A c) : Calls Try.prog 16 #[.agg #[.int .i64 2, .int .i64 1, .int .i64 2, .slice A 2 c], .agg #[.int .i64 2, .int .i64 7]] W fun e w' => e = .returned (.bool true) ∧ Below W.heap.size W w' := by
  have h1 := acctHasV ⟨2, 1, 2, ⟨A, c, [3, 7]⟩⟩ ⟨2, 7⟩ W (by simp) h
  rw [show hasA (lgA ⟨2, 1, 2, ⟨A, c, [3, 7]⟩⟩) ⟨2, 7⟩ = true from by show hasA ⟨2, 1, 2, [3, 7]⟩ ⟨2, 7⟩ = true; decide] at h1
  exact h1
theorem live_check (W : World) (A : Option Addr) (c : Nat) (h : Rs W 1 ([3, 7].map encI) A c) : Calls Try.prog 11 #[.agg #[.int .i64 2, .int .i64 1, .int .i64 2, .slice A 2 c]] W fun e w' => e = .returned (.int .i64 0) ∧ Below W.heap.size W w' := by
  have h1 := acctCheckV ⟨2, 1, 2, ⟨A, c, [3, 7]⟩⟩ W (by simp) h
  rw [show codeA (lgA ⟨2, 1, 2, ⟨A, c, [3, 7]⟩⟩) = 0 from by show codeA ⟨2, 1, 2, [3, 7]⟩ = 0; decide] at h1
  exact h1
theorem live_bind (W : World) (A : Option Addr) (c : Nat) (h : Rs W 1 ([3].map encI) A c) : Calls Try.prog 18 #[.agg #[.int .i64 2, .int .i64 1, .int .i64 2, .slice A 1 c], .int .i64 7] W fun e w' => ∃ A' c', e = .returned (.tuple #[.agg #[.int .i64 2, .int .i64 1, .int .i64 2, .slice A' 2 c'], .int .i64 0]) ∧ Rs w' 1 ([3, 7].map encI) A' c' ∧ Below W.heap.size W w' := by
  refine (acctBind ⟨2, 1, 2, ⟨A, c, [3]⟩⟩ 7 W (by simp) h).mono fun e w' ⟨y, h1, h2, h3, h4⟩ => ?_
  have h5 : lgA y = ⟨2, 1, 2, [3, 7]⟩ := h2.trans bind_lives.2
  obtain ⟨i, m, k, A1, c1, l1⟩ := y
  simp only [lgA, Acct.mk.injEq] at h5
  obtain ⟨rfl, rfl, rfl, rfl⟩ := h5
  refine ⟨A1, c1, ?_, h3, h4⟩
  rw [h1, show bindC (lgA ⟨2, 1, 2, ⟨A, c, [3]⟩⟩) 7 = 0 from bind_lives.1]
  rfl
theorem live_units (W : World) (A : Option Addr) (c : Nat) (h : Rs W 1 ([3, 7].map encI) A c) : Calls Try.prog 14 #[.agg #[.int .i64 2, .int .i64 1, .int .i64 2, .slice A 2 c]] W fun e w' => ∃ A' c', e = .returned (.slice A' 2 c') ∧ Below W.heap.size W w' :=
  (acctUnitsV ⟨2, 1, 2, ⟨A, c, [3, 7]⟩⟩ W (by simp) h).mono fun _ _ ⟨A', c', h1, _, h3⟩ => ⟨A', c', h1, h3⟩
set_option maxRecDepth 100000 in
set_option maxHeartbeats 8000000 in
theorem law15lives (w : World) : Calls Try.prog 21 #[] w fun e w' => e = .returned (.bool true) ∧ Below w.heap.size w w' := by
  go_enter Try.func21, Try.ntmps21
  go_wp2_with (first | (go_at_call 18; (with_reducible refine (live_bind _ _ _ ⟨rd_one, by simp, by unfold maxLen; omega, fun h => by cases h⟩).mono ?_); rintro e w1 ⟨A1, c1, rfl, hr1, hb1⟩; have HG := Lib.hid hr1; clear hr1; obtain ⟨fc1, fg1, hc1, hf1, hz1⟩ := bget hb1; (try simp at hz1)) | (go_at_call 16; (with_reducible refine (live_has _ _ _ (HG.out.keep (by (repeat' (first | (with_reducible exact Below.refl _ _) | (with_reducible assumption) | (with_reducible refine Below.alloc ?_ ?_ _) | (with_reducible refine Below.setCell ?_ ?_ _) | (with_reducible refine Below.drew ?_) | (with_reducible refine below_drewN ?_ _) | (with_reducible refine below_via ?_ (by with_reducible assumption) ?_) | omega | (simp; done) | (simp; omega)))))).mono ?_); rintro e w2 ⟨rfl, hb2⟩; obtain ⟨fc2, fg2, hc2, hf2, hz2⟩ := bget hb2; (try simp at hz2)) | (go_at_call 14; (with_reducible refine (live_units _ _ _ (HG.out.keep (by (repeat' (first | (with_reducible exact Below.refl _ _) | (with_reducible assumption) | (with_reducible refine Below.alloc ?_ ?_ _) | (with_reducible refine Below.setCell ?_ ?_ _) | (with_reducible refine Below.drew ?_) | (with_reducible refine below_drewN ?_ _) | (with_reducible refine below_via ?_ (by with_reducible assumption) ?_) | omega | (simp; done) | (simp; omega)))))).mono ?_); rintro e w3 ⟨A3, c3, rfl, hb3⟩; obtain ⟨fc3, fg3, hc3, hf3, hz3⟩ := bget hb3; (try simp at hz3)) | (go_at_call 11; (with_reducible refine (live_check _ _ _ (HG.out.keep (by (repeat' (first | (with_reducible exact Below.refl _ _) | (with_reducible assumption) | (with_reducible refine Below.alloc ?_ ?_ _) | (with_reducible refine Below.setCell ?_ ?_ _) | (with_reducible refine Below.drew ?_) | (with_reducible refine below_drewN ?_ _) | (with_reducible refine below_via ?_ (by with_reducible assumption) ?_) | omega | (simp; done) | (simp; omega)))))).mono ?_); rintro e w4 ⟨rfl, hb4⟩; obtain ⟨fc4, fg4, hc4, hf4, hz4⟩ := bget hb4; (try simp at hz4)) | fail)
  go_ret
  exact ⟨rfl, by (repeat' (first | (with_reducible exact Below.refl _ _) | (with_reducible assumption) | (with_reducible refine Below.alloc ?_ ?_ _) | (with_reducible refine Below.setCell ?_ ?_ _) | (with_reducible refine Below.drew ?_) | (with_reducible refine below_drewN ?_ _) | (with_reducible refine below_via ?_ (by with_reducible assumption) ?_) | omega | (simp; done) | (simp; omega)))⟩
set_option maxRecDepth 100000 in
set_option maxHeartbeats 16000000 in
theorem acctBindsAt (a0 a : AcctV) (t : Int) (u : Un) (us : List Un) (hb : Bool) (ck : Int) (ok : Bool) (w : World) (hal : a.clients.val.length ≤ 20) (hok : (ok = true ∧ ck = 0) ∨ (ok = false ∧ ck = 2))
    (c1 : ∀ W, Below w.heap.size w W → Calls Try.prog 10 #[.agg #[.int .i64 a0.id, .int .i64 a0.member, .int .i64 a0.kind, .slice a0.clients.A a0.clients.val.length a0.clients.c]] W fun e w' => e = .returned (.agg #[.int .i64 a.id, .int .i64 a.member, .int .i64 a.kind, .slice a.clients.A a.clients.val.length a.clients.c]) ∧ Below W.heap.size W w')
    (c2 : ∀ W, Below w.heap.size w W → Calls Try.prog 11 #[.agg #[.int .i64 a.id, .int .i64 a.member, .int .i64 a.kind, .slice a.clients.A a.clients.val.length a.clients.c]] W fun e w' => e = .returned (.int .i64 ck) ∧ Below W.heap.size W w')
    (c3 : ∀ W, Below w.heap.size w W → Calls Try.prog 12 #[.agg #[.int .i64 a.id, .int .i64 a.member, .int .i64 a.kind, .slice a.clients.A a.clients.val.length a.clients.c]] W fun e w' => e = .returned (.bool ok) ∧ Below W.heap.size W w')
    (c4 : ∀ W, Below w.heap.size w W → Calls Try.prog 14 #[.agg #[.int .i64 a.id, .int .i64 a.member, .int .i64 a.kind, .slice a.clients.A a.clients.val.length a.clients.c]] W fun e w' => ∃ A c, e = .returned (.slice A us.length c) ∧ Rs w' 2 (us.map encUn) A c ∧ Below W.heap.size W w')
    (c5 : ∀ W, Below w.heap.size w W → Calls Try.prog 15 #[.agg #[.int .i64 a.id, .int .i64 a.member, .int .i64 a.kind, .slice a.clients.A a.clients.val.length a.clients.c]] W fun e w' => ∃ A c, e = .returned (.slice A us.length c) ∧ Rs w' 2 (us.map encUn) A c ∧ Below W.heap.size W w')
    (c6 : ∀ W A B c d, Rs W 2 (us.map encUn) A c → Rs W 2 (us.map encUn) B d → Calls Try.prog 13 #[.slice A us.length c, .slice B us.length d] W fun e w' => e = .returned (.bool true) ∧ Below W.heap.size W w')
    (c7 : ∀ W, Below w.heap.size w W → Calls Try.prog 16 #[.agg #[.int .i64 a.id, .int .i64 a.member, .int .i64 a.kind, .slice a.clients.A a.clients.val.length a.clients.c], .agg #[.int .i64 u.acc, .int .i64 u.cli]] W fun e w' => e = .returned (.bool hb) ∧ Below W.heap.size W w')
    (c8 : ∀ W, Below w.heap.size w W → Calls Try.prog 17 #[.agg #[.int .i64 a.id, .int .i64 a.member, .int .i64 a.kind, .slice a.clients.A a.clients.val.length a.clients.c], .agg #[.int .i64 u.acc, .int .i64 u.cli]] W fun e w' => e = .returned (.bool hb) ∧ Below W.heap.size W w')
    (c9 : ∀ W, Below w.heap.size w W → Calls Try.prog 18 #[.agg #[.int .i64 a.id, .int .i64 a.member, .int .i64 a.kind, .slice a.clients.A a.clients.val.length a.clients.c], .int .i64 t] W (BindPost W (lgA a) t))
    (c10 : ∀ W, Below w.heap.size w W → Calls Try.prog 19 #[.agg #[.int .i64 a.id, .int .i64 a.member, .int .i64 a.kind, .slice a.clients.A a.clients.val.length a.clients.c], .int .i64 t] W (BindPost W (lgA a) t)) :
    Calls Try.prog 3 #[.agg #[.int .i64 a0.id, .int .i64 a0.member, .int .i64 a0.kind, .slice a0.clients.A a0.clients.val.length a0.clients.c], .int .i64 t, .agg #[.int .i64 u.acc, .int .i64 u.cli]] w fun e w' => e = .returned (.bool true) ∧ Below w.heap.size w w' := by
  have C1 := Lib.hid c1
  have C2 := Lib.hid c2
  have C3 := Lib.hid c3
  have C4 := Lib.hid c4
  have C5 := Lib.hid c5
  have C6 := Lib.hid c6
  have C7 := Lib.hid c7
  have C8 := Lib.hid c8
  have C9 := Lib.hid c9
  have C10 := Lib.hid c10
  have hbl := bindA_len (lgA a) t
  have hlen : (bindA (lgA a) t).clients.length ≤ 21 := Nat.le_trans hbl (by show a.clients.val.length + 1 ≤ 21; omega)
  have HBL := Lib.hid hlen
  clear c1 c2 c3 c4 c5 c6 c7 c8 c9 c10 hbl hlen
  generalize bindC (lgA a) t = bc at *
  rcases hok with ⟨rfl, rfl⟩ | ⟨rfl, rfl⟩
  all_goals
    cases hb
    all_goals
      go_enter Try.func3, Try.ntmps3
      go_wp2_with (first | (go_at_call 10; (with_reducible refine (C1.out _ (by (repeat' (first | (with_reducible exact Below.refl _ _) | (with_reducible assumption) | (with_reducible refine Below.alloc ?_ ?_ _) | (with_reducible refine Below.setCell ?_ ?_ _) | (with_reducible refine Below.drew ?_) | (with_reducible refine below_drewN ?_ _) | (with_reducible refine below_via ?_ (by with_reducible assumption) ?_) | omega | (simp; done) | (simp; omega))))).mono ?_); rintro e w1 ⟨rfl, hb1⟩; obtain ⟨fc1, fg1, hc1, hf1, hz1⟩ := bget hb1; (try simp at hz1)) | fail)
      have k0 : (((((w1.setCell ⟨w.heap.size, 0, none⟩ (.int .i64 a.id)).setCell ⟨w.heap.size, 1, none⟩ (.int .i64 a.member)).setCell ⟨w.heap.size, 2, none⟩ (.int .i64 a.kind)).setCell ⟨w.heap.size, 3, none⟩ (.slice a.clients.A a.clients.val.length a.clients.c))).cell? ⟨w.heap.size, 0, none⟩ = some (.int .i64 a.id) := by simp [hc1, go_sem]
      have k1 : (((((w1.setCell ⟨w.heap.size, 0, none⟩ (.int .i64 a.id)).setCell ⟨w.heap.size, 1, none⟩ (.int .i64 a.member)).setCell ⟨w.heap.size, 2, none⟩ (.int .i64 a.kind)).setCell ⟨w.heap.size, 3, none⟩ (.slice a.clients.A a.clients.val.length a.clients.c))).cell? ⟨w.heap.size, 1, none⟩ = some (.int .i64 a.member) := by simp [hc1, go_sem]
      have k2 : (((((w1.setCell ⟨w.heap.size, 0, none⟩ (.int .i64 a.id)).setCell ⟨w.heap.size, 1, none⟩ (.int .i64 a.member)).setCell ⟨w.heap.size, 2, none⟩ (.int .i64 a.kind)).setCell ⟨w.heap.size, 3, none⟩ (.slice a.clients.A a.clients.val.length a.clients.c))).cell? ⟨w.heap.size, 2, none⟩ = some (.int .i64 a.kind) := by simp [hc1, go_sem]
      have k3 : (((((w1.setCell ⟨w.heap.size, 0, none⟩ (.int .i64 a.id)).setCell ⟨w.heap.size, 1, none⟩ (.int .i64 a.member)).setCell ⟨w.heap.size, 2, none⟩ (.int .i64 a.kind)).setCell ⟨w.heap.size, 3, none⟩ (.slice a.clients.A a.clients.val.length a.clients.c))).cell? ⟨w.heap.size, 3, none⟩ = some (.slice a.clients.A a.clients.val.length a.clients.c) := by simp [hc1, go_sem]
      have k4 : (((((w1.setCell ⟨w.heap.size, 0, none⟩ (.int .i64 a.id)).setCell ⟨w.heap.size, 1, none⟩ (.int .i64 a.member)).setCell ⟨w.heap.size, 2, none⟩ (.int .i64 a.kind)).setCell ⟨w.heap.size, 3, none⟩ (.slice a.clients.A a.clients.val.length a.clients.c))).cell? ⟨w.heap.size + 1, 0, none⟩ = some (.int .i64 u.acc) := by simp [hc1, go_sem]
      have k5 : (((((w1.setCell ⟨w.heap.size, 0, none⟩ (.int .i64 a.id)).setCell ⟨w.heap.size, 1, none⟩ (.int .i64 a.member)).setCell ⟨w.heap.size, 2, none⟩ (.int .i64 a.kind)).setCell ⟨w.heap.size, 3, none⟩ (.slice a.clients.A a.clients.val.length a.clients.c))).cell? ⟨w.heap.size + 1, 1, none⟩ = some (.int .i64 u.cli) := by simp [hc1, go_sem]
      have hbx : Below w.heap.size w (((((w1.setCell ⟨w.heap.size, 0, none⟩ (.int .i64 a.id)).setCell ⟨w.heap.size, 1, none⟩ (.int .i64 a.member)).setCell ⟨w.heap.size, 2, none⟩ (.int .i64 a.kind)).setCell ⟨w.heap.size, 3, none⟩ (.slice a.clients.A a.clients.val.length a.clients.c))) := by (repeat' (first | (with_reducible exact Below.refl _ _) | (with_reducible assumption) | (with_reducible refine Below.alloc ?_ ?_ _) | (with_reducible refine Below.setCell ?_ ?_ _) | (with_reducible refine Below.drew ?_) | (with_reducible refine below_drewN ?_ _) | (with_reducible refine below_via ?_ (by with_reducible assumption) ?_) | omega | (simp; done) | (simp; omega)))
      have hsx : w.heap.size + 2 ≤ (((((w1.setCell ⟨w.heap.size, 0, none⟩ (.int .i64 a.id)).setCell ⟨w.heap.size, 1, none⟩ (.int .i64 a.member)).setCell ⟨w.heap.size, 2, none⟩ (.int .i64 a.kind)).setCell ⟨w.heap.size, 3, none⟩ (.slice a.clients.A a.clients.val.length a.clients.c))).heap.size := by simp; omega
      generalize (((((w1.setCell ⟨w.heap.size, 0, none⟩ (.int .i64 a.id)).setCell ⟨w.heap.size, 1, none⟩ (.int .i64 a.member)).setCell ⟨w.heap.size, 2, none⟩ (.int .i64 a.kind)).setCell ⟨w.heap.size, 3, none⟩ (.slice a.clients.A a.clients.val.length a.clients.c))) = wx at *
      have Hbx := Lib.hid hbx
      clear hbx hb1 hc1 hf1 hz1
      go_region_held3 (fun w' => (w'.cell? ⟨w.heap.size, 0, none⟩ = some (.int .i64 a.id) ∧ w'.cell? ⟨w.heap.size, 1, none⟩ = some (.int .i64 a.member) ∧ w'.cell? ⟨w.heap.size, 2, none⟩ = some (.int .i64 a.kind) ∧ w'.cell? ⟨w.heap.size, 3, none⟩ = some (.slice a.clients.A a.clients.val.length a.clients.c)) ∧ w'.cell? ⟨w.heap.size + 1, 0, none⟩ = some (.int .i64 u.acc) ∧ w'.cell? ⟨w.heap.size + 1, 1, none⟩ = some (.int .i64 u.cli)) (first | (simp [go_sem]; done) | (repeat' (first | (with_reducible assumption) | (with_reducible refine And.intro ?_ ?_) | (with_reducible refine cell_drew ?_) | (with_reducible refine cell_via (by with_reducible assumption) ?_ ?_) | (simp [*]; done) | (simp [go_sem]; done) | (with_reducible refine cell_alloc ?_ ?_) | (with_reducible refine cell_set_far ?_ ?_) | omega | (simp; omega)))) (first | (go_at_call 11; (with_reducible refine (C2.out _ (by have hbx := Hbx.out; (repeat' (first | (with_reducible exact Below.refl _ _) | (with_reducible assumption) | (with_reducible refine Below.alloc ?_ ?_ _) | (with_reducible refine Below.setCell ?_ ?_ _) | (with_reducible refine Below.drew ?_) | (with_reducible refine below_drewN ?_ _) | (with_reducible refine below_via ?_ (by with_reducible assumption) ?_) | omega | (simp; done) | (simp; omega))))).mono ?_); rintro e w2 ⟨rfl, hb2⟩; obtain ⟨fc2, fg2, hc2, hf2, hz2⟩ := bget hb2; (try simp at hz2)) | (go_at_call 12; (with_reducible refine (C3.out _ (by have hbx := Hbx.out; (repeat' (first | (with_reducible exact Below.refl _ _) | (with_reducible assumption) | (with_reducible refine Below.alloc ?_ ?_ _) | (with_reducible refine Below.setCell ?_ ?_ _) | (with_reducible refine Below.drew ?_) | (with_reducible refine below_drewN ?_ _) | (with_reducible refine below_via ?_ (by with_reducible assumption) ?_) | omega | (simp; done) | (simp; omega))))).mono ?_); rintro e w3 ⟨rfl, hb3⟩; obtain ⟨fc3, fg3, hc3, hf3, hz3⟩ := bget hb3; (try simp at hz3)) | (go_at_call 14; (with_reducible refine (C4.out _ (by have hbx := Hbx.out; (repeat' (first | (with_reducible exact Below.refl _ _) | (with_reducible assumption) | (with_reducible refine Below.alloc ?_ ?_ _) | (with_reducible refine Below.setCell ?_ ?_ _) | (with_reducible refine Below.drew ?_) | (with_reducible refine below_drewN ?_ _) | (with_reducible refine below_via ?_ (by with_reducible assumption) ?_) | omega | (simp; done) | (simp; omega))))).mono ?_); rintro e w4 ⟨A4, c4, rfl, hr4, hb4⟩; have HU4 := Lib.hid hr4; clear hr4; obtain ⟨fc4, fg4, hc4, hf4, hz4⟩ := bget hb4; (try simp at hz4)) | (go_at_call 15; (with_reducible refine (C5.out _ (by have hbx := Hbx.out; (repeat' (first | (with_reducible exact Below.refl _ _) | (with_reducible assumption) | (with_reducible refine Below.alloc ?_ ?_ _) | (with_reducible refine Below.setCell ?_ ?_ _) | (with_reducible refine Below.drew ?_) | (with_reducible refine below_drewN ?_ _) | (with_reducible refine below_via ?_ (by with_reducible assumption) ?_) | omega | (simp; done) | (simp; omega))))).mono ?_); rintro e w5 ⟨A5, c5, rfl, hr5, hb5⟩; have HU5 := Lib.hid hr5; clear hr5; obtain ⟨fc5, fg5, hc5, hf5, hz5⟩ := bget hb5; (try simp at hz5)) | (go_at_call 13; (with_reducible refine (C6.out _ _ _ _ _ (HU4.out.keep (by (repeat' (first | (with_reducible exact Below.refl _ _) | (with_reducible assumption) | (with_reducible refine Below.alloc ?_ ?_ _) | (with_reducible refine Below.setCell ?_ ?_ _) | (with_reducible refine Below.drew ?_) | (with_reducible refine below_drewN ?_ _) | (with_reducible refine below_via ?_ (by with_reducible assumption) ?_) | omega | (simp; done) | (simp; omega))))) (HU5.out.keep (by (repeat' (first | (with_reducible exact Below.refl _ _) | (with_reducible assumption) | (with_reducible refine Below.alloc ?_ ?_ _) | (with_reducible refine Below.setCell ?_ ?_ _) | (with_reducible refine Below.drew ?_) | (with_reducible refine below_drewN ?_ _) | (with_reducible refine below_via ?_ (by with_reducible assumption) ?_) | omega | (simp; done) | (simp; omega)))))).mono ?_); rintro e w6 ⟨rfl, hb6⟩; obtain ⟨fc6, fg6, hc6, hf6, hz6⟩ := bget hb6; (try simp at hz6)) | (go_at_call 16; (with_reducible refine (C7.out _ (by have hbx := Hbx.out; (repeat' (first | (with_reducible exact Below.refl _ _) | (with_reducible assumption) | (with_reducible refine Below.alloc ?_ ?_ _) | (with_reducible refine Below.setCell ?_ ?_ _) | (with_reducible refine Below.drew ?_) | (with_reducible refine below_drewN ?_ _) | (with_reducible refine below_via ?_ (by with_reducible assumption) ?_) | omega | (simp; done) | (simp; omega))))).mono ?_); rintro e w7 ⟨rfl, hb7⟩; obtain ⟨fc7, fg7, hc7, hf7, hz7⟩ := bget hb7; (try simp at hz7)) | (go_at_call 17; (with_reducible refine (C8.out _ (by have hbx := Hbx.out; (repeat' (first | (with_reducible exact Below.refl _ _) | (with_reducible assumption) | (with_reducible refine Below.alloc ?_ ?_ _) | (with_reducible refine Below.setCell ?_ ?_ _) | (with_reducible refine Below.drew ?_) | (with_reducible refine below_drewN ?_ _) | (with_reducible refine below_via ?_ (by with_reducible assumption) ?_) | omega | (simp; done) | (simp; omega))))).mono ?_); rintro e w8 ⟨rfl, hb8⟩; obtain ⟨fc8, fg8, hc8, hf8, hz8⟩ := bget hb8; (try simp at hz8)) | fail)
      go_wp2_with (first | (go_at_call 18; (with_reducible refine (C9.out _ (by have hbx := Hbx.out; (repeat' (first | (with_reducible exact Below.refl _ _) | (with_reducible assumption) | (with_reducible refine Below.alloc ?_ ?_ _) | (with_reducible refine Below.setCell ?_ ?_ _) | (with_reducible refine Below.drew ?_) | (with_reducible refine below_drewN ?_ _) | (with_reducible refine below_via ?_ (by with_reducible assumption) ?_) | omega | (simp; done) | (simp; omega))))).mono ?_); rintro e w9 ⟨y1, rfl, hl1, hg1, hb9⟩; have HL1 := Lib.hid hl1; have HG1 := Lib.hid hg1; clear hl1 hg1; obtain ⟨fc9, fg9, hc9, hf9, hz9⟩ := bget hb9; (try simp at hz9)) | (go_at_call 19; (with_reducible refine (C10.out _ (by have hbx := Hbx.out; (repeat' (first | (with_reducible exact Below.refl _ _) | (with_reducible assumption) | (with_reducible refine Below.alloc ?_ ?_ _) | (with_reducible refine Below.setCell ?_ ?_ _) | (with_reducible refine Below.drew ?_) | (with_reducible refine below_drewN ?_ _) | (with_reducible refine below_via ?_ (by with_reducible assumption) ?_) | omega | (simp; done) | (simp; omega))))).mono ?_); rintro e w10 ⟨y2, rfl, hl2, hg2, hb10⟩; obtain ⟨i2, m2, k2, A2, d2, l2⟩ := y2; obtain ⟨rfl, rfl, rfl, rfl⟩ := lgA_eq (hl2.trans HL1.out.symm); have HG2 := Lib.hid (show Rs w10 1 (y1.clients.val.map encI) A2 d2 from hg2); clear hl2 hg2; have hyl : y1.clients.val.length ≤ 21 := (by have h1 := HBL.out; rw [← HL1.out] at h1; exact h1); obtain ⟨fc10, fg10, hc10, hf10, hz10⟩ := bget hb10; (try simp at hz10)) | (go_at_call 20; (with_reducible refine (ref15SameOne y1 A2 d2 _ (by omega) (HG1.out.keep (by (repeat' (first | (with_reducible exact Below.refl _ _) | (with_reducible assumption) | (with_reducible refine Below.alloc ?_ ?_ _) | (with_reducible refine Below.setCell ?_ ?_ _) | (with_reducible refine Below.drew ?_) | (with_reducible refine below_drewN ?_ _) | (with_reducible refine below_via ?_ (by with_reducible assumption) ?_) | omega | (simp; done) | (simp; omega))))) (HG2.out.keep (by (repeat' (first | (with_reducible exact Below.refl _ _) | (with_reducible assumption) | (with_reducible refine Below.alloc ?_ ?_ _) | (with_reducible refine Below.setCell ?_ ?_ _) | (with_reducible refine Below.drew ?_) | (with_reducible refine below_drewN ?_ _) | (with_reducible refine below_via ?_ (by with_reducible assumption) ?_) | omega | (simp; done) | (simp; omega)))))).mono ?_); rintro e w11 ⟨rfl, hb11⟩; obtain ⟨fc11, fg11, hc11, hf11, hz11⟩ := bget hb11; (try simp at hz11)) | (go_at_call 21; (with_reducible refine (law15lives _).mono ?_); rintro e w12 ⟨rfl, hb12⟩; obtain ⟨fc12, fg12, hc12, hf12, hz12⟩ := bget hb12; (try simp at hz12)) | fail)
      go_ret
      exact ⟨rfl, by have hbx := Hbx.out; (repeat' (first | (with_reducible exact Below.refl _ _) | (with_reducible assumption) | (with_reducible refine Below.alloc ?_ ?_ _) | (with_reducible refine Below.setCell ?_ ?_ _) | (with_reducible refine Below.drew ?_) | (with_reducible refine below_drewN ?_ _) | (with_reducible refine below_via ?_ (by with_reducible assumption) ?_) | omega | (simp; done) | (simp; omega)))⟩
theorem acctBinds (a0 : AcctV) (t : Int) (u : Un) (w : World) (hg : GoodA w a0) :
    Calls Try.prog 3 #[.agg #[.int .i64 a0.id, .int .i64 a0.member, .int .i64 a0.kind, .slice a0.clients.A a0.clients.val.length a0.clients.c], .int .i64 t, .agg #[.int .i64 u.acc, .int .i64 u.cli]] w fun e w' => e = .returned (.bool true) ∧ Below w.heap.size w w' := by
  have hs := good_short hg
  have hul := units_len (lgA (shortV a0))
  have hul2 : (unitsA (lgA (shortV a0))).length ≤ 1099511627776 := Nat.le_trans hul (by show (shortV a0).clients.val.length + 1 ≤ _; omega)
  exact acctBindsAt a0 (shortV a0) t u (unitsA (lgA (shortV a0))) (hasA (lgA (shortV a0)) u) (codeA (lgA (shortV a0))) (okAV (shortV a0)) w hs.2
    (by unfold codeA okAV; by_cases h : okA (lgA (shortV a0)) <;> simp [h])
    (fun W h => law15short a0 W (hg.keep h)) (fun W h => acctCheckV _ W (by omega) (hs.1.keep h)) (fun W h => ref15IsV _ W (by omega) (hs.1.keep h))
    (fun W h => acctUnitsV _ W (by omega) (hs.1.keep h)) (fun W h => ref15UnitsV _ W (by omega) (hs.1.keep h))
    (fun W A B c d h1 h2 => sameUnits _ A B c d W hul2 h1.rd h2.rd)
    (fun W h => acctHasV _ u W (by omega) (hs.1.keep h)) (fun W h => ref15HasV _ u W (by omega) (hs.1.keep h))
    (fun W h => acctBind _ t W (by omega) (hs.1.keep h)) (fun W h => ref15Bind _ t W (by omega) (hs.1.keep h))
end Go.Proofs.Ytemhhojenocddaa
