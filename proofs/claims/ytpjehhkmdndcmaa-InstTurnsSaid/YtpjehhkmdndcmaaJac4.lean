/- Joined: InstL4. -/
import Derived.Test.YtpjehhkmdndcmaaJz10
import Derived.Test.YtpjehhkmdndcmaaJac3
/- Layer 13's laws: InstTurns' walk. -/
namespace Go.Proofs.Ytpjehhkmdndcmaa
open Go.RowKit
theorem cmpZero (s : Bool) (l : List Int) (A : Option Addr) (c : Nat) (W : World) (hl : l.length ≤ 70) (h : IsBig W 0 s A l c) :
    Calls Try.prog 13 #[.agg #[.bool s, .slice A l.length c], .agg #[.bool false, .slice none 0 0]] W fun e w' => e = .returned (.int .i64 0) ∧ Below W.heap.size W w' :=
  bigCmp 0 0 s false l [] A none c 0 70 W (by omega) hl (by simp) h isBig_nil2
set_option maxRecDepth 100000 in
set_option maxHeartbeats 16000000 in
theorem instTurns11 (x0 x : Inst) (q f t an ae bn be cn ce : Int) (A : Option Addr) (c : Nat) (w : World) (ha : In64 an) (hb : In64 bn) (hcn : In64 cn) (hr0 : Rd w A 1 (x0.moves.map encI)) (hr : Rd w A 1 (x.moves.map encI))
    (c0 : ∀ W, Rd W A 1 (x0.moves.map encI) → Calls Try.prog 11 #[.agg #[.int .i64 (x0).id, .int .i64 (x0).mult, .int .i64 (x0).price, .int .i64 (x0).next, .slice A (x0).moves.length c]] W fun e w' => e = .returned (.agg #[.int .i64 (x).id, .int .i64 (x).mult, .int .i64 (x).price, .int .i64 (x).next, .slice A (x).moves.length c]) ∧ Below W.heap.size W w')
    (c1 : ∀ W, Rd W A 1 (x.moves.map encI) → Calls Try.prog 16 #[.agg #[.int .i64 (x).id, .int .i64 (x).mult, .int .i64 (x).price, .int .i64 (x).next, .slice A (x).moves.length c], .int .i64 q, .int .i64 f, .int .i64 t] W fun e w' => e = .returned (.tuple #[.int .i64 an, .int .i64 ae]) ∧ Below W.heap.size W w')
    (c2 : ∀ W, Rd W A 1 (x.moves.map encI) → Calls Try.prog 16 #[.agg #[.int .i64 (x).id, .int .i64 (x).mult, .int .i64 (x).price, .int .i64 (x).next, .slice A (x).moves.length c], .int .i64 q, .int .i64 t, .int .i64 f] W fun e w' => e = .returned (.tuple #[.int .i64 bn, .int .i64 be]) ∧ Below W.heap.size W w')
    (h1 : ae ≠ 0) (hq : q = -9223372036854775808) :
    Calls Try.prog 4 #[.agg #[.int .i64 (x0).id, .int .i64 (x0).mult, .int .i64 (x0).price, .int .i64 (x0).next, .slice A (x0).moves.length c], .int .i64 q, .int .i64 f, .int .i64 t] w fun e w' => e = .returned (.bool true) ∧ Below w.heap.size w w' := by
  have hu : In64 an ∧ In64 bn ∧ In64 cn ∧ ce = ce := ⟨ha, hb, hcn, rfl⟩
  generalize x0.moves.length = n0 at *
  generalize x.moves.length = n at *
  have g1 := (eqF h1).1
  have g2 := (eqF h1).2
  have gq := (eqT hq).1
  clear hq
  have HR0 := Lib.hid hr0
  have HR := Lib.hid hr
  have C0 := Lib.hid c0
  have C1 := Lib.hid c1
  have C2 := Lib.hid c2
  clear c0 c1 c2 hr0 hr hu
  go_enter Try.func4, Try.ntmps4
  go_wp2_with (first | (go_at_call 11; (with_reducible refine (C0.out _ (HR0.out.keep (by (repeat' (first | (with_reducible exact Below.refl _ _) | (with_reducible assumption) | (with_reducible refine Below.alloc ?_ ?_ _) | (with_reducible refine Below.setCell ?_ ?_ _) | (with_reducible refine Below.drew ?_) | (with_reducible refine below_drewN ?_ _) | (with_reducible refine below_via ?_ (by with_reducible assumption) ?_) | omega | (simp; done) | (simp; omega)))))).mono ?_); rintro e w20 ⟨rfl, hb20⟩; obtain ⟨fc20, fg20, hc20, hf20, hz20⟩ := bget hb20; (try simp at hz20)) | (go_at_call 16; (with_reducible refine (C1.out _ (HR.out.keep (by (repeat' (first | (with_reducible exact Below.refl _ _) | (with_reducible assumption) | (with_reducible refine Below.alloc ?_ ?_ _) | (with_reducible refine Below.setCell ?_ ?_ _) | (with_reducible refine Below.drew ?_) | (with_reducible refine below_drewN ?_ _) | (with_reducible refine below_via ?_ (by with_reducible assumption) ?_) | omega | (simp; done) | (simp; omega)))))).mono ?_); rintro e w1 ⟨rfl, hb1⟩; obtain ⟨fc1, fg1, hc1, hf1, hz1⟩ := bget hb1; (try simp at hz1)) | (go_at_call 16; (with_reducible refine (C2.out _ (HR.out.keep (by (repeat' (first | (with_reducible exact Below.refl _ _) | (with_reducible assumption) | (with_reducible refine Below.alloc ?_ ?_ _) | (with_reducible refine Below.setCell ?_ ?_ _) | (with_reducible refine Below.drew ?_) | (with_reducible refine below_drewN ?_ _) | (with_reducible refine below_via ?_ (by with_reducible assumption) ?_) | omega | (simp; done) | (simp; omega)))))).mono ?_); rintro e w2 ⟨rfl, hb2⟩; obtain ⟨fc2, fg2, hc2, hf2, hz2⟩ := bget hb2; (try simp at hz2)) | fail | fail | (go_at_call 18; (with_reducible refine (law13lives _).mono ?_); rintro e w19 ⟨rfl, hb19⟩; obtain ⟨fc19, fg19, hc19, hf19, hz19⟩ := bget hb19; (try simp at hz19)) | fail)
  all_goals
    go_ret
    exact ⟨rfl, by (repeat' (first | (with_reducible exact Below.refl _ _) | (with_reducible assumption) | (with_reducible refine Below.alloc ?_ ?_ _) | (with_reducible refine Below.setCell ?_ ?_ _) | (with_reducible refine Below.drew ?_) | (with_reducible refine below_drewN ?_ _) | (with_reducible refine below_via ?_ (by with_reducible assumption) ?_) | omega | (simp; done) | (simp; omega)))⟩
set_option maxRecDepth 100000 in
set_option maxHeartbeats 16000000 in
theorem instTurns12 (x0 x : Inst) (q f t an ae bn be cn ce : Int) (A : Option Addr) (c : Nat) (w : World) (ha : In64 an) (hb : In64 bn) (hcn : In64 cn) (hr0 : Rd w A 1 (x0.moves.map encI)) (hr : Rd w A 1 (x.moves.map encI))
    (c0 : ∀ W, Rd W A 1 (x0.moves.map encI) → Calls Try.prog 11 #[.agg #[.int .i64 (x0).id, .int .i64 (x0).mult, .int .i64 (x0).price, .int .i64 (x0).next, .slice A (x0).moves.length c]] W fun e w' => e = .returned (.agg #[.int .i64 (x).id, .int .i64 (x).mult, .int .i64 (x).price, .int .i64 (x).next, .slice A (x).moves.length c]) ∧ Below W.heap.size W w')
    (c1 : ∀ W, Rd W A 1 (x.moves.map encI) → Calls Try.prog 16 #[.agg #[.int .i64 (x).id, .int .i64 (x).mult, .int .i64 (x).price, .int .i64 (x).next, .slice A (x).moves.length c], .int .i64 q, .int .i64 f, .int .i64 t] W fun e w' => e = .returned (.tuple #[.int .i64 an, .int .i64 ae]) ∧ Below W.heap.size W w')
    (c2 : ∀ W, Rd W A 1 (x.moves.map encI) → Calls Try.prog 16 #[.agg #[.int .i64 (x).id, .int .i64 (x).mult, .int .i64 (x).price, .int .i64 (x).next, .slice A (x).moves.length c], .int .i64 q, .int .i64 t, .int .i64 f] W fun e w' => e = .returned (.tuple #[.int .i64 bn, .int .i64 be]) ∧ Below W.heap.size W w')
    (h1 : ae ≠ 0) (hq : q ≠ -9223372036854775808) (hqi : In64 q) (c7 : ∀ W, Rd W A 1 (x.moves.map encI) → Calls Try.prog 16 #[.agg #[.int .i64 (x).id, .int .i64 (x).mult, .int .i64 (x).price, .int .i64 (x).next, .slice A (x).moves.length c], .int .i64 (-q), .int .i64 f, .int .i64 t] W fun e w' => e = .returned (.tuple #[.int .i64 cn, .int .i64 ce]) ∧ Below W.heap.size W w') :
    Calls Try.prog 4 #[.agg #[.int .i64 (x0).id, .int .i64 (x0).mult, .int .i64 (x0).price, .int .i64 (x0).next, .slice A (x0).moves.length c], .int .i64 q, .int .i64 f, .int .i64 t] w fun e w' => e = .returned (.bool true) ∧ Below w.heap.size w w' := by
  have hu : In64 an ∧ In64 bn ∧ In64 cn ∧ ce = ce := ⟨ha, hb, hcn, rfl⟩
  generalize x0.moves.length = n0 at *
  generalize x.moves.length = n at *
  have g1 := (eqF h1).1
  have g2 := (eqF h1).2
  have gq := (eqF hq).1
  have hw : IntKind.i64.wrap (-q) = -q := (by unfold In64 at hqi; rw [IntKind.wrap_i64]; omega)
  have C7 := Lib.hid c7
  clear hq c7
  have HR0 := Lib.hid hr0
  have HR := Lib.hid hr
  have C0 := Lib.hid c0
  have C1 := Lib.hid c1
  have C2 := Lib.hid c2
  clear c0 c1 c2 hr0 hr hu
  go_enter Try.func4, Try.ntmps4
  go_wp2_with (first | (go_at_call 11; (with_reducible refine (C0.out _ (HR0.out.keep (by (repeat' (first | (with_reducible exact Below.refl _ _) | (with_reducible assumption) | (with_reducible refine Below.alloc ?_ ?_ _) | (with_reducible refine Below.setCell ?_ ?_ _) | (with_reducible refine Below.drew ?_) | (with_reducible refine below_drewN ?_ _) | (with_reducible refine below_via ?_ (by with_reducible assumption) ?_) | omega | (simp; done) | (simp; omega)))))).mono ?_); rintro e w20 ⟨rfl, hb20⟩; obtain ⟨fc20, fg20, hc20, hf20, hz20⟩ := bget hb20; (try simp at hz20)) | (go_at_call 16; (with_reducible refine (C1.out _ (HR.out.keep (by (repeat' (first | (with_reducible exact Below.refl _ _) | (with_reducible assumption) | (with_reducible refine Below.alloc ?_ ?_ _) | (with_reducible refine Below.setCell ?_ ?_ _) | (with_reducible refine Below.drew ?_) | (with_reducible refine below_drewN ?_ _) | (with_reducible refine below_via ?_ (by with_reducible assumption) ?_) | omega | (simp; done) | (simp; omega)))))).mono ?_); rintro e w1 ⟨rfl, hb1⟩; obtain ⟨fc1, fg1, hc1, hf1, hz1⟩ := bget hb1; (try simp at hz1)) | (go_at_call 16; (with_reducible refine (C2.out _ (HR.out.keep (by (repeat' (first | (with_reducible exact Below.refl _ _) | (with_reducible assumption) | (with_reducible refine Below.alloc ?_ ?_ _) | (with_reducible refine Below.setCell ?_ ?_ _) | (with_reducible refine Below.drew ?_) | (with_reducible refine below_drewN ?_ _) | (with_reducible refine below_via ?_ (by with_reducible assumption) ?_) | omega | (simp; done) | (simp; omega)))))).mono ?_); rintro e w2 ⟨rfl, hb2⟩; obtain ⟨fc2, fg2, hc2, hf2, hz2⟩ := bget hb2; (try simp at hz2)) | fail | (go_at_call 16; (with_reducible refine (C7.out _ (HR.out.keep (by (repeat' (first | (with_reducible exact Below.refl _ _) | (with_reducible assumption) | (with_reducible refine Below.alloc ?_ ?_ _) | (with_reducible refine Below.setCell ?_ ?_ _) | (with_reducible refine Below.drew ?_) | (with_reducible refine below_drewN ?_ _) | (with_reducible refine below_via ?_ (by with_reducible assumption) ?_) | omega | (simp; done) | (simp; omega)))))).mono ?_); rintro e w7 ⟨rfl, hb7⟩; obtain ⟨fc7, fg7, hc7, hf7, hz7⟩ := bget hb7; (try simp at hz7)) | (go_at_call 18; (with_reducible refine (law13lives _).mono ?_); rintro e w19 ⟨rfl, hb19⟩; obtain ⟨fc19, fg19, hc19, hf19, hz19⟩ := bget hb19; (try simp at hz19)) | fail)
  all_goals
    go_ret
    exact ⟨rfl, by (repeat' (first | (with_reducible exact Below.refl _ _) | (with_reducible assumption) | (with_reducible refine Below.alloc ?_ ?_ _) | (with_reducible refine Below.setCell ?_ ?_ _) | (with_reducible refine Below.drew ?_) | (with_reducible refine below_drewN ?_ _) | (with_reducible refine below_via ?_ (by with_reducible assumption) ?_) | omega | (simp; done) | (simp; omega)))⟩
set_option maxRecDepth 100000 in
set_option maxHeartbeats 16000000 in
theorem instTurns21 (x0 x : Inst) (q f t an ae bn be cn ce : Int) (A : Option Addr) (c : Nat) (w : World) (ha : In64 an) (hb : In64 bn) (hcn : In64 cn) (hr0 : Rd w A 1 (x0.moves.map encI)) (hr : Rd w A 1 (x.moves.map encI))
    (c0 : ∀ W, Rd W A 1 (x0.moves.map encI) → Calls Try.prog 11 #[.agg #[.int .i64 (x0).id, .int .i64 (x0).mult, .int .i64 (x0).price, .int .i64 (x0).next, .slice A (x0).moves.length c]] W fun e w' => e = .returned (.agg #[.int .i64 (x).id, .int .i64 (x).mult, .int .i64 (x).price, .int .i64 (x).next, .slice A (x).moves.length c]) ∧ Below W.heap.size W w')
    (c1 : ∀ W, Rd W A 1 (x.moves.map encI) → Calls Try.prog 16 #[.agg #[.int .i64 (x).id, .int .i64 (x).mult, .int .i64 (x).price, .int .i64 (x).next, .slice A (x).moves.length c], .int .i64 q, .int .i64 f, .int .i64 t] W fun e w' => e = .returned (.tuple #[.int .i64 an, .int .i64 ae]) ∧ Below W.heap.size W w')
    (c2 : ∀ W, Rd W A 1 (x.moves.map encI) → Calls Try.prog 16 #[.agg #[.int .i64 (x).id, .int .i64 (x).mult, .int .i64 (x).price, .int .i64 (x).next, .slice A (x).moves.length c], .int .i64 q, .int .i64 t, .int .i64 f] W fun e w' => e = .returned (.tuple #[.int .i64 bn, .int .i64 be]) ∧ Below W.heap.size W w')
    (h1 : ae = 0) (h2 : be ≠ 0) (hq : q = -9223372036854775808) :
    Calls Try.prog 4 #[.agg #[.int .i64 (x0).id, .int .i64 (x0).mult, .int .i64 (x0).price, .int .i64 (x0).next, .slice A (x0).moves.length c], .int .i64 q, .int .i64 f, .int .i64 t] w fun e w' => e = .returned (.bool true) ∧ Below w.heap.size w w' := by
  have hu : In64 an ∧ In64 bn ∧ In64 cn ∧ ce = ce := ⟨ha, hb, hcn, rfl⟩
  generalize x0.moves.length = n0 at *
  generalize x.moves.length = n at *
  subst h1
  have g1 := (eqF h2).1
  have gq := (eqT hq).1
  clear hq
  have HR0 := Lib.hid hr0
  have HR := Lib.hid hr
  have C0 := Lib.hid c0
  have C1 := Lib.hid c1
  have C2 := Lib.hid c2
  clear c0 c1 c2 hr0 hr hu
  go_enter Try.func4, Try.ntmps4
  go_wp2_with (first | (go_at_call 11; (with_reducible refine (C0.out _ (HR0.out.keep (by (repeat' (first | (with_reducible exact Below.refl _ _) | (with_reducible assumption) | (with_reducible refine Below.alloc ?_ ?_ _) | (with_reducible refine Below.setCell ?_ ?_ _) | (with_reducible refine Below.drew ?_) | (with_reducible refine below_drewN ?_ _) | (with_reducible refine below_via ?_ (by with_reducible assumption) ?_) | omega | (simp; done) | (simp; omega)))))).mono ?_); rintro e w20 ⟨rfl, hb20⟩; obtain ⟨fc20, fg20, hc20, hf20, hz20⟩ := bget hb20; (try simp at hz20)) | (go_at_call 16; (with_reducible refine (C1.out _ (HR.out.keep (by (repeat' (first | (with_reducible exact Below.refl _ _) | (with_reducible assumption) | (with_reducible refine Below.alloc ?_ ?_ _) | (with_reducible refine Below.setCell ?_ ?_ _) | (with_reducible refine Below.drew ?_) | (with_reducible refine below_drewN ?_ _) | (with_reducible refine below_via ?_ (by with_reducible assumption) ?_) | omega | (simp; done) | (simp; omega)))))).mono ?_); rintro e w1 ⟨rfl, hb1⟩; obtain ⟨fc1, fg1, hc1, hf1, hz1⟩ := bget hb1; (try simp at hz1)) | (go_at_call 16; (with_reducible refine (C2.out _ (HR.out.keep (by (repeat' (first | (with_reducible exact Below.refl _ _) | (with_reducible assumption) | (with_reducible refine Below.alloc ?_ ?_ _) | (with_reducible refine Below.setCell ?_ ?_ _) | (with_reducible refine Below.drew ?_) | (with_reducible refine below_drewN ?_ _) | (with_reducible refine below_via ?_ (by with_reducible assumption) ?_) | omega | (simp; done) | (simp; omega)))))).mono ?_); rintro e w2 ⟨rfl, hb2⟩; obtain ⟨fc2, fg2, hc2, hf2, hz2⟩ := bget hb2; (try simp at hz2)) | fail | fail | (go_at_call 18; (with_reducible refine (law13lives _).mono ?_); rintro e w19 ⟨rfl, hb19⟩; obtain ⟨fc19, fg19, hc19, hf19, hz19⟩ := bget hb19; (try simp at hz19)) | fail)
  all_goals
    go_ret
    exact ⟨rfl, by (repeat' (first | (with_reducible exact Below.refl _ _) | (with_reducible assumption) | (with_reducible refine Below.alloc ?_ ?_ _) | (with_reducible refine Below.setCell ?_ ?_ _) | (with_reducible refine Below.drew ?_) | (with_reducible refine below_drewN ?_ _) | (with_reducible refine below_via ?_ (by with_reducible assumption) ?_) | omega | (simp; done) | (simp; omega)))⟩
set_option maxRecDepth 100000 in
set_option maxHeartbeats 16000000 in
theorem instTurns23 (x0 x : Inst) (q f t an ae bn be cn ce : Int) (A : Option Addr) (c : Nat) (w : World) (ha : In64 an) (hb : In64 bn) (hcn : In64 cn) (hr0 : Rd w A 1 (x0.moves.map encI)) (hr : Rd w A 1 (x.moves.map encI))
    (c0 : ∀ W, Rd W A 1 (x0.moves.map encI) → Calls Try.prog 11 #[.agg #[.int .i64 (x0).id, .int .i64 (x0).mult, .int .i64 (x0).price, .int .i64 (x0).next, .slice A (x0).moves.length c]] W fun e w' => e = .returned (.agg #[.int .i64 (x).id, .int .i64 (x).mult, .int .i64 (x).price, .int .i64 (x).next, .slice A (x).moves.length c]) ∧ Below W.heap.size W w')
    (c1 : ∀ W, Rd W A 1 (x.moves.map encI) → Calls Try.prog 16 #[.agg #[.int .i64 (x).id, .int .i64 (x).mult, .int .i64 (x).price, .int .i64 (x).next, .slice A (x).moves.length c], .int .i64 q, .int .i64 f, .int .i64 t] W fun e w' => e = .returned (.tuple #[.int .i64 an, .int .i64 ae]) ∧ Below W.heap.size W w')
    (c2 : ∀ W, Rd W A 1 (x.moves.map encI) → Calls Try.prog 16 #[.agg #[.int .i64 (x).id, .int .i64 (x).mult, .int .i64 (x).price, .int .i64 (x).next, .slice A (x).moves.length c], .int .i64 q, .int .i64 t, .int .i64 f] W fun e w' => e = .returned (.tuple #[.int .i64 bn, .int .i64 be]) ∧ Below W.heap.size W w')
    (h1 : ae = 0) (h2 : be ≠ 0) (hq : q ≠ -9223372036854775808) (hqi : In64 q) (c7 : ∀ W, Rd W A 1 (x.moves.map encI) → Calls Try.prog 16 #[.agg #[.int .i64 (x).id, .int .i64 (x).mult, .int .i64 (x).price, .int .i64 (x).next, .slice A (x).moves.length c], .int .i64 (-q), .int .i64 f, .int .i64 t] W fun e w' => e = .returned (.tuple #[.int .i64 cn, .int .i64 ce]) ∧ Below W.heap.size W w') (h7 : ce ≠ 0) :
    Calls Try.prog 4 #[.agg #[.int .i64 (x0).id, .int .i64 (x0).mult, .int .i64 (x0).price, .int .i64 (x0).next, .slice A (x0).moves.length c], .int .i64 q, .int .i64 f, .int .i64 t] w fun e w' => e = .returned (.bool true) ∧ Below w.heap.size w w' := by
  have hu : In64 an ∧ In64 bn ∧ In64 cn ∧ ce = ce := ⟨ha, hb, hcn, rfl⟩
  generalize x0.moves.length = n0 at *
  generalize x.moves.length = n at *
  subst h1
  have g1 := (eqF h2).1
  have gq := (eqF hq).1
  have hw : IntKind.i64.wrap (-q) = -q := (by unfold In64 at hqi; rw [IntKind.wrap_i64]; omega)
  have C7 := Lib.hid c7
  clear hq c7
  have g7 := (eqF h7).2
  have HR0 := Lib.hid hr0
  have HR := Lib.hid hr
  have C0 := Lib.hid c0
  have C1 := Lib.hid c1
  have C2 := Lib.hid c2
  clear c0 c1 c2 hr0 hr hu
  go_enter Try.func4, Try.ntmps4
  go_wp2_with (first | (go_at_call 11; (with_reducible refine (C0.out _ (HR0.out.keep (by (repeat' (first | (with_reducible exact Below.refl _ _) | (with_reducible assumption) | (with_reducible refine Below.alloc ?_ ?_ _) | (with_reducible refine Below.setCell ?_ ?_ _) | (with_reducible refine Below.drew ?_) | (with_reducible refine below_drewN ?_ _) | (with_reducible refine below_via ?_ (by with_reducible assumption) ?_) | omega | (simp; done) | (simp; omega)))))).mono ?_); rintro e w20 ⟨rfl, hb20⟩; obtain ⟨fc20, fg20, hc20, hf20, hz20⟩ := bget hb20; (try simp at hz20)) | (go_at_call 16; (with_reducible refine (C1.out _ (HR.out.keep (by (repeat' (first | (with_reducible exact Below.refl _ _) | (with_reducible assumption) | (with_reducible refine Below.alloc ?_ ?_ _) | (with_reducible refine Below.setCell ?_ ?_ _) | (with_reducible refine Below.drew ?_) | (with_reducible refine below_drewN ?_ _) | (with_reducible refine below_via ?_ (by with_reducible assumption) ?_) | omega | (simp; done) | (simp; omega)))))).mono ?_); rintro e w1 ⟨rfl, hb1⟩; obtain ⟨fc1, fg1, hc1, hf1, hz1⟩ := bget hb1; (try simp at hz1)) | (go_at_call 16; (with_reducible refine (C2.out _ (HR.out.keep (by (repeat' (first | (with_reducible exact Below.refl _ _) | (with_reducible assumption) | (with_reducible refine Below.alloc ?_ ?_ _) | (with_reducible refine Below.setCell ?_ ?_ _) | (with_reducible refine Below.drew ?_) | (with_reducible refine below_drewN ?_ _) | (with_reducible refine below_via ?_ (by with_reducible assumption) ?_) | omega | (simp; done) | (simp; omega)))))).mono ?_); rintro e w2 ⟨rfl, hb2⟩; obtain ⟨fc2, fg2, hc2, hf2, hz2⟩ := bget hb2; (try simp at hz2)) | fail | (go_at_call 16; (with_reducible refine (C7.out _ (HR.out.keep (by (repeat' (first | (with_reducible exact Below.refl _ _) | (with_reducible assumption) | (with_reducible refine Below.alloc ?_ ?_ _) | (with_reducible refine Below.setCell ?_ ?_ _) | (with_reducible refine Below.drew ?_) | (with_reducible refine below_drewN ?_ _) | (with_reducible refine below_via ?_ (by with_reducible assumption) ?_) | omega | (simp; done) | (simp; omega)))))).mono ?_); rintro e w7 ⟨rfl, hb7⟩; obtain ⟨fc7, fg7, hc7, hf7, hz7⟩ := bget hb7; (try simp at hz7)) | (go_at_call 18; (with_reducible refine (law13lives _).mono ?_); rintro e w19 ⟨rfl, hb19⟩; obtain ⟨fc19, fg19, hc19, hf19, hz19⟩ := bget hb19; (try simp at hz19)) | fail)
  all_goals
    go_ret
    exact ⟨rfl, by (repeat' (first | (with_reducible exact Below.refl _ _) | (with_reducible assumption) | (with_reducible refine Below.alloc ?_ ?_ _) | (with_reducible refine Below.setCell ?_ ?_ _) | (with_reducible refine Below.drew ?_) | (with_reducible refine below_drewN ?_ _) | (with_reducible refine below_via ?_ (by with_reducible assumption) ?_) | omega | (simp; done) | (simp; omega)))⟩
set_option maxRecDepth 100000 in
set_option maxHeartbeats 16000000 in
theorem instTurns24 (x0 x : Inst) (q f t an ae bn be cn ce : Int) (A : Option Addr) (c : Nat) (w : World) (ha : In64 an) (hb : In64 bn) (hcn : In64 cn) (hr0 : Rd w A 1 (x0.moves.map encI)) (hr : Rd w A 1 (x.moves.map encI))
    (c0 : ∀ W, Rd W A 1 (x0.moves.map encI) → Calls Try.prog 11 #[.agg #[.int .i64 (x0).id, .int .i64 (x0).mult, .int .i64 (x0).price, .int .i64 (x0).next, .slice A (x0).moves.length c]] W fun e w' => e = .returned (.agg #[.int .i64 (x).id, .int .i64 (x).mult, .int .i64 (x).price, .int .i64 (x).next, .slice A (x).moves.length c]) ∧ Below W.heap.size W w')
    (c1 : ∀ W, Rd W A 1 (x.moves.map encI) → Calls Try.prog 16 #[.agg #[.int .i64 (x).id, .int .i64 (x).mult, .int .i64 (x).price, .int .i64 (x).next, .slice A (x).moves.length c], .int .i64 q, .int .i64 f, .int .i64 t] W fun e w' => e = .returned (.tuple #[.int .i64 an, .int .i64 ae]) ∧ Below W.heap.size W w')
    (c2 : ∀ W, Rd W A 1 (x.moves.map encI) → Calls Try.prog 16 #[.agg #[.int .i64 (x).id, .int .i64 (x).mult, .int .i64 (x).price, .int .i64 (x).next, .slice A (x).moves.length c], .int .i64 q, .int .i64 t, .int .i64 f] W fun e w' => e = .returned (.tuple #[.int .i64 bn, .int .i64 be]) ∧ Below W.heap.size W w')
    (h1 : ae = 0) (h2 : be ≠ 0) (hq : q ≠ -9223372036854775808) (hqi : In64 q) (c7 : ∀ W, Rd W A 1 (x.moves.map encI) → Calls Try.prog 16 #[.agg #[.int .i64 (x).id, .int .i64 (x).mult, .int .i64 (x).price, .int .i64 (x).next, .slice A (x).moves.length c], .int .i64 (-q), .int .i64 f, .int .i64 t] W fun e w' => e = .returned (.tuple #[.int .i64 cn, .int .i64 ce]) ∧ Below W.heap.size W w') (h7 : ce = 0) (h8 : an + cn = 0) :
    Calls Try.prog 4 #[.agg #[.int .i64 (x0).id, .int .i64 (x0).mult, .int .i64 (x0).price, .int .i64 (x0).next, .slice A (x0).moves.length c], .int .i64 q, .int .i64 f, .int .i64 t] w fun e w' => e = .returned (.bool true) ∧ Below w.heap.size w w' := by
  have hu : In64 an ∧ In64 bn ∧ In64 cn ∧ ce = ce := ⟨ha, hb, hcn, rfl⟩
  generalize x0.moves.length = n0 at *
  generalize x.moves.length = n at *
  subst h1
  have g1 := (eqF h2).1
  subst h7
  have gq := (eqF hq).1
  have hw : IntKind.i64.wrap (-q) = -q := (by unfold In64 at hqi; rw [IntKind.wrap_i64]; omega)
  have C7 := Lib.hid c7
  clear hq c7
  have k8 := fun s1 s2 l1 l2 A1 A2 d1 d2 W hB1 hB2 hl1 hl2 => bigAdd an cn s1 s2 l1 l2 A1 A2 d1 d2 65 W (by omega) hl1 hl2 hB1 hB2
  rw [h8] at k8
  have K8 := Lib.hid k8
  clear k8 h8
  have HR0 := Lib.hid hr0
  have HR := Lib.hid hr
  have C0 := Lib.hid c0
  have C1 := Lib.hid c1
  have C2 := Lib.hid c2
  clear c0 c1 c2 hr0 hr hu
  go_enter Try.func4, Try.ntmps4
  go_wp2_with (first | (go_at_call 11; (with_reducible refine (C0.out _ (HR0.out.keep (by (repeat' (first | (with_reducible exact Below.refl _ _) | (with_reducible assumption) | (with_reducible refine Below.alloc ?_ ?_ _) | (with_reducible refine Below.setCell ?_ ?_ _) | (with_reducible refine Below.drew ?_) | (with_reducible refine below_drewN ?_ _) | (with_reducible refine below_via ?_ (by with_reducible assumption) ?_) | omega | (simp; done) | (simp; omega)))))).mono ?_); rintro e w20 ⟨rfl, hb20⟩; obtain ⟨fc20, fg20, hc20, hf20, hz20⟩ := bget hb20; (try simp at hz20)) | (go_at_call 16; (with_reducible refine (C1.out _ (HR.out.keep (by (repeat' (first | (with_reducible exact Below.refl _ _) | (with_reducible assumption) | (with_reducible refine Below.alloc ?_ ?_ _) | (with_reducible refine Below.setCell ?_ ?_ _) | (with_reducible refine Below.drew ?_) | (with_reducible refine below_drewN ?_ _) | (with_reducible refine below_via ?_ (by with_reducible assumption) ?_) | omega | (simp; done) | (simp; omega)))))).mono ?_); rintro e w1 ⟨rfl, hb1⟩; obtain ⟨fc1, fg1, hc1, hf1, hz1⟩ := bget hb1; (try simp at hz1)) | (go_at_call 16; (with_reducible refine (C2.out _ (HR.out.keep (by (repeat' (first | (with_reducible exact Below.refl _ _) | (with_reducible assumption) | (with_reducible refine Below.alloc ?_ ?_ _) | (with_reducible refine Below.setCell ?_ ?_ _) | (with_reducible refine Below.drew ?_) | (with_reducible refine below_drewN ?_ _) | (with_reducible refine below_via ?_ (by with_reducible assumption) ?_) | omega | (simp; done) | (simp; omega)))))).mono ?_); rintro e w2 ⟨rfl, hb2⟩; obtain ⟨fc2, fg2, hc2, hf2, hz2⟩ := bget hb2; (try simp at hz2)) | fail | (go_at_call 16; (with_reducible refine (C7.out _ (HR.out.keep (by (repeat' (first | (with_reducible exact Below.refl _ _) | (with_reducible assumption) | (with_reducible refine Below.alloc ?_ ?_ _) | (with_reducible refine Below.setCell ?_ ?_ _) | (with_reducible refine Below.drew ?_) | (with_reducible refine below_drewN ?_ _) | (with_reducible refine below_via ?_ (by with_reducible assumption) ?_) | omega | (simp; done) | (simp; omega)))))).mono ?_); rintro e w7 ⟨rfl, hb7⟩; obtain ⟨fc7, fg7, hc7, hf7, hz7⟩ := bget hb7; (try simp at hz7)) | (go_at_call 22; (with_reducible refine (bigOf an _ ha).mono ?_); rintro e w3 ⟨s3, A3, l3, c3, rfl, hB3, hl3, hb3⟩; have HB3 := Lib.hid hB3; clear hB3; obtain ⟨fc3, fg3, hc3, hf3, hz3⟩ := bget hb3; (try simp at hz3)) | (go_at_call 22; (with_reducible refine (bigOf cn _ hcn).mono ?_); rintro e w8 ⟨s8, A8, l8, c8, rfl, hB8, hl8, hb8⟩; have HB8 := Lib.hid hB8; clear hB8; obtain ⟨fc8, fg8, hc8, hf8, hz8⟩ := bget hb8; (try simp at hz8)) | (go_at_call 21; (with_reducible refine (K8.out s3 s8 l3 l8 A3 A8 c3 c8 _ (HB3.out.keep (by (repeat' (first | (with_reducible exact Below.refl _ _) | (with_reducible assumption) | (with_reducible refine Below.alloc ?_ ?_ _) | (with_reducible refine Below.setCell ?_ ?_ _) | (with_reducible refine Below.drew ?_) | (with_reducible refine below_drewN ?_ _) | (with_reducible refine below_via ?_ (by with_reducible assumption) ?_) | omega | (simp; done) | (simp; omega))))) (HB8.out.keep (by (repeat' (first | (with_reducible exact Below.refl _ _) | (with_reducible assumption) | (with_reducible refine Below.alloc ?_ ?_ _) | (with_reducible refine Below.setCell ?_ ?_ _) | (with_reducible refine Below.drew ?_) | (with_reducible refine below_drewN ?_ _) | (with_reducible refine below_via ?_ (by with_reducible assumption) ?_) | omega | (simp; done) | (simp; omega))))) hl3 hl8).mono ?_); rintro e w9 ⟨s9, A9, l9, c9, rfl, hB9, hl9, hb9⟩; have HB9 := Lib.hid hB9; clear hB9; obtain ⟨fc9, fg9, hc9, hf9, hz9⟩ := bget hb9; (try simp at hz9)) | (go_at_call 13; (with_reducible refine (cmpZero s9 l9 A9 c9 _ (by omega) (HB9.out.keep (by (repeat' (first | (with_reducible exact Below.refl _ _) | (with_reducible assumption) | (with_reducible refine Below.alloc ?_ ?_ _) | (with_reducible refine Below.setCell ?_ ?_ _) | (with_reducible refine Below.drew ?_) | (with_reducible refine below_drewN ?_ _) | (with_reducible refine below_via ?_ (by with_reducible assumption) ?_) | omega | (simp; done) | (simp; omega)))))).mono ?_); rintro e w10 ⟨rfl, hb10⟩; obtain ⟨fc10, fg10, hc10, hf10, hz10⟩ := bget hb10; (try simp at hz10)) | (go_at_call 18; (with_reducible refine (law13lives _).mono ?_); rintro e w19 ⟨rfl, hb19⟩; obtain ⟨fc19, fg19, hc19, hf19, hz19⟩ := bget hb19; (try simp at hz19)) | fail)
  all_goals
    go_ret
    exact ⟨rfl, by (repeat' (first | (with_reducible exact Below.refl _ _) | (with_reducible assumption) | (with_reducible refine Below.alloc ?_ ?_ _) | (with_reducible refine Below.setCell ?_ ?_ _) | (with_reducible refine Below.drew ?_) | (with_reducible refine below_drewN ?_ _) | (with_reducible refine below_via ?_ (by with_reducible assumption) ?_) | omega | (simp; done) | (simp; omega)))⟩
set_option maxRecDepth 100000 in
set_option maxHeartbeats 16000000 in
theorem instTurns31 (x0 x : Inst) (q f t an ae bn be cn ce : Int) (A : Option Addr) (c : Nat) (w : World) (ha : In64 an) (hb : In64 bn) (hcn : In64 cn) (hr0 : Rd w A 1 (x0.moves.map encI)) (hr : Rd w A 1 (x.moves.map encI))
    (c0 : ∀ W, Rd W A 1 (x0.moves.map encI) → Calls Try.prog 11 #[.agg #[.int .i64 (x0).id, .int .i64 (x0).mult, .int .i64 (x0).price, .int .i64 (x0).next, .slice A (x0).moves.length c]] W fun e w' => e = .returned (.agg #[.int .i64 (x).id, .int .i64 (x).mult, .int .i64 (x).price, .int .i64 (x).next, .slice A (x).moves.length c]) ∧ Below W.heap.size W w')
    (c1 : ∀ W, Rd W A 1 (x.moves.map encI) → Calls Try.prog 16 #[.agg #[.int .i64 (x).id, .int .i64 (x).mult, .int .i64 (x).price, .int .i64 (x).next, .slice A (x).moves.length c], .int .i64 q, .int .i64 f, .int .i64 t] W fun e w' => e = .returned (.tuple #[.int .i64 an, .int .i64 ae]) ∧ Below W.heap.size W w')
    (c2 : ∀ W, Rd W A 1 (x.moves.map encI) → Calls Try.prog 16 #[.agg #[.int .i64 (x).id, .int .i64 (x).mult, .int .i64 (x).price, .int .i64 (x).next, .slice A (x).moves.length c], .int .i64 q, .int .i64 t, .int .i64 f] W fun e w' => e = .returned (.tuple #[.int .i64 bn, .int .i64 be]) ∧ Below W.heap.size W w')
    (h1 : ae = 0) (h2 : be = 0) (h3 : an + bn = 0) (hq : q = -9223372036854775808) :
    Calls Try.prog 4 #[.agg #[.int .i64 (x0).id, .int .i64 (x0).mult, .int .i64 (x0).price, .int .i64 (x0).next, .slice A (x0).moves.length c], .int .i64 q, .int .i64 f, .int .i64 t] w fun e w' => e = .returned (.bool true) ∧ Below w.heap.size w w' := by
  have hu : In64 an ∧ In64 bn ∧ In64 cn ∧ ce = ce := ⟨ha, hb, hcn, rfl⟩
  generalize x0.moves.length = n0 at *
  generalize x.moves.length = n at *
  subst h1 h2
  have k3 := fun s1 s2 l1 l2 A1 A2 d1 d2 W hB1 hB2 hl1 hl2 => bigAdd an bn s1 s2 l1 l2 A1 A2 d1 d2 65 W (by omega) hl1 hl2 hB1 hB2
  rw [h3] at k3
  have K3 := Lib.hid k3
  clear k3 h3
  have gq := (eqT hq).1
  clear hq
  have HR0 := Lib.hid hr0
  have HR := Lib.hid hr
  have C0 := Lib.hid c0
  have C1 := Lib.hid c1
  have C2 := Lib.hid c2
  clear c0 c1 c2 hr0 hr hu
  go_enter Try.func4, Try.ntmps4
  go_wp2_with (first | (go_at_call 11; (with_reducible refine (C0.out _ (HR0.out.keep (by (repeat' (first | (with_reducible exact Below.refl _ _) | (with_reducible assumption) | (with_reducible refine Below.alloc ?_ ?_ _) | (with_reducible refine Below.setCell ?_ ?_ _) | (with_reducible refine Below.drew ?_) | (with_reducible refine below_drewN ?_ _) | (with_reducible refine below_via ?_ (by with_reducible assumption) ?_) | omega | (simp; done) | (simp; omega)))))).mono ?_); rintro e w20 ⟨rfl, hb20⟩; obtain ⟨fc20, fg20, hc20, hf20, hz20⟩ := bget hb20; (try simp at hz20)) | (go_at_call 16; (with_reducible refine (C1.out _ (HR.out.keep (by (repeat' (first | (with_reducible exact Below.refl _ _) | (with_reducible assumption) | (with_reducible refine Below.alloc ?_ ?_ _) | (with_reducible refine Below.setCell ?_ ?_ _) | (with_reducible refine Below.drew ?_) | (with_reducible refine below_drewN ?_ _) | (with_reducible refine below_via ?_ (by with_reducible assumption) ?_) | omega | (simp; done) | (simp; omega)))))).mono ?_); rintro e w1 ⟨rfl, hb1⟩; obtain ⟨fc1, fg1, hc1, hf1, hz1⟩ := bget hb1; (try simp at hz1)) | (go_at_call 16; (with_reducible refine (C2.out _ (HR.out.keep (by (repeat' (first | (with_reducible exact Below.refl _ _) | (with_reducible assumption) | (with_reducible refine Below.alloc ?_ ?_ _) | (with_reducible refine Below.setCell ?_ ?_ _) | (with_reducible refine Below.drew ?_) | (with_reducible refine below_drewN ?_ _) | (with_reducible refine below_via ?_ (by with_reducible assumption) ?_) | omega | (simp; done) | (simp; omega)))))).mono ?_); rintro e w2 ⟨rfl, hb2⟩; obtain ⟨fc2, fg2, hc2, hf2, hz2⟩ := bget hb2; (try simp at hz2)) | (go_at_call 22; (with_reducible refine (bigOf an _ ha).mono ?_); rintro e w3 ⟨s3, A3, l3, c3, rfl, hB3, hl3, hb3⟩; have HB3 := Lib.hid hB3; clear hB3; obtain ⟨fc3, fg3, hc3, hf3, hz3⟩ := bget hb3; (try simp at hz3)) | (go_at_call 22; (with_reducible refine (bigOf bn _ hb).mono ?_); rintro e w4 ⟨s4, A4, l4, c4, rfl, hB4, hl4, hb4⟩; have HB4 := Lib.hid hB4; clear hB4; obtain ⟨fc4, fg4, hc4, hf4, hz4⟩ := bget hb4; (try simp at hz4)) | (go_at_call 21; (with_reducible refine (K3.out s3 s4 l3 l4 A3 A4 c3 c4 _ (HB3.out.keep (by (repeat' (first | (with_reducible exact Below.refl _ _) | (with_reducible assumption) | (with_reducible refine Below.alloc ?_ ?_ _) | (with_reducible refine Below.setCell ?_ ?_ _) | (with_reducible refine Below.drew ?_) | (with_reducible refine below_drewN ?_ _) | (with_reducible refine below_via ?_ (by with_reducible assumption) ?_) | omega | (simp; done) | (simp; omega))))) (HB4.out.keep (by (repeat' (first | (with_reducible exact Below.refl _ _) | (with_reducible assumption) | (with_reducible refine Below.alloc ?_ ?_ _) | (with_reducible refine Below.setCell ?_ ?_ _) | (with_reducible refine Below.drew ?_) | (with_reducible refine below_drewN ?_ _) | (with_reducible refine below_via ?_ (by with_reducible assumption) ?_) | omega | (simp; done) | (simp; omega))))) hl3 hl4).mono ?_); rintro e w5 ⟨s5, A5, l5, c5, rfl, hB5, hl5, hb5⟩; have HB5 := Lib.hid hB5; clear hB5; obtain ⟨fc5, fg5, hc5, hf5, hz5⟩ := bget hb5; (try simp at hz5)) | (go_at_call 13; (with_reducible refine (cmpZero s5 l5 A5 c5 _ (by omega) (HB5.out.keep (by (repeat' (first | (with_reducible exact Below.refl _ _) | (with_reducible assumption) | (with_reducible refine Below.alloc ?_ ?_ _) | (with_reducible refine Below.setCell ?_ ?_ _) | (with_reducible refine Below.drew ?_) | (with_reducible refine below_drewN ?_ _) | (with_reducible refine below_via ?_ (by with_reducible assumption) ?_) | omega | (simp; done) | (simp; omega)))))).mono ?_); rintro e w6 ⟨rfl, hb6⟩; obtain ⟨fc6, fg6, hc6, hf6, hz6⟩ := bget hb6; (try simp at hz6)) | fail | (go_at_call 18; (with_reducible refine (law13lives _).mono ?_); rintro e w19 ⟨rfl, hb19⟩; obtain ⟨fc19, fg19, hc19, hf19, hz19⟩ := bget hb19; (try simp at hz19)) | fail)
  all_goals
    go_ret
    exact ⟨rfl, by (repeat' (first | (with_reducible exact Below.refl _ _) | (with_reducible assumption) | (with_reducible refine Below.alloc ?_ ?_ _) | (with_reducible refine Below.setCell ?_ ?_ _) | (with_reducible refine Below.drew ?_) | (with_reducible refine below_drewN ?_ _) | (with_reducible refine below_via ?_ (by with_reducible assumption) ?_) | omega | (simp; done) | (simp; omega)))⟩
set_option maxRecDepth 100000 in
set_option maxHeartbeats 16000000 in
theorem instTurns33 (x0 x : Inst) (q f t an ae bn be cn ce : Int) (A : Option Addr) (c : Nat) (w : World) (ha : In64 an) (hb : In64 bn) (hcn : In64 cn) (hr0 : Rd w A 1 (x0.moves.map encI)) (hr : Rd w A 1 (x.moves.map encI))
    (c0 : ∀ W, Rd W A 1 (x0.moves.map encI) → Calls Try.prog 11 #[.agg #[.int .i64 (x0).id, .int .i64 (x0).mult, .int .i64 (x0).price, .int .i64 (x0).next, .slice A (x0).moves.length c]] W fun e w' => e = .returned (.agg #[.int .i64 (x).id, .int .i64 (x).mult, .int .i64 (x).price, .int .i64 (x).next, .slice A (x).moves.length c]) ∧ Below W.heap.size W w')
    (c1 : ∀ W, Rd W A 1 (x.moves.map encI) → Calls Try.prog 16 #[.agg #[.int .i64 (x).id, .int .i64 (x).mult, .int .i64 (x).price, .int .i64 (x).next, .slice A (x).moves.length c], .int .i64 q, .int .i64 f, .int .i64 t] W fun e w' => e = .returned (.tuple #[.int .i64 an, .int .i64 ae]) ∧ Below W.heap.size W w')
    (c2 : ∀ W, Rd W A 1 (x.moves.map encI) → Calls Try.prog 16 #[.agg #[.int .i64 (x).id, .int .i64 (x).mult, .int .i64 (x).price, .int .i64 (x).next, .slice A (x).moves.length c], .int .i64 q, .int .i64 t, .int .i64 f] W fun e w' => e = .returned (.tuple #[.int .i64 bn, .int .i64 be]) ∧ Below W.heap.size W w')
    (h1 : ae = 0) (h2 : be = 0) (h3 : an + bn = 0) (hq : q ≠ -9223372036854775808) (hqi : In64 q) (c7 : ∀ W, Rd W A 1 (x.moves.map encI) → Calls Try.prog 16 #[.agg #[.int .i64 (x).id, .int .i64 (x).mult, .int .i64 (x).price, .int .i64 (x).next, .slice A (x).moves.length c], .int .i64 (-q), .int .i64 f, .int .i64 t] W fun e w' => e = .returned (.tuple #[.int .i64 cn, .int .i64 ce]) ∧ Below W.heap.size W w') (h7 : ce ≠ 0) :
    Calls Try.prog 4 #[.agg #[.int .i64 (x0).id, .int .i64 (x0).mult, .int .i64 (x0).price, .int .i64 (x0).next, .slice A (x0).moves.length c], .int .i64 q, .int .i64 f, .int .i64 t] w fun e w' => e = .returned (.bool true) ∧ Below w.heap.size w w' := by
  have hu : In64 an ∧ In64 bn ∧ In64 cn ∧ ce = ce := ⟨ha, hb, hcn, rfl⟩
  generalize x0.moves.length = n0 at *
  generalize x.moves.length = n at *
  subst h1 h2
  have k3 := fun s1 s2 l1 l2 A1 A2 d1 d2 W hB1 hB2 hl1 hl2 => bigAdd an bn s1 s2 l1 l2 A1 A2 d1 d2 65 W (by omega) hl1 hl2 hB1 hB2
  rw [h3] at k3
  have K3 := Lib.hid k3
  clear k3 h3
  have gq := (eqF hq).1
  have hw : IntKind.i64.wrap (-q) = -q := (by unfold In64 at hqi; rw [IntKind.wrap_i64]; omega)
  have C7 := Lib.hid c7
  clear hq c7
  have g7 := (eqF h7).2
  have HR0 := Lib.hid hr0
  have HR := Lib.hid hr
  have C0 := Lib.hid c0
  have C1 := Lib.hid c1
  have C2 := Lib.hid c2
  clear c0 c1 c2 hr0 hr hu
  go_enter Try.func4, Try.ntmps4
  go_wp2_with (first | (go_at_call 11; (with_reducible refine (C0.out _ (HR0.out.keep (by (repeat' (first | (with_reducible exact Below.refl _ _) | (with_reducible assumption) | (with_reducible refine Below.alloc ?_ ?_ _) | (with_reducible refine Below.setCell ?_ ?_ _) | (with_reducible refine Below.drew ?_) | (with_reducible refine below_drewN ?_ _) | (with_reducible refine below_via ?_ (by with_reducible assumption) ?_) | omega | (simp; done) | (simp; omega)))))).mono ?_); rintro e w20 ⟨rfl, hb20⟩; obtain ⟨fc20, fg20, hc20, hf20, hz20⟩ := bget hb20; (try simp at hz20)) | (go_at_call 16; (with_reducible refine (C1.out _ (HR.out.keep (by (repeat' (first | (with_reducible exact Below.refl _ _) | (with_reducible assumption) | (with_reducible refine Below.alloc ?_ ?_ _) | (with_reducible refine Below.setCell ?_ ?_ _) | (with_reducible refine Below.drew ?_) | (with_reducible refine below_drewN ?_ _) | (with_reducible refine below_via ?_ (by with_reducible assumption) ?_) | omega | (simp; done) | (simp; omega)))))).mono ?_); rintro e w1 ⟨rfl, hb1⟩; obtain ⟨fc1, fg1, hc1, hf1, hz1⟩ := bget hb1; (try simp at hz1)) | (go_at_call 16; (with_reducible refine (C2.out _ (HR.out.keep (by (repeat' (first | (with_reducible exact Below.refl _ _) | (with_reducible assumption) | (with_reducible refine Below.alloc ?_ ?_ _) | (with_reducible refine Below.setCell ?_ ?_ _) | (with_reducible refine Below.drew ?_) | (with_reducible refine below_drewN ?_ _) | (with_reducible refine below_via ?_ (by with_reducible assumption) ?_) | omega | (simp; done) | (simp; omega)))))).mono ?_); rintro e w2 ⟨rfl, hb2⟩; obtain ⟨fc2, fg2, hc2, hf2, hz2⟩ := bget hb2; (try simp at hz2)) | (go_at_call 22; (with_reducible refine (bigOf an _ ha).mono ?_); rintro e w3 ⟨s3, A3, l3, c3, rfl, hB3, hl3, hb3⟩; have HB3 := Lib.hid hB3; clear hB3; obtain ⟨fc3, fg3, hc3, hf3, hz3⟩ := bget hb3; (try simp at hz3)) | (go_at_call 22; (with_reducible refine (bigOf bn _ hb).mono ?_); rintro e w4 ⟨s4, A4, l4, c4, rfl, hB4, hl4, hb4⟩; have HB4 := Lib.hid hB4; clear hB4; obtain ⟨fc4, fg4, hc4, hf4, hz4⟩ := bget hb4; (try simp at hz4)) | (go_at_call 21; (with_reducible refine (K3.out s3 s4 l3 l4 A3 A4 c3 c4 _ (HB3.out.keep (by (repeat' (first | (with_reducible exact Below.refl _ _) | (with_reducible assumption) | (with_reducible refine Below.alloc ?_ ?_ _) | (with_reducible refine Below.setCell ?_ ?_ _) | (with_reducible refine Below.drew ?_) | (with_reducible refine below_drewN ?_ _) | (with_reducible refine below_via ?_ (by with_reducible assumption) ?_) | omega | (simp; done) | (simp; omega))))) (HB4.out.keep (by (repeat' (first | (with_reducible exact Below.refl _ _) | (with_reducible assumption) | (with_reducible refine Below.alloc ?_ ?_ _) | (with_reducible refine Below.setCell ?_ ?_ _) | (with_reducible refine Below.drew ?_) | (with_reducible refine below_drewN ?_ _) | (with_reducible refine below_via ?_ (by with_reducible assumption) ?_) | omega | (simp; done) | (simp; omega))))) hl3 hl4).mono ?_); rintro e w5 ⟨s5, A5, l5, c5, rfl, hB5, hl5, hb5⟩; have HB5 := Lib.hid hB5; clear hB5; obtain ⟨fc5, fg5, hc5, hf5, hz5⟩ := bget hb5; (try simp at hz5)) | (go_at_call 13; (with_reducible refine (cmpZero s5 l5 A5 c5 _ (by omega) (HB5.out.keep (by (repeat' (first | (with_reducible exact Below.refl _ _) | (with_reducible assumption) | (with_reducible refine Below.alloc ?_ ?_ _) | (with_reducible refine Below.setCell ?_ ?_ _) | (with_reducible refine Below.drew ?_) | (with_reducible refine below_drewN ?_ _) | (with_reducible refine below_via ?_ (by with_reducible assumption) ?_) | omega | (simp; done) | (simp; omega)))))).mono ?_); rintro e w6 ⟨rfl, hb6⟩; obtain ⟨fc6, fg6, hc6, hf6, hz6⟩ := bget hb6; (try simp at hz6)) | (go_at_call 16; (with_reducible refine (C7.out _ (HR.out.keep (by (repeat' (first | (with_reducible exact Below.refl _ _) | (with_reducible assumption) | (with_reducible refine Below.alloc ?_ ?_ _) | (with_reducible refine Below.setCell ?_ ?_ _) | (with_reducible refine Below.drew ?_) | (with_reducible refine below_drewN ?_ _) | (with_reducible refine below_via ?_ (by with_reducible assumption) ?_) | omega | (simp; done) | (simp; omega)))))).mono ?_); rintro e w7 ⟨rfl, hb7⟩; obtain ⟨fc7, fg7, hc7, hf7, hz7⟩ := bget hb7; (try simp at hz7)) | (go_at_call 18; (with_reducible refine (law13lives _).mono ?_); rintro e w19 ⟨rfl, hb19⟩; obtain ⟨fc19, fg19, hc19, hf19, hz19⟩ := bget hb19; (try simp at hz19)) | fail)
  all_goals
    go_ret
    exact ⟨rfl, by (repeat' (first | (with_reducible exact Below.refl _ _) | (with_reducible assumption) | (with_reducible refine Below.alloc ?_ ?_ _) | (with_reducible refine Below.setCell ?_ ?_ _) | (with_reducible refine Below.drew ?_) | (with_reducible refine below_drewN ?_ _) | (with_reducible refine below_via ?_ (by with_reducible assumption) ?_) | omega | (simp; done) | (simp; omega)))⟩
set_option maxRecDepth 100000 in
set_option maxHeartbeats 16000000 in
theorem instTurns34 (x0 x : Inst) (q f t an ae bn be cn ce : Int) (A : Option Addr) (c : Nat) (w : World) (ha : In64 an) (hb : In64 bn) (hcn : In64 cn) (hr0 : Rd w A 1 (x0.moves.map encI)) (hr : Rd w A 1 (x.moves.map encI))
    (c0 : ∀ W, Rd W A 1 (x0.moves.map encI) → Calls Try.prog 11 #[.agg #[.int .i64 (x0).id, .int .i64 (x0).mult, .int .i64 (x0).price, .int .i64 (x0).next, .slice A (x0).moves.length c]] W fun e w' => e = .returned (.agg #[.int .i64 (x).id, .int .i64 (x).mult, .int .i64 (x).price, .int .i64 (x).next, .slice A (x).moves.length c]) ∧ Below W.heap.size W w')
    (c1 : ∀ W, Rd W A 1 (x.moves.map encI) → Calls Try.prog 16 #[.agg #[.int .i64 (x).id, .int .i64 (x).mult, .int .i64 (x).price, .int .i64 (x).next, .slice A (x).moves.length c], .int .i64 q, .int .i64 f, .int .i64 t] W fun e w' => e = .returned (.tuple #[.int .i64 an, .int .i64 ae]) ∧ Below W.heap.size W w')
    (c2 : ∀ W, Rd W A 1 (x.moves.map encI) → Calls Try.prog 16 #[.agg #[.int .i64 (x).id, .int .i64 (x).mult, .int .i64 (x).price, .int .i64 (x).next, .slice A (x).moves.length c], .int .i64 q, .int .i64 t, .int .i64 f] W fun e w' => e = .returned (.tuple #[.int .i64 bn, .int .i64 be]) ∧ Below W.heap.size W w')
    (h1 : ae = 0) (h2 : be = 0) (h3 : an + bn = 0) (hq : q ≠ -9223372036854775808) (hqi : In64 q) (c7 : ∀ W, Rd W A 1 (x.moves.map encI) → Calls Try.prog 16 #[.agg #[.int .i64 (x).id, .int .i64 (x).mult, .int .i64 (x).price, .int .i64 (x).next, .slice A (x).moves.length c], .int .i64 (-q), .int .i64 f, .int .i64 t] W fun e w' => e = .returned (.tuple #[.int .i64 cn, .int .i64 ce]) ∧ Below W.heap.size W w') (h7 : ce = 0) (h8 : an + cn = 0) :
    Calls Try.prog 4 #[.agg #[.int .i64 (x0).id, .int .i64 (x0).mult, .int .i64 (x0).price, .int .i64 (x0).next, .slice A (x0).moves.length c], .int .i64 q, .int .i64 f, .int .i64 t] w fun e w' => e = .returned (.bool true) ∧ Below w.heap.size w w' := by
  have hu : In64 an ∧ In64 bn ∧ In64 cn ∧ ce = ce := ⟨ha, hb, hcn, rfl⟩
  generalize x0.moves.length = n0 at *
  generalize x.moves.length = n at *
  subst h1 h2
  have k3 := fun s1 s2 l1 l2 A1 A2 d1 d2 W hB1 hB2 hl1 hl2 => bigAdd an bn s1 s2 l1 l2 A1 A2 d1 d2 65 W (by omega) hl1 hl2 hB1 hB2
  rw [h3] at k3
  have K3 := Lib.hid k3
  clear k3 h3
  subst h7
  have gq := (eqF hq).1
  have hw : IntKind.i64.wrap (-q) = -q := (by unfold In64 at hqi; rw [IntKind.wrap_i64]; omega)
  have C7 := Lib.hid c7
  clear hq c7
  have k8 := fun s1 s2 l1 l2 A1 A2 d1 d2 W hB1 hB2 hl1 hl2 => bigAdd an cn s1 s2 l1 l2 A1 A2 d1 d2 65 W (by omega) hl1 hl2 hB1 hB2
  rw [h8] at k8
  have K8 := Lib.hid k8
  clear k8 h8
  have HR0 := Lib.hid hr0
  have HR := Lib.hid hr
  have C0 := Lib.hid c0
  have C1 := Lib.hid c1
  have C2 := Lib.hid c2
  clear c0 c1 c2 hr0 hr hu
  go_enter Try.func4, Try.ntmps4
  go_wp2_with (first | (go_at_call 11; (with_reducible refine (C0.out _ (HR0.out.keep (by (repeat' (first | (with_reducible exact Below.refl _ _) | (with_reducible assumption) | (with_reducible refine Below.alloc ?_ ?_ _) | (with_reducible refine Below.setCell ?_ ?_ _) | (with_reducible refine Below.drew ?_) | (with_reducible refine below_drewN ?_ _) | (with_reducible refine below_via ?_ (by with_reducible assumption) ?_) | omega | (simp; done) | (simp; omega)))))).mono ?_); rintro e w20 ⟨rfl, hb20⟩; obtain ⟨fc20, fg20, hc20, hf20, hz20⟩ := bget hb20; (try simp at hz20)) | (go_at_call 16; (with_reducible refine (C1.out _ (HR.out.keep (by (repeat' (first | (with_reducible exact Below.refl _ _) | (with_reducible assumption) | (with_reducible refine Below.alloc ?_ ?_ _) | (with_reducible refine Below.setCell ?_ ?_ _) | (with_reducible refine Below.drew ?_) | (with_reducible refine below_drewN ?_ _) | (with_reducible refine below_via ?_ (by with_reducible assumption) ?_) | omega | (simp; done) | (simp; omega)))))).mono ?_); rintro e w1 ⟨rfl, hb1⟩; obtain ⟨fc1, fg1, hc1, hf1, hz1⟩ := bget hb1; (try simp at hz1)) | (go_at_call 16; (with_reducible refine (C2.out _ (HR.out.keep (by (repeat' (first | (with_reducible exact Below.refl _ _) | (with_reducible assumption) | (with_reducible refine Below.alloc ?_ ?_ _) | (with_reducible refine Below.setCell ?_ ?_ _) | (with_reducible refine Below.drew ?_) | (with_reducible refine below_drewN ?_ _) | (with_reducible refine below_via ?_ (by with_reducible assumption) ?_) | omega | (simp; done) | (simp; omega)))))).mono ?_); rintro e w2 ⟨rfl, hb2⟩; obtain ⟨fc2, fg2, hc2, hf2, hz2⟩ := bget hb2; (try simp at hz2)) | (go_at_call 22; (with_reducible refine (bigOf an _ ha).mono ?_); rintro e w3 ⟨s3, A3, l3, c3, rfl, hB3, hl3, hb3⟩; have HB3 := Lib.hid hB3; clear hB3; obtain ⟨fc3, fg3, hc3, hf3, hz3⟩ := bget hb3; (try simp at hz3)) | (go_at_call 22; (with_reducible refine (bigOf bn _ hb).mono ?_); rintro e w4 ⟨s4, A4, l4, c4, rfl, hB4, hl4, hb4⟩; have HB4 := Lib.hid hB4; clear hB4; obtain ⟨fc4, fg4, hc4, hf4, hz4⟩ := bget hb4; (try simp at hz4)) | (go_at_call 21; (with_reducible refine (K3.out s3 s4 l3 l4 A3 A4 c3 c4 _ (HB3.out.keep (by (repeat' (first | (with_reducible exact Below.refl _ _) | (with_reducible assumption) | (with_reducible refine Below.alloc ?_ ?_ _) | (with_reducible refine Below.setCell ?_ ?_ _) | (with_reducible refine Below.drew ?_) | (with_reducible refine below_drewN ?_ _) | (with_reducible refine below_via ?_ (by with_reducible assumption) ?_) | omega | (simp; done) | (simp; omega))))) (HB4.out.keep (by (repeat' (first | (with_reducible exact Below.refl _ _) | (with_reducible assumption) | (with_reducible refine Below.alloc ?_ ?_ _) | (with_reducible refine Below.setCell ?_ ?_ _) | (with_reducible refine Below.drew ?_) | (with_reducible refine below_drewN ?_ _) | (with_reducible refine below_via ?_ (by with_reducible assumption) ?_) | omega | (simp; done) | (simp; omega))))) hl3 hl4).mono ?_); rintro e w5 ⟨s5, A5, l5, c5, rfl, hB5, hl5, hb5⟩; have HB5 := Lib.hid hB5; clear hB5; obtain ⟨fc5, fg5, hc5, hf5, hz5⟩ := bget hb5; (try simp at hz5)) | (go_at_call 13; (with_reducible refine (cmpZero s5 l5 A5 c5 _ (by omega) (HB5.out.keep (by (repeat' (first | (with_reducible exact Below.refl _ _) | (with_reducible assumption) | (with_reducible refine Below.alloc ?_ ?_ _) | (with_reducible refine Below.setCell ?_ ?_ _) | (with_reducible refine Below.drew ?_) | (with_reducible refine below_drewN ?_ _) | (with_reducible refine below_via ?_ (by with_reducible assumption) ?_) | omega | (simp; done) | (simp; omega)))))).mono ?_); rintro e w6 ⟨rfl, hb6⟩; obtain ⟨fc6, fg6, hc6, hf6, hz6⟩ := bget hb6; (try simp at hz6)) | (go_at_call 16; (with_reducible refine (C7.out _ (HR.out.keep (by (repeat' (first | (with_reducible exact Below.refl _ _) | (with_reducible assumption) | (with_reducible refine Below.alloc ?_ ?_ _) | (with_reducible refine Below.setCell ?_ ?_ _) | (with_reducible refine Below.drew ?_) | (with_reducible refine below_drewN ?_ _) | (with_reducible refine below_via ?_ (by with_reducible assumption) ?_) | omega | (simp; done) | (simp; omega)))))).mono ?_); rintro e w7 ⟨rfl, hb7⟩; obtain ⟨fc7, fg7, hc7, hf7, hz7⟩ := bget hb7; (try simp at hz7)) | (go_at_call 22; (with_reducible refine (bigOf an _ ha).mono ?_); rintro e w3 ⟨s3, A3, l3, c3, rfl, hB3, hl3, hb3⟩; have HB3 := Lib.hid hB3; clear hB3; obtain ⟨fc3, fg3, hc3, hf3, hz3⟩ := bget hb3; (try simp at hz3)) | (go_at_call 22; (with_reducible refine (bigOf cn _ hcn).mono ?_); rintro e w8 ⟨s8, A8, l8, c8, rfl, hB8, hl8, hb8⟩; have HB8 := Lib.hid hB8; clear hB8; obtain ⟨fc8, fg8, hc8, hf8, hz8⟩ := bget hb8; (try simp at hz8)) | (go_at_call 21; (with_reducible refine (K8.out s3 s8 l3 l8 A3 A8 c3 c8 _ (HB3.out.keep (by (repeat' (first | (with_reducible exact Below.refl _ _) | (with_reducible assumption) | (with_reducible refine Below.alloc ?_ ?_ _) | (with_reducible refine Below.setCell ?_ ?_ _) | (with_reducible refine Below.drew ?_) | (with_reducible refine below_drewN ?_ _) | (with_reducible refine below_via ?_ (by with_reducible assumption) ?_) | omega | (simp; done) | (simp; omega))))) (HB8.out.keep (by (repeat' (first | (with_reducible exact Below.refl _ _) | (with_reducible assumption) | (with_reducible refine Below.alloc ?_ ?_ _) | (with_reducible refine Below.setCell ?_ ?_ _) | (with_reducible refine Below.drew ?_) | (with_reducible refine below_drewN ?_ _) | (with_reducible refine below_via ?_ (by with_reducible assumption) ?_) | omega | (simp; done) | (simp; omega))))) hl3 hl8).mono ?_); rintro e w9 ⟨s9, A9, l9, c9, rfl, hB9, hl9, hb9⟩; have HB9 := Lib.hid hB9; clear hB9; obtain ⟨fc9, fg9, hc9, hf9, hz9⟩ := bget hb9; (try simp at hz9)) | (go_at_call 13; (with_reducible refine (cmpZero s9 l9 A9 c9 _ (by omega) (HB9.out.keep (by (repeat' (first | (with_reducible exact Below.refl _ _) | (with_reducible assumption) | (with_reducible refine Below.alloc ?_ ?_ _) | (with_reducible refine Below.setCell ?_ ?_ _) | (with_reducible refine Below.drew ?_) | (with_reducible refine below_drewN ?_ _) | (with_reducible refine below_via ?_ (by with_reducible assumption) ?_) | omega | (simp; done) | (simp; omega)))))).mono ?_); rintro e w10 ⟨rfl, hb10⟩; obtain ⟨fc10, fg10, hc10, hf10, hz10⟩ := bget hb10; (try simp at hz10)) | (go_at_call 18; (with_reducible refine (law13lives _).mono ?_); rintro e w19 ⟨rfl, hb19⟩; obtain ⟨fc19, fg19, hc19, hf19, hz19⟩ := bget hb19; (try simp at hz19)) | fail)
  all_goals
    go_ret
    exact ⟨rfl, by (repeat' (first | (with_reducible exact Below.refl _ _) | (with_reducible assumption) | (with_reducible refine Below.alloc ?_ ?_ _) | (with_reducible refine Below.setCell ?_ ?_ _) | (with_reducible refine Below.drew ?_) | (with_reducible refine below_drewN ?_ _) | (with_reducible refine below_via ?_ (by with_reducible assumption) ?_) | omega | (simp; done) | (simp; omega)))⟩
theorem gain_form {x : Inst} {q f t : Int} (h : gainE x q f t = 0) : gainN x q f t = gainI x q f t ∧ okG x f t ∧ In64 (gainI x q f t) := by
  unfold gainE at h
  unfold gainN
  by_cases hk : okG x f t
  · rw [if_pos hk] at h ⊢
    have h64 : In64 (gainI x q f t) := by
      cases e : in64 (gainI x q f t) with
      | true => exact in64_iff.1 e
      | false => unfold okE at h; rw [e] at h; simp at h
    exact ⟨(okN_yes h64).1, hk, h64⟩
  · rw [if_neg hk] at h; omega
theorem okN_in (n : Int) : In64 (okN n) := by
  unfold okN
  cases e : in64 n with
  | true => exact in64_iff.1 e
  | false => unfold In64; simp
theorem gain_in (x : Inst) (q f t : Int) : In64 (gainN x q f t) := by
  unfold gainN
  split
  · exact okN_in _
  · unfold In64; omega
theorem gain_back (x : Inst) (q f t : Int) : gainI x q f t + gainI x q t f = 0 := by
  unfold gainI
  rw [← Int.mul_add, show t - f + (f - t) = 0 by omega, Int.mul_zero]
theorem gain_neg (x : Inst) (q f t : Int) : gainI x q f t + gainI x (-q) f t = 0 := by
  unfold gainI
  rw [Int.neg_mul, Int.neg_mul]
  omega
theorem instTurns (x : Inst) (q f t : Int) (A : Option Addr) (c : Nat) (w : World) (hq : In64 q) (hlc : x.moves.length ≤ c) (hcm : c ≤ maxLen) (hr : Rd w A 1 (x.moves.map encI)) :
    Calls Try.prog 4 #[.agg #[.int .i64 (x).id, .int .i64 (x).mult, .int .i64 (x).price, .int .i64 (x).next, .slice A (x).moves.length c], .int .i64 q, .int .i64 f, .int .i64 t] w fun e w' => e = .returned (.bool true) ∧ Below w.heap.size w w' := by
  have hs := short_len x
  have c0 := fun W h => law13short x (shortI x) A c W rfl hlc hcm h
  have c1 := fun W h => instGain (shortI x) q f t A c W hq (by omega) h
  have c2 := fun W h => instGain (shortI x) q t f A c W hq (by omega) h
  have hrs := rd_takeI hr 12
  have ia := gain_in (shortI x) q f t
  have ib := gain_in (shortI x) q t f
  have ic := gain_in (shortI x) (-q) f t
  by_cases hm : q = -9223372036854775808
  · by_cases h1 : gainE (shortI x) q f t = 0
    · by_cases h2 : gainE (shortI x) q t f = 0
      · exact instTurns31 x (shortI x) q f t _ _ _ _ _ 0 A c w ia ib ic hr hrs c0 c1 c2 h1 h2 (by rw [(gain_form h1).1, (gain_form h2).1]; exact gain_back _ _ _ _) hm
      · exact instTurns21 x (shortI x) q f t _ _ _ _ _ 0 A c w ia ib ic hr hrs c0 c1 c2 h1 h2 hm
    · exact instTurns11 x (shortI x) q f t _ _ _ _ _ 0 A c w ia ib ic hr hrs c0 c1 c2 h1 hm
  · have c7 := fun W h => instGain (shortI x) (-q) f t A c W (by unfold In64 at hq ⊢; omega) h
    have c7 := fun W h => c7 W (by omega) h
    by_cases h1 : gainE (shortI x) q f t = 0
    · by_cases h7 : gainE (shortI x) (-q) f t = 0
      · have h8 : gainN (shortI x) q f t + gainN (shortI x) (-q) f t = 0 := by rw [(gain_form h1).1, (gain_form h7).1]; exact gain_neg _ _ _ _
        by_cases h2 : gainE (shortI x) q t f = 0
        · exact instTurns34 x (shortI x) q f t _ _ _ _ _ _ A c w ia ib ic hr hrs c0 c1 c2 h1 h2 (by rw [(gain_form h1).1, (gain_form h2).1]; exact gain_back _ _ _ _) hm hq c7 h7 h8
        · exact instTurns24 x (shortI x) q f t _ _ _ _ _ _ A c w ia ib ic hr hrs c0 c1 c2 h1 h2 hm hq c7 h7 h8
      · by_cases h2 : gainE (shortI x) q t f = 0
        · exact instTurns33 x (shortI x) q f t _ _ _ _ _ _ A c w ia ib ic hr hrs c0 c1 c2 h1 h2 (by rw [(gain_form h1).1, (gain_form h2).1]; exact gain_back _ _ _ _) hm hq c7 h7
        · exact instTurns23 x (shortI x) q f t _ _ _ _ _ _ A c w ia ib ic hr hrs c0 c1 c2 h1 h2 hm hq c7 h7
    · exact instTurns12 x (shortI x) q f t _ _ _ _ _ _ A c w ia ib ic hr hrs c0 c1 c2 h1 hm hq c7
end Go.Proofs.Ytpjehhkmdndcmaa
