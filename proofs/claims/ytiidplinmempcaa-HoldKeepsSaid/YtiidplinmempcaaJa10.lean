/- Joined: Ho4. -/
import Derived.Test.YtiidplinmempcaaJa9
import Derived.Test.YtiidplinmempcaaJa6
import Derived.Test.YtiidplinmempcaaJa7
/- Holds: contracts of hold.turned, Put, Take, Set, the reference's Put, Take, Set. -/
namespace Go.Proofs.Ytiidplinmempcaa
open Go.RowKit
/-- Holds in memory of their own, and a code. -/
def HoldPost (w : World) (L : List (Row Lot)) (code : Int) (e : Ending) (w' : World) : Prop :=
  ∃ (v : Value) (ys : List HoldV), e = .returned (.tuple #[v, .int .i64 code]) ∧ ys.map lgHoldV = L ∧ Own w' w.heap.size 137 3 v (ys.map encHoldV) ∧ (∀ y ∈ ys, GoodHoldV w' y) ∧ Below w.heap.size w w'
/-- As HoldPost, and no list lies in a block that S holds. -/
def HoldPostS (w : World) (S : Nat → Prop) (L : List (Row Lot)) (code : Int) (e : Ending) (w' : World) : Prop :=
  ∃ (v : Value) (ys : List HoldV), e = .returned (.tuple #[v, .int .i64 code]) ∧ ys.map lgHoldV = L ∧ Own w' w.heap.size 137 3 v (ys.map encHoldV) ∧ (∀ y ∈ ys, GoodHoldV w' y) ∧ (∀ g, S g → ∀ y ∈ ys, OffB g y) ∧ Below w.heap.size w w'
theorem HoldPostS.less {w : World} {S : Nat → Prop} {L : List (Row Lot)} {code : Int} {e : Ending} {w' : World} (h : HoldPostS w S L code e w') : HoldPost w L code e w' := by
  obtain ⟨v, ys, h1, h2, h3, h4, _, h5⟩ := h
  exact ⟨v, ys, h1, h2, h3, h4, h5⟩
def LQ (L : List (Row Lot)) : Prop := ∀ r ∈ L, r.rows.length ≤ 1000 ∧ ∀ y ∈ r.rows, In64 y.qty
theorem LQ.of {L : List (Row Lot)} (h : LQ L) (u : Un) : (ofK L u).length ≤ 1000 ∧ ∀ y ∈ ofK L u, In64 y.qty := by
  rcases ofK_mem (l := L) (u := u) with ⟨x, hx, _, e⟩ | ⟨_, e⟩
  · rw [e]; exact h x hx
  · rw [e]; exact ⟨by simp, fun y hy => by simp at hy⟩
theorem put_len (l : List Lot) (x : Lot) : (putLL l x).length ≤ l.length + 1 := by
  have := plL_le l x
  unfold putLL
  split
  · split
    · simp
    · simp; omega
  · simp
theorem tak_len (l : List Lot) (x : Lot) : (takLL l x).length ≤ l.length + 1 := by
  unfold takLL
  split
  · split
    · simp; omega
    · simp
  · simp
def tuC (L : List (Row Lot)) (code : Int) : Int := if isK isL L then code else 3
def tuL (L : List (Row Lot)) (u : Un) (all : List Lot) (code : Int) : List (Row Lot) := if tuC L code = 0 then withK L u all else []
set_option maxRecDepth 100000 in
set_option maxHeartbeats 8000000 in
theorem holdTurnedS (S : Nat → Prop) (l : List HoldV) (u : Un) (all : List Lot) (code : Int) (A B : Option Addr) (c d : Nat) (w : World) (hS : ∀ g, S g → g < w.heap.size) (hl : l.length ≤ 2000) (hal : all.length ≤ 1000000) (hr : Rd w A 3 (l.map encHoldV)) (hg : ∀ x ∈ l, GoodHoldV w x) (hrl : Rs w 3 (all.map encLot) B d) :
    Calls Try.prog 117 #[.slice A l.length c, .agg #[.int .i64 u.acc, .int .i64 u.cli], .slice B all.length d, .int .i64 code] w (HoldPostS w S (tuL (l.map lgHoldV) u all code) (tuC (l.map lgHoldV) code)) := by
  have ci := fun W (h : Below w.heap.size w W) => holdIs l A c W (by omega) (hr.keep h) (fun x hx => (hg x hx).keep h)
  rw [show isHoldV l = isK isL (l.map lgHoldV) from rfl] at ci
  cases hi : isK isL (l.map lgHoldV)
  · rw [hi] at ci
    have hc : tuC (l.map lgHoldV) code = 3 := by unfold tuC; rw [hi]; rfl
    have HL := Lib.hid (show tuL (l.map lgHoldV) u all code = [] from by unfold tuL; rw [hc]; rfl)
    rw [hc]
    have CI := Lib.hid ci
    clear hS hr hg hrl ci hi hc
    go_enter Try.func117, Try.ntmps117
    go_wp2_with (first | (go_at_call 58; (with_reducible refine (CI.out _ (by (repeat' (first | (with_reducible exact Below.refl _ _) | (with_reducible assumption) | (with_reducible refine Below.alloc ?_ ?_ _) | (with_reducible refine Below.setCell ?_ ?_ _) | (with_reducible refine Below.drew ?_) | (with_reducible refine below_drewN ?_ _) | (with_reducible refine below_via ?_ (by with_reducible assumption) ?_) | omega | (simp; done) | (simp; omega))))).mono ?_); rintro e w9 ⟨rfl, hb9⟩; obtain ⟨fc9, fg9, hc9, hf9, hz9⟩ := bget hb9; (try simp at hz9)) | fail)
    go_ret2
    exact ⟨_, [], rfl, HL.out.symm, Own.nil _ _ _ _, fun y hy => absurd hy (by simp), fun g hg y hy => absurd hy (by simp), by (repeat' (first | (with_reducible exact Below.refl _ _) | (with_reducible assumption) | (with_reducible refine Below.alloc ?_ ?_ _) | (with_reducible refine Below.setCell ?_ ?_ _) | (with_reducible refine Below.drew ?_) | (with_reducible refine below_drewN ?_ _) | (with_reducible refine below_via ?_ (by with_reducible assumption) ?_) | omega | (simp; done) | (simp; omega)))⟩
  rw [hi] at ci
  have hc : tuC (l.map lgHoldV) code = code := by unfold tuC; rw [hi]; rfl
  rw [hc]
  cases h0 : (code == 0)
  · have e1 : (code != 0) = true := by simp only [bne, h0]; rfl
    have HL := Lib.hid (show tuL (l.map lgHoldV) u all code = [] from by unfold tuL; rw [hc, if_neg (by simpa using h0)])
    have CI := Lib.hid ci
    clear hS hr hg hrl ci hi hc
    go_enter Try.func117, Try.ntmps117
    go_wp2_with (first | (go_at_call 58; (with_reducible refine (CI.out _ (by (repeat' (first | (with_reducible exact Below.refl _ _) | (with_reducible assumption) | (with_reducible refine Below.alloc ?_ ?_ _) | (with_reducible refine Below.setCell ?_ ?_ _) | (with_reducible refine Below.drew ?_) | (with_reducible refine below_drewN ?_ _) | (with_reducible refine below_via ?_ (by with_reducible assumption) ?_) | omega | (simp; done) | (simp; omega))))).mono ?_); rintro e w9 ⟨rfl, hb9⟩; obtain ⟨fc9, fg9, hc9, hf9, hz9⟩ := bget hb9; (try simp at hz9)) | fail)
    go_ret2
    exact ⟨_, [], rfl, HL.out.symm, Own.nil _ _ _ _, fun y hy => absurd hy (by simp), fun g hg y hy => absurd hy (by simp), by (repeat' (first | (with_reducible exact Below.refl _ _) | (with_reducible assumption) | (with_reducible refine Below.alloc ?_ ?_ _) | (with_reducible refine Below.setCell ?_ ?_ _) | (with_reducible refine Below.drew ?_) | (with_reducible refine below_drewN ?_ _) | (with_reducible refine below_via ?_ (by with_reducible assumption) ?_) | omega | (simp; done) | (simp; omega)))⟩
  · obtain rfl : code = 0 := by simpa using h0
    have HL := Lib.hid (show tuL (l.map lgHoldV) u all 0 = withK (l.map lgHoldV) u all from by unfold tuL; rw [hc]; rfl)
    have CS := Lib.hid (fun W (h : Below w.heap.size w W) => holdSetS S l u all A B c d W (fun g hg => Nat.lt_of_lt_of_le (hS g hg) h.size) hl hal (isK_facts hi).1 (hr.keep h) (fun x hx => (hg x hx).keep h) (hrl.keep h))
    have CI := Lib.hid ci
    clear hS hr hg hrl ci hi hc h0
    go_enter Try.func117, Try.ntmps117
    go_wp2_with (first | (go_at_call 58; (with_reducible refine (CI.out _ (by (repeat' (first | (with_reducible exact Below.refl _ _) | (with_reducible assumption) | (with_reducible refine Below.alloc ?_ ?_ _) | (with_reducible refine Below.setCell ?_ ?_ _) | (with_reducible refine Below.drew ?_) | (with_reducible refine below_drewN ?_ _) | (with_reducible refine below_via ?_ (by with_reducible assumption) ?_) | omega | (simp; done) | (simp; omega))))).mono ?_); rintro e w9 ⟨rfl, hb9⟩; obtain ⟨fc9, fg9, hc9, hf9, hz9⟩ := bget hb9; (try simp at hz9)) | (go_at_call 91; (with_reducible refine (CS.out _ (by (repeat' (first | (with_reducible exact Below.refl _ _) | (with_reducible assumption) | (with_reducible refine Below.alloc ?_ ?_ _) | (with_reducible refine Below.setCell ?_ ?_ _) | (with_reducible refine Below.drew ?_) | (with_reducible refine below_drewN ?_ _) | (with_reducible refine below_via ?_ (by with_reducible assumption) ?_) | omega | (simp; done) | (simp; omega))))).mono ?_); rintro e w2 ⟨v2, ys, rfl, hlg, hown, hgd, hof2, hb2⟩; have HF := Lib.hid hof2; have H1 := Lib.hid hlg; have H2 := Lib.hid hown; have H3 := Lib.hid hgd; clear hlg hown hgd hof2; obtain ⟨fc2, fg2, hc2, hf2, hz2⟩ := bget hb2; (try simp at hz2)) | fail)
    go_ret2
    exact ⟨_, ys, rfl, H1.out.trans HL.out.symm, H2.out.mono (by first | omega | (simp; done) | (simp; omega)), H3.out, HF.out, by (repeat' (first | (with_reducible exact Below.refl _ _) | (with_reducible assumption) | (with_reducible refine Below.alloc ?_ ?_ _) | (with_reducible refine Below.setCell ?_ ?_ _) | (with_reducible refine Below.drew ?_) | (with_reducible refine below_drewN ?_ _) | (with_reducible refine below_via ?_ (by with_reducible assumption) ?_) | omega | (simp; done) | (simp; omega)))⟩
theorem holdTurned (l : List HoldV) (u : Un) (all : List Lot) (code : Int) (A B : Option Addr) (c d : Nat) (w : World) (hl : l.length ≤ 2000) (hal : all.length ≤ 1000000) (hr : Rd w A 3 (l.map encHoldV)) (hg : ∀ x ∈ l, GoodHoldV w x) (hrl : Rs w 3 (all.map encLot) B d) :
    Calls Try.prog 117 #[.slice A l.length c, .agg #[.int .i64 u.acc, .int .i64 u.cli], .slice B all.length d, .int .i64 code] w (HoldPost w (tuL (l.map lgHoldV) u all code) (tuC (l.map lgHoldV) code)) :=
  (holdTurnedS (fun _ => False) l u all code A B c d w (fun _ h => h.elim) hl hal hr hg hrl).mono fun _ _ h => h.less
set_option maxRecDepth 100000 in
set_option maxHeartbeats 8000000 in
theorem holdPutS (S : Nat → Prop) (l : List HoldV) (u : Un) (x : Lot) (A : Option Addr) (c : Nat) (w : World) (hS : ∀ g, S g → g < w.heap.size) (hl : l.length ≤ 2000) (hq : LQ (l.map lgHoldV)) (hx : In64 x.qty) (hr : Rd w A 3 (l.map encHoldV)) (hg : ∀ x ∈ l, GoodHoldV w x) :
    Calls Try.prog 64 #[.slice A l.length c, .agg #[.int .i64 u.acc, .int .i64 u.cli], .agg #[.int .i64 x.asset, .int .i64 x.tag, .int .i64 x.qty]] w (HoldPostS w S (ptL (l.map lgHoldV) u x) (ptC (l.map lgHoldV) u x)) := by
  have hof := hq.of u
  have hpl := put_len (ofK (l.map lgHoldV) u) x
  have co := fun W (h : Below w.heap.size w W) => holdOf l u A c W (by omega) (hr.keep h) (fun y hy => (hg y hy).keep h)
  have cp := fun W A1 c1 (h : Rs W 3 ((ofK (l.map lgHoldV) u).map encLot) A1 c1) => lotPut (ofK (l.map lgHoldV) u) x A1 c1 W (by omega) hof.2 hx h
  have ct := fun W A2 c2 (h : Below w.heap.size w W) (h2 : Rs W 3 ((putLL (ofK (l.map lgHoldV) u) x).map encLot) A2 c2) => holdTurnedS S l u (putLL (ofK (l.map lgHoldV) u) x) (putLC (ofK (l.map lgHoldV) u) x) A A2 c c2 W (fun g hg => Nat.lt_of_lt_of_le (hS g hg) h.size) hl (by omega) (hr.keep h) (fun y hy => (hg y hy).keep h) h2
  rw [show ptL (l.map lgHoldV) u x = tuL (l.map lgHoldV) u (putLL (ofK (l.map lgHoldV) u) x) (putLC (ofK (l.map lgHoldV) u) x) from rfl, show ptC (l.map lgHoldV) u x = tuC (l.map lgHoldV) (putLC (ofK (l.map lgHoldV) u) x) from rfl]
  have CO := Lib.hid co
  have CP := Lib.hid cp
  have CT := Lib.hid ct
  clear hS hr hg hq hof hpl co cp ct
  generalize tuL (l.map lgHoldV) u (putLL (ofK (l.map lgHoldV) u) x) (putLC (ofK (l.map lgHoldV) u) x) = R at *
  generalize tuC (l.map lgHoldV) (putLC (ofK (l.map lgHoldV) u) x) = code at *
  generalize putLL (ofK (l.map lgHoldV) u) x = P at *
  generalize putLC (ofK (l.map lgHoldV) u) x = pc at *
  generalize ofK (l.map lgHoldV) u = O at *
  go_enter Try.func64, Try.ntmps64
  go_wp2_with fail
  go_region_held3 (fun w' => (w'.cell? ⟨w.heap.size, 0, none⟩ = some (.int .i64 u.acc) ∧ w'.cell? ⟨w.heap.size, 1, none⟩ = some (.int .i64 u.cli)) ∧ (w'.cell? ⟨w.heap.size + 1, 0, none⟩ = some (.int .i64 x.asset) ∧ w'.cell? ⟨w.heap.size + 1, 1, none⟩ = some (.int .i64 x.tag) ∧ w'.cell? ⟨w.heap.size + 1, 2, none⟩ = some (.int .i64 x.qty))) (first | (simp [go_sem]; done) | (repeat' (first | (with_reducible assumption) | (with_reducible refine And.intro ?_ ?_) | (with_reducible refine cell_drew ?_) | (with_reducible refine cell_via (by with_reducible assumption) ?_ ?_) | (simp [*]; done) | (simp [go_sem]; done) | (with_reducible refine cell_alloc ?_ ?_) | (with_reducible refine cell_set_far ?_ ?_) | omega | (simp; omega)))) (first | (go_at_call 61; (with_reducible refine (CO.out _ (by (repeat' (first | (with_reducible exact Below.refl _ _) | (with_reducible assumption) | (with_reducible refine Below.alloc ?_ ?_ _) | (with_reducible refine Below.setCell ?_ ?_ _) | (with_reducible refine Below.drew ?_) | (with_reducible refine below_drewN ?_ _) | (with_reducible refine below_via ?_ (by with_reducible assumption) ?_) | omega | (simp; done) | (simp; omega))))).mono ?_); rintro e w1 ⟨v1, rfl, hown1, hb1⟩; obtain ⟨A1, c1, hv1, hrs1, hfm1⟩ := hown1.rs; (rw [List.length_map] at hv1); subst hv1; have H1 := Lib.hid hrs1; clear hown1 hrs1 hfm1; obtain ⟨fc1, fg1, hc1, hf1, hz1⟩ := bget hb1; (try simp at hz1)) | (go_at_call 116; (with_reducible refine (CP.out _ _ _ (H1.out.keep (by (repeat' (first | (with_reducible exact Below.refl _ _) | (with_reducible assumption) | (with_reducible refine Below.alloc ?_ ?_ _) | (with_reducible refine Below.setCell ?_ ?_ _) | (with_reducible refine Below.drew ?_) | (with_reducible refine below_drewN ?_ _) | (with_reducible refine below_via ?_ (by with_reducible assumption) ?_) | omega | (simp; done) | (simp; omega)))))).mono ?_); rintro e w2 ⟨v2, rfl, hown2, hb2⟩; obtain ⟨A2, c2, hv2, hrs2, hfm2⟩ := hown2.rs; (rw [List.length_map] at hv2); subst hv2; have H2 := Lib.hid hrs2; clear hown2 hrs2 hfm2; obtain ⟨fc2, fg2, hc2, hf2, hz2⟩ := bget hb2; (try simp at hz2)) | fail)
  go_wp2_with (first | (go_at_call 117; (with_reducible refine (CT.out _ _ _ (by (repeat' (first | (with_reducible exact Below.refl _ _) | (with_reducible assumption) | (with_reducible refine Below.alloc ?_ ?_ _) | (with_reducible refine Below.setCell ?_ ?_ _) | (with_reducible refine Below.drew ?_) | (with_reducible refine below_drewN ?_ _) | (with_reducible refine below_via ?_ (by with_reducible assumption) ?_) | omega | (simp; done) | (simp; omega)))) (H2.out.keep (by (repeat' (first | (with_reducible exact Below.refl _ _) | (with_reducible assumption) | (with_reducible refine Below.alloc ?_ ?_ _) | (with_reducible refine Below.setCell ?_ ?_ _) | (with_reducible refine Below.drew ?_) | (with_reducible refine below_drewN ?_ _) | (with_reducible refine below_via ?_ (by with_reducible assumption) ?_) | omega | (simp; done) | (simp; omega)))))).mono ?_); rintro e w3 ⟨v3, ys, rfl, hlg, hown, hgd, hof3, hb3⟩; have HF3 := Lib.hid hof3; have HLG := Lib.hid hlg; have HO3 := Lib.hid hown; have HG3 := Lib.hid hgd; clear hlg hown hgd hof3; obtain ⟨fc3, fg3, hc3, hf3, hz3⟩ := bget hb3; (try simp at hz3)) | fail)
  go_ret2
  exact ⟨_, ys, rfl, HLG.out, HO3.out.mono (by first | omega | (simp; done) | (simp; omega)), HG3.out, HF3.out, by (repeat' (first | (with_reducible exact Below.refl _ _) | (with_reducible assumption) | (with_reducible refine Below.alloc ?_ ?_ _) | (with_reducible refine Below.setCell ?_ ?_ _) | (with_reducible refine Below.drew ?_) | (with_reducible refine below_drewN ?_ _) | (with_reducible refine below_via ?_ (by with_reducible assumption) ?_) | omega | (simp; done) | (simp; omega)))⟩
theorem holdPut (l : List HoldV) (u : Un) (x : Lot) (A : Option Addr) (c : Nat) (w : World) (hl : l.length ≤ 2000) (hq : LQ (l.map lgHoldV)) (hx : In64 x.qty) (hr : Rd w A 3 (l.map encHoldV)) (hg : ∀ x ∈ l, GoodHoldV w x) :
    Calls Try.prog 64 #[.slice A l.length c, .agg #[.int .i64 u.acc, .int .i64 u.cli], .agg #[.int .i64 x.asset, .int .i64 x.tag, .int .i64 x.qty]] w (HoldPost w (ptL (l.map lgHoldV) u x) (ptC (l.map lgHoldV) u x)) :=
  (holdPutS (fun _ => False) l u x A c w (fun _ h => h.elim) hl hq hx hr hg).mono fun _ _ h => h.less
set_option maxRecDepth 100000 in
set_option maxHeartbeats 8000000 in
theorem holdTakeS (S : Nat → Prop) (l : List HoldV) (u : Un) (x : Lot) (A : Option Addr) (c : Nat) (w : World) (hS : ∀ g, S g → g < w.heap.size) (hl : l.length ≤ 2000) (hq : LQ (l.map lgHoldV)) (hx : In64 x.qty) (hr : Rd w A 3 (l.map encHoldV)) (hg : ∀ x ∈ l, GoodHoldV w x) :
    Calls Try.prog 66 #[.slice A l.length c, .agg #[.int .i64 u.acc, .int .i64 u.cli], .agg #[.int .i64 x.asset, .int .i64 x.tag, .int .i64 x.qty]] w (HoldPostS w S (tkHL (l.map lgHoldV) u x) (tkHC (l.map lgHoldV) u x)) := by
  have hof := hq.of u
  have hpl := tak_len (ofK (l.map lgHoldV) u) x
  have co := fun W (h : Below w.heap.size w W) => holdOf l u A c W (by omega) (hr.keep h) (fun y hy => (hg y hy).keep h)
  have cp := fun W A1 c1 (h : Rs W 3 ((ofK (l.map lgHoldV) u).map encLot) A1 c1) => lotTake (ofK (l.map lgHoldV) u) x A1 c1 W (by omega) hof.2 hx h
  have ct := fun W A2 c2 (h : Below w.heap.size w W) (h2 : Rs W 3 ((takLL (ofK (l.map lgHoldV) u) x).map encLot) A2 c2) => holdTurnedS S l u (takLL (ofK (l.map lgHoldV) u) x) (takLC (ofK (l.map lgHoldV) u) x) A A2 c c2 W (fun g hg => Nat.lt_of_lt_of_le (hS g hg) h.size) hl (by omega) (hr.keep h) (fun y hy => (hg y hy).keep h) h2
  rw [show tkHL (l.map lgHoldV) u x = tuL (l.map lgHoldV) u (takLL (ofK (l.map lgHoldV) u) x) (takLC (ofK (l.map lgHoldV) u) x) from rfl, show tkHC (l.map lgHoldV) u x = tuC (l.map lgHoldV) (takLC (ofK (l.map lgHoldV) u) x) from rfl]
  have CO := Lib.hid co
  have CP := Lib.hid cp
  have CT := Lib.hid ct
  clear hS hr hg hq hof hpl co cp ct
  generalize tuL (l.map lgHoldV) u (takLL (ofK (l.map lgHoldV) u) x) (takLC (ofK (l.map lgHoldV) u) x) = R at *
  generalize tuC (l.map lgHoldV) (takLC (ofK (l.map lgHoldV) u) x) = code at *
  generalize takLL (ofK (l.map lgHoldV) u) x = P at *
  generalize takLC (ofK (l.map lgHoldV) u) x = pc at *
  generalize ofK (l.map lgHoldV) u = O at *
  go_enter Try.func66, Try.ntmps66
  go_wp2_with fail
  go_region_held3 (fun w' => (w'.cell? ⟨w.heap.size, 0, none⟩ = some (.int .i64 u.acc) ∧ w'.cell? ⟨w.heap.size, 1, none⟩ = some (.int .i64 u.cli)) ∧ (w'.cell? ⟨w.heap.size + 1, 0, none⟩ = some (.int .i64 x.asset) ∧ w'.cell? ⟨w.heap.size + 1, 1, none⟩ = some (.int .i64 x.tag) ∧ w'.cell? ⟨w.heap.size + 1, 2, none⟩ = some (.int .i64 x.qty))) (first | (simp [go_sem]; done) | (repeat' (first | (with_reducible assumption) | (with_reducible refine And.intro ?_ ?_) | (with_reducible refine cell_drew ?_) | (with_reducible refine cell_via (by with_reducible assumption) ?_ ?_) | (simp [*]; done) | (simp [go_sem]; done) | (with_reducible refine cell_alloc ?_ ?_) | (with_reducible refine cell_set_far ?_ ?_) | omega | (simp; omega)))) (first | (go_at_call 61; (with_reducible refine (CO.out _ (by (repeat' (first | (with_reducible exact Below.refl _ _) | (with_reducible assumption) | (with_reducible refine Below.alloc ?_ ?_ _) | (with_reducible refine Below.setCell ?_ ?_ _) | (with_reducible refine Below.drew ?_) | (with_reducible refine below_drewN ?_ _) | (with_reducible refine below_via ?_ (by with_reducible assumption) ?_) | omega | (simp; done) | (simp; omega))))).mono ?_); rintro e w1 ⟨v1, rfl, hown1, hb1⟩; obtain ⟨A1, c1, hv1, hrs1, hfm1⟩ := hown1.rs; (rw [List.length_map] at hv1); subst hv1; have H1 := Lib.hid hrs1; clear hown1 hrs1 hfm1; obtain ⟨fc1, fg1, hc1, hf1, hz1⟩ := bget hb1; (try simp at hz1)) | (go_at_call 119; (with_reducible refine (CP.out _ _ _ (H1.out.keep (by (repeat' (first | (with_reducible exact Below.refl _ _) | (with_reducible assumption) | (with_reducible refine Below.alloc ?_ ?_ _) | (with_reducible refine Below.setCell ?_ ?_ _) | (with_reducible refine Below.drew ?_) | (with_reducible refine below_drewN ?_ _) | (with_reducible refine below_via ?_ (by with_reducible assumption) ?_) | omega | (simp; done) | (simp; omega)))))).mono ?_); rintro e w2 ⟨v2, rfl, hown2, hb2⟩; obtain ⟨A2, c2, hv2, hrs2, hfm2⟩ := hown2.rs; (rw [List.length_map] at hv2); subst hv2; have H2 := Lib.hid hrs2; clear hown2 hrs2 hfm2; obtain ⟨fc2, fg2, hc2, hf2, hz2⟩ := bget hb2; (try simp at hz2)) | fail)
  go_wp2_with (first | (go_at_call 117; (with_reducible refine (CT.out _ _ _ (by (repeat' (first | (with_reducible exact Below.refl _ _) | (with_reducible assumption) | (with_reducible refine Below.alloc ?_ ?_ _) | (with_reducible refine Below.setCell ?_ ?_ _) | (with_reducible refine Below.drew ?_) | (with_reducible refine below_drewN ?_ _) | (with_reducible refine below_via ?_ (by with_reducible assumption) ?_) | omega | (simp; done) | (simp; omega)))) (H2.out.keep (by (repeat' (first | (with_reducible exact Below.refl _ _) | (with_reducible assumption) | (with_reducible refine Below.alloc ?_ ?_ _) | (with_reducible refine Below.setCell ?_ ?_ _) | (with_reducible refine Below.drew ?_) | (with_reducible refine below_drewN ?_ _) | (with_reducible refine below_via ?_ (by with_reducible assumption) ?_) | omega | (simp; done) | (simp; omega)))))).mono ?_); rintro e w3 ⟨v3, ys, rfl, hlg, hown, hgd, hof3, hb3⟩; have HF3 := Lib.hid hof3; have HLG := Lib.hid hlg; have HO3 := Lib.hid hown; have HG3 := Lib.hid hgd; clear hlg hown hgd hof3; obtain ⟨fc3, fg3, hc3, hf3, hz3⟩ := bget hb3; (try simp at hz3)) | fail)
  go_ret2
  exact ⟨_, ys, rfl, HLG.out, HO3.out.mono (by first | omega | (simp; done) | (simp; omega)), HG3.out, HF3.out, by (repeat' (first | (with_reducible exact Below.refl _ _) | (with_reducible assumption) | (with_reducible refine Below.alloc ?_ ?_ _) | (with_reducible refine Below.setCell ?_ ?_ _) | (with_reducible refine Below.drew ?_) | (with_reducible refine below_drewN ?_ _) | (with_reducible refine below_via ?_ (by with_reducible assumption) ?_) | omega | (simp; done) | (simp; omega)))⟩
theorem holdTake (l : List HoldV) (u : Un) (x : Lot) (A : Option Addr) (c : Nat) (w : World) (hl : l.length ≤ 2000) (hq : LQ (l.map lgHoldV)) (hx : In64 x.qty) (hr : Rd w A 3 (l.map encHoldV)) (hg : ∀ x ∈ l, GoodHoldV w x) :
    Calls Try.prog 66 #[.slice A l.length c, .agg #[.int .i64 u.acc, .int .i64 u.cli], .agg #[.int .i64 x.asset, .int .i64 x.tag, .int .i64 x.qty]] w (HoldPost w (tkHL (l.map lgHoldV) u x) (tkHC (l.map lgHoldV) u x)) :=
  (holdTakeS (fun _ => False) l u x A c w (fun _ h => h.elim) hl hq hx hr hg).mono fun _ _ h => h.less
set_option maxRecDepth 100000 in
set_option maxHeartbeats 8000000 in
theorem holdHSet (l : List HoldV) (u : Un) (all : List Lot) (A B : Option Addr) (c d : Nat) (w : World) (hl : l.length ≤ 2000) (hal : all.length ≤ 1000000) (hr : Rd w A 3 (l.map encHoldV)) (hg : ∀ x ∈ l, GoodHoldV w x) (hrl : Rs w 3 (all.map encLot) B d) :
    Calls Try.prog 68 #[.slice A l.length c, .agg #[.int .i64 u.acc, .int .i64 u.cli], .slice B all.length d] w (HoldPost w (stL (l.map lgHoldV) u all) (stC (l.map lgHoldV) all)) := by
  have ci := fun W (h : Below w.heap.size w W) => lotIs all B d W hal (hrl.keep h).rd
  have ct := fun W A2 c2 (h : Below w.heap.size w W) (h2 : Rs W 3 (all.map encLot) A2 c2) => holdTurned l u all (if isL all then 0 else 3) A A2 c c2 W hl hal (hr.keep h) (fun y hy => (hg y hy).keep h) h2
  rw [show stL (l.map lgHoldV) u all = tuL (l.map lgHoldV) u all (if isL all then 0 else 3) from rfl, show stC (l.map lgHoldV) all = tuC (l.map lgHoldV) (if isL all then 0 else 3) from rfl]
  have H2 := Lib.hid hrl
  cases hi : isL all
  all_goals
    rw [hi] at ci ct
    simp only [Bool.false_eq_true, if_false, if_true] at ct ⊢
    have CI := Lib.hid ci
    have CT := Lib.hid ct
  all_goals
    clear hr hg hrl ci ct hi
  all_goals
    go_enter Try.func68, Try.ntmps68
    go_wp2_with (first | (go_at_call 112; (with_reducible refine (CI.out _ (by (repeat' (first | (with_reducible exact Below.refl _ _) | (with_reducible assumption) | (with_reducible refine Below.alloc ?_ ?_ _) | (with_reducible refine Below.setCell ?_ ?_ _) | (with_reducible refine Below.drew ?_) | (with_reducible refine below_drewN ?_ _) | (with_reducible refine below_via ?_ (by with_reducible assumption) ?_) | omega | (simp; done) | (simp; omega))))).mono ?_); rintro e w9 ⟨rfl, hb9⟩; obtain ⟨fc9, fg9, hc9, hf9, hz9⟩ := bget hb9; (try simp at hz9)) | (go_at_call 117; (with_reducible refine (CT.out _ _ _ (by (repeat' (first | (with_reducible exact Below.refl _ _) | (with_reducible assumption) | (with_reducible refine Below.alloc ?_ ?_ _) | (with_reducible refine Below.setCell ?_ ?_ _) | (with_reducible refine Below.drew ?_) | (with_reducible refine below_drewN ?_ _) | (with_reducible refine below_via ?_ (by with_reducible assumption) ?_) | omega | (simp; done) | (simp; omega)))) (H2.out.keep (by (repeat' (first | (with_reducible exact Below.refl _ _) | (with_reducible assumption) | (with_reducible refine Below.alloc ?_ ?_ _) | (with_reducible refine Below.setCell ?_ ?_ _) | (with_reducible refine Below.drew ?_) | (with_reducible refine below_drewN ?_ _) | (with_reducible refine below_via ?_ (by with_reducible assumption) ?_) | omega | (simp; done) | (simp; omega)))))).mono ?_); rintro e w3 ⟨v3, ys, rfl, hlg, hown, hgd, hb3⟩; have HLG := Lib.hid hlg; have HO3 := Lib.hid hown; have HG3 := Lib.hid hgd; clear hlg hown hgd; obtain ⟨fc3, fg3, hc3, hf3, hz3⟩ := bget hb3; (try simp at hz3)) | fail)
    go_ret2
    exact ⟨_, ys, rfl, HLG.out, HO3.out.mono (by first | omega | (simp; done) | (simp; omega)), HG3.out, by (repeat' (first | (with_reducible exact Below.refl _ _) | (with_reducible assumption) | (with_reducible refine Below.alloc ?_ ?_ _) | (with_reducible refine Below.setCell ?_ ?_ _) | (with_reducible refine Below.drew ?_) | (with_reducible refine below_drewN ?_ _) | (with_reducible refine below_via ?_ (by with_reducible assumption) ?_) | omega | (simp; done) | (simp; omega)))⟩
set_option maxRecDepth 100000 in
set_option maxHeartbeats 8000000 in
theorem ref26PutS (S : Nat → Prop) (l : List HoldV) (u : Un) (x : Lot) (A : Option Addr) (c : Nat) (w : World) (hS : ∀ g, S g → g < w.heap.size ∧ ∀ x ∈ l, OffB g x) (hl : l.length ≤ 2000) (hq : LQ (l.map lgHoldV)) (hx : In64 x.qty) (hr : Rs w 3 (l.map encHoldV) A c) (hform : (A = none ∧ l = [] ∧ c = 0) ∨ ∃ b o, A = some ⟨b, o, none⟩) (hg : ∀ x ∈ l, GoodHoldV w x) :
    Calls Try.prog 65 #[.slice A l.length c, .agg #[.int .i64 u.acc, .int .i64 u.cli], .agg #[.int .i64 x.asset, .int .i64 x.tag, .int .i64 x.qty]] w (HoldPostS w S (ptL (l.map lgHoldV) u x) (ptC (l.map lgHoldV) u x)) := by
  have hof := hq.of u
  have hpl := put_len (ofK (l.map lgHoldV) u) x
  have ci := fun W (h : Below w.heap.size w W) => refHoldVIs l A c W (by omega) (hr.keep h).rd (fun y hy => (hg y hy).keep h)
  have co := fun W (h : Below w.heap.size w W) => refHoldVOf l u A c W (by omega) (hr.keep h).rd (fun y hy => (hg y hy).keep h)
  have cp := fun W A1 c1 (h : Rs W 3 ((ofK (l.map lgHoldV) u).map encLot) A1 c1) => ref18Put (ofK (l.map lgHoldV) u) x A1 c1 W (by omega) hof.2 hx h.rd
  have ct := fun (hs : SortK (l.map lgHoldV)) W A2 c2 (ha : ∀ a, A2 = some a → w.heap.size ≤ a.block) (h : Below w.heap.size w W) (h2 : Rs W 3 ((putLL (ofK (l.map lgHoldV) u) x).map encLot) A2 c2) => ref26WithS S l u (putLL (ofK (l.map lgHoldV) u) x) A A2 c c2 W (fun g hg => ⟨(hS g hg).2, fun a e => by have h1 := (hS g hg).1; have h2 := ha a e; omega⟩) hl (by omega) hs (hr.keep h) hform (fun y hy => (hg y hy).keep h) h2
  have hC : ptC (l.map lgHoldV) u x = tuC (l.map lgHoldV) (putLC (ofK (l.map lgHoldV) u) x) := rfl
  have hL : ptL (l.map lgHoldV) u x = if tuC (l.map lgHoldV) (putLC (ofK (l.map lgHoldV) u) x) = 0 then withK (l.map lgHoldV) u (putLL (ofK (l.map lgHoldV) u) x) else [] := rfl
  rw [show isHoldV l = isK isL (l.map lgHoldV) from rfl] at ci
  have CO := Lib.hid co
  have CP := Lib.hid cp
  generalize ptL (l.map lgHoldV) u x = R at *
  generalize ptC (l.map lgHoldV) u x = code at *
  generalize putLL (ofK (l.map lgHoldV) u) x = P at *
  generalize putLC (ofK (l.map lgHoldV) u) x = pc at *
  generalize ofK (l.map lgHoldV) u = O at *
  clear hS hr hg hq hof hpl co cp hform
  unfold tuC at hC hL
  cases hi : isK isL (l.map lgHoldV)
  · rw [hi] at ci hC hL
    have HL := Lib.hid (show R = [] from hL)
    obtain rfl : code = 3 := hC
    have CI := Lib.hid ci
    clear ci ct hi hL
    go_enter Try.func65, Try.ntmps65
    go_wp2_with (first | (go_at_call 59; (with_reducible refine (CI.out _ (by (repeat' (first | (with_reducible exact Below.refl _ _) | (with_reducible assumption) | (with_reducible refine Below.alloc ?_ ?_ _) | (with_reducible refine Below.setCell ?_ ?_ _) | (with_reducible refine Below.drew ?_) | (with_reducible refine below_drewN ?_ _) | (with_reducible refine below_via ?_ (by with_reducible assumption) ?_) | omega | (simp; done) | (simp; omega))))).mono ?_); rintro e w9 ⟨rfl, hb9⟩; obtain ⟨fc9, fg9, hc9, hf9, hz9⟩ := bget hb9; (try simp at hz9)) | fail)
    go_ret2
    exact ⟨_, [], rfl, HL.out.symm, Own.nil _ _ _ _, fun y hy => absurd hy (by simp), fun g hg y hy => absurd hy (by simp), by (repeat' (first | (with_reducible exact Below.refl _ _) | (with_reducible assumption) | (with_reducible refine Below.alloc ?_ ?_ _) | (with_reducible refine Below.setCell ?_ ?_ _) | (with_reducible refine Below.drew ?_) | (with_reducible refine below_drewN ?_ _) | (with_reducible refine below_via ?_ (by with_reducible assumption) ?_) | omega | (simp; done) | (simp; omega)))⟩
  rw [hi] at ci hC hL
  obtain rfl : code = pc := hC
  have hL' : R = if code = 0 then withK (l.map lgHoldV) u P else [] := hL
  have CI := Lib.hid ci
  cases h0 : (code == 0)
  · have e1 : (code != 0) = true := by simp only [bne, h0]; rfl
    have HL := Lib.hid (show R = [] from by rw [hL', if_neg (by simpa using h0)])
    clear ci ct hi hL hL'
    go_enter Try.func65, Try.ntmps65
    go_wp2_with (first | (go_at_call 59; (with_reducible refine (CI.out _ (by (repeat' (first | (with_reducible exact Below.refl _ _) | (with_reducible assumption) | (with_reducible refine Below.alloc ?_ ?_ _) | (with_reducible refine Below.setCell ?_ ?_ _) | (with_reducible refine Below.drew ?_) | (with_reducible refine below_drewN ?_ _) | (with_reducible refine below_via ?_ (by with_reducible assumption) ?_) | omega | (simp; done) | (simp; omega))))).mono ?_); rintro e w9 ⟨rfl, hb9⟩; obtain ⟨fc9, fg9, hc9, hf9, hz9⟩ := bget hb9; (try simp at hz9)) | fail)
    go_region_held3 (fun w' => (w'.cell? ⟨w.heap.size, 0, none⟩ = some (.int .i64 u.acc) ∧ w'.cell? ⟨w.heap.size, 1, none⟩ = some (.int .i64 u.cli)) ∧ (w'.cell? ⟨w.heap.size + 1, 0, none⟩ = some (.int .i64 x.asset) ∧ w'.cell? ⟨w.heap.size + 1, 1, none⟩ = some (.int .i64 x.tag) ∧ w'.cell? ⟨w.heap.size + 1, 2, none⟩ = some (.int .i64 x.qty))) (first | (simp [go_sem]; done) | (repeat' (first | (with_reducible assumption) | (with_reducible refine And.intro ?_ ?_) | (with_reducible refine cell_drew ?_) | (with_reducible refine cell_via (by with_reducible assumption) ?_ ?_) | (simp [*]; done) | (simp [go_sem]; done) | (with_reducible refine cell_alloc ?_ ?_) | (with_reducible refine cell_set_far ?_ ?_) | omega | (simp; omega)))) (first | (go_at_call 62; (with_reducible refine (CO.out _ (by (repeat' (first | (with_reducible exact Below.refl _ _) | (with_reducible assumption) | (with_reducible refine Below.alloc ?_ ?_ _) | (with_reducible refine Below.setCell ?_ ?_ _) | (with_reducible refine Below.drew ?_) | (with_reducible refine below_drewN ?_ _) | (with_reducible refine below_via ?_ (by with_reducible assumption) ?_) | omega | (simp; done) | (simp; omega))))).mono ?_); rintro e w1 ⟨A1, c1, rfl, hrs1, hb1⟩; have H1 := Lib.hid hrs1; clear hrs1; obtain ⟨fc1, fg1, hc1, hf1, hz1⟩ := bget hb1; (try simp at hz1)) | (go_at_call 118; (with_reducible refine (CP.out _ _ _ (H1.out.keep (by (repeat' (first | (with_reducible exact Below.refl _ _) | (with_reducible assumption) | (with_reducible refine Below.alloc ?_ ?_ _) | (with_reducible refine Below.setCell ?_ ?_ _) | (with_reducible refine Below.drew ?_) | (with_reducible refine below_drewN ?_ _) | (with_reducible refine below_via ?_ (by with_reducible assumption) ?_) | omega | (simp; done) | (simp; omega)))))).mono ?_); rintro e w2 ⟨v2, rfl, hown2, hb2⟩; obtain ⟨A2, c2, hv2, hrs2, hfm2⟩ := hown2.rs; (rw [List.length_map] at hv2); subst hv2; have HA2 := Lib.hid (own_off hown2 (m := w.heap.size) (by first | omega | (simp; done) | (simp; omega))); have H2 := Lib.hid hrs2; clear hown2 hrs2 hfm2; obtain ⟨fc2, fg2, hc2, hf2, hz2⟩ := bget hb2; (try simp at hz2)) | fail)
    go_wp2_with fail
    go_ret2
    exact ⟨_, [], rfl, HL.out.symm, Own.nil _ _ _ _, fun y hy => absurd hy (by simp), fun g hg y hy => absurd hy (by simp), by (repeat' (first | (with_reducible exact Below.refl _ _) | (with_reducible assumption) | (with_reducible refine Below.alloc ?_ ?_ _) | (with_reducible refine Below.setCell ?_ ?_ _) | (with_reducible refine Below.drew ?_) | (with_reducible refine below_drewN ?_ _) | (with_reducible refine below_via ?_ (by with_reducible assumption) ?_) | omega | (simp; done) | (simp; omega)))⟩
  · obtain rfl : code = 0 := by simpa using h0
    have HL := Lib.hid (show R = withK (l.map lgHoldV) u P from hL')
    have CT := Lib.hid (ct (isK_facts hi).1)
    clear ci ct hi hL hL' h0
    go_enter Try.func65, Try.ntmps65
    go_wp2_with (first | (go_at_call 59; (with_reducible refine (CI.out _ (by (repeat' (first | (with_reducible exact Below.refl _ _) | (with_reducible assumption) | (with_reducible refine Below.alloc ?_ ?_ _) | (with_reducible refine Below.setCell ?_ ?_ _) | (with_reducible refine Below.drew ?_) | (with_reducible refine below_drewN ?_ _) | (with_reducible refine below_via ?_ (by with_reducible assumption) ?_) | omega | (simp; done) | (simp; omega))))).mono ?_); rintro e w9 ⟨rfl, hb9⟩; obtain ⟨fc9, fg9, hc9, hf9, hz9⟩ := bget hb9; (try simp at hz9)) | fail)
    go_region_held3 (fun w' => (w'.cell? ⟨w.heap.size, 0, none⟩ = some (.int .i64 u.acc) ∧ w'.cell? ⟨w.heap.size, 1, none⟩ = some (.int .i64 u.cli)) ∧ (w'.cell? ⟨w.heap.size + 1, 0, none⟩ = some (.int .i64 x.asset) ∧ w'.cell? ⟨w.heap.size + 1, 1, none⟩ = some (.int .i64 x.tag) ∧ w'.cell? ⟨w.heap.size + 1, 2, none⟩ = some (.int .i64 x.qty))) (first | (simp [go_sem]; done) | (repeat' (first | (with_reducible assumption) | (with_reducible refine And.intro ?_ ?_) | (with_reducible refine cell_drew ?_) | (with_reducible refine cell_via (by with_reducible assumption) ?_ ?_) | (simp [*]; done) | (simp [go_sem]; done) | (with_reducible refine cell_alloc ?_ ?_) | (with_reducible refine cell_set_far ?_ ?_) | omega | (simp; omega)))) (first | (go_at_call 62; (with_reducible refine (CO.out _ (by (repeat' (first | (with_reducible exact Below.refl _ _) | (with_reducible assumption) | (with_reducible refine Below.alloc ?_ ?_ _) | (with_reducible refine Below.setCell ?_ ?_ _) | (with_reducible refine Below.drew ?_) | (with_reducible refine below_drewN ?_ _) | (with_reducible refine below_via ?_ (by with_reducible assumption) ?_) | omega | (simp; done) | (simp; omega))))).mono ?_); rintro e w1 ⟨A1, c1, rfl, hrs1, hb1⟩; have H1 := Lib.hid hrs1; clear hrs1; obtain ⟨fc1, fg1, hc1, hf1, hz1⟩ := bget hb1; (try simp at hz1)) | (go_at_call 118; (with_reducible refine (CP.out _ _ _ (H1.out.keep (by (repeat' (first | (with_reducible exact Below.refl _ _) | (with_reducible assumption) | (with_reducible refine Below.alloc ?_ ?_ _) | (with_reducible refine Below.setCell ?_ ?_ _) | (with_reducible refine Below.drew ?_) | (with_reducible refine below_drewN ?_ _) | (with_reducible refine below_via ?_ (by with_reducible assumption) ?_) | omega | (simp; done) | (simp; omega)))))).mono ?_); rintro e w2 ⟨v2, rfl, hown2, hb2⟩; obtain ⟨A2, c2, hv2, hrs2, hfm2⟩ := hown2.rs; (rw [List.length_map] at hv2); subst hv2; have HA2 := Lib.hid (own_off hown2 (m := w.heap.size) (by first | omega | (simp; done) | (simp; omega))); have H2 := Lib.hid hrs2; clear hown2 hrs2 hfm2; obtain ⟨fc2, fg2, hc2, hf2, hz2⟩ := bget hb2; (try simp at hz2)) | fail)
    go_wp2_with (first | (go_at_call 92; (with_reducible refine (CT.out _ _ _ HA2.out (by (repeat' (first | (with_reducible exact Below.refl _ _) | (with_reducible assumption) | (with_reducible refine Below.alloc ?_ ?_ _) | (with_reducible refine Below.setCell ?_ ?_ _) | (with_reducible refine Below.drew ?_) | (with_reducible refine below_drewN ?_ _) | (with_reducible refine below_via ?_ (by with_reducible assumption) ?_) | omega | (simp; done) | (simp; omega)))) (H2.out.keep (by (repeat' (first | (with_reducible exact Below.refl _ _) | (with_reducible assumption) | (with_reducible refine Below.alloc ?_ ?_ _) | (with_reducible refine Below.setCell ?_ ?_ _) | (with_reducible refine Below.drew ?_) | (with_reducible refine below_drewN ?_ _) | (with_reducible refine below_via ?_ (by with_reducible assumption) ?_) | omega | (simp; done) | (simp; omega)))))).mono ?_); rintro e w3 ⟨v3, ys, rfl, hlg, hown, hgd, hof3, hb3⟩; have HF3 := Lib.hid hof3; have HLG := Lib.hid hlg; have HO3 := Lib.hid hown; have HG3 := Lib.hid hgd; clear hlg hown hgd hof3; obtain ⟨fc3, fg3, hc3, hf3, hz3⟩ := bget hb3; (try simp at hz3)) | fail)
    go_ret2
    exact ⟨_, ys, rfl, HLG.out.trans HL.out.symm, HO3.out.mono (by first | omega | (simp; done) | (simp; omega)), HG3.out, HF3.out, by (repeat' (first | (with_reducible exact Below.refl _ _) | (with_reducible assumption) | (with_reducible refine Below.alloc ?_ ?_ _) | (with_reducible refine Below.setCell ?_ ?_ _) | (with_reducible refine Below.drew ?_) | (with_reducible refine below_drewN ?_ _) | (with_reducible refine below_via ?_ (by with_reducible assumption) ?_) | omega | (simp; done) | (simp; omega)))⟩
theorem ref26Put (l : List HoldV) (u : Un) (x : Lot) (A : Option Addr) (c : Nat) (w : World) (hl : l.length ≤ 2000) (hq : LQ (l.map lgHoldV)) (hx : In64 x.qty) (hr : Rs w 3 (l.map encHoldV) A c) (hform : (A = none ∧ l = [] ∧ c = 0) ∨ ∃ b o, A = some ⟨b, o, none⟩) (hg : ∀ x ∈ l, GoodHoldV w x) :
    Calls Try.prog 65 #[.slice A l.length c, .agg #[.int .i64 u.acc, .int .i64 u.cli], .agg #[.int .i64 x.asset, .int .i64 x.tag, .int .i64 x.qty]] w (HoldPost w (ptL (l.map lgHoldV) u x) (ptC (l.map lgHoldV) u x)) :=
  (ref26PutS (fun _ => False) l u x A c w (fun _ h => h.elim) hl hq hx hr hform hg).mono fun _ _ h => h.less
set_option maxRecDepth 100000 in
set_option maxHeartbeats 8000000 in
theorem ref26TakeS (S : Nat → Prop) (l : List HoldV) (u : Un) (x : Lot) (A : Option Addr) (c : Nat) (w : World) (hS : ∀ g, S g → g < w.heap.size ∧ ∀ x ∈ l, OffB g x) (hl : l.length ≤ 2000) (hq : LQ (l.map lgHoldV)) (hx : In64 x.qty) (hr : Rs w 3 (l.map encHoldV) A c) (hform : (A = none ∧ l = [] ∧ c = 0) ∨ ∃ b o, A = some ⟨b, o, none⟩) (hg : ∀ x ∈ l, GoodHoldV w x) :
    Calls Try.prog 67 #[.slice A l.length c, .agg #[.int .i64 u.acc, .int .i64 u.cli], .agg #[.int .i64 x.asset, .int .i64 x.tag, .int .i64 x.qty]] w (HoldPostS w S (tkHL (l.map lgHoldV) u x) (tkHC (l.map lgHoldV) u x)) := by
  have hof := hq.of u
  have hpl := tak_len (ofK (l.map lgHoldV) u) x
  have ci := fun W (h : Below w.heap.size w W) => refHoldVIs l A c W (by omega) (hr.keep h).rd (fun y hy => (hg y hy).keep h)
  have co := fun W (h : Below w.heap.size w W) => refHoldVOf l u A c W (by omega) (hr.keep h).rd (fun y hy => (hg y hy).keep h)
  have cp := fun W A1 c1 (h : Rs W 3 ((ofK (l.map lgHoldV) u).map encLot) A1 c1) => ref18Take (ofK (l.map lgHoldV) u) x A1 c1 W (by omega) hof.2 hx h.rd
  have ct := fun (hs : SortK (l.map lgHoldV)) W A2 c2 (ha : ∀ a, A2 = some a → w.heap.size ≤ a.block) (h : Below w.heap.size w W) (h2 : Rs W 3 ((takLL (ofK (l.map lgHoldV) u) x).map encLot) A2 c2) => ref26WithS S l u (takLL (ofK (l.map lgHoldV) u) x) A A2 c c2 W (fun g hg => ⟨(hS g hg).2, fun a e => by have h1 := (hS g hg).1; have h2 := ha a e; omega⟩) hl (by omega) hs (hr.keep h) hform (fun y hy => (hg y hy).keep h) h2
  have hC : tkHC (l.map lgHoldV) u x = tuC (l.map lgHoldV) (takLC (ofK (l.map lgHoldV) u) x) := rfl
  have hL : tkHL (l.map lgHoldV) u x = if tuC (l.map lgHoldV) (takLC (ofK (l.map lgHoldV) u) x) = 0 then withK (l.map lgHoldV) u (takLL (ofK (l.map lgHoldV) u) x) else [] := rfl
  rw [show isHoldV l = isK isL (l.map lgHoldV) from rfl] at ci
  have CO := Lib.hid co
  have CP := Lib.hid cp
  generalize tkHL (l.map lgHoldV) u x = R at *
  generalize tkHC (l.map lgHoldV) u x = code at *
  generalize takLL (ofK (l.map lgHoldV) u) x = P at *
  generalize takLC (ofK (l.map lgHoldV) u) x = pc at *
  generalize ofK (l.map lgHoldV) u = O at *
  clear hS hr hg hq hof hpl co cp hform
  unfold tuC at hC hL
  cases hi : isK isL (l.map lgHoldV)
  · rw [hi] at ci hC hL
    have HL := Lib.hid (show R = [] from hL)
    obtain rfl : code = 3 := hC
    have CI := Lib.hid ci
    clear ci ct hi hL
    go_enter Try.func67, Try.ntmps67
    go_wp2_with (first | (go_at_call 59; (with_reducible refine (CI.out _ (by (repeat' (first | (with_reducible exact Below.refl _ _) | (with_reducible assumption) | (with_reducible refine Below.alloc ?_ ?_ _) | (with_reducible refine Below.setCell ?_ ?_ _) | (with_reducible refine Below.drew ?_) | (with_reducible refine below_drewN ?_ _) | (with_reducible refine below_via ?_ (by with_reducible assumption) ?_) | omega | (simp; done) | (simp; omega))))).mono ?_); rintro e w9 ⟨rfl, hb9⟩; obtain ⟨fc9, fg9, hc9, hf9, hz9⟩ := bget hb9; (try simp at hz9)) | fail)
    go_ret2
    exact ⟨_, [], rfl, HL.out.symm, Own.nil _ _ _ _, fun y hy => absurd hy (by simp), fun g hg y hy => absurd hy (by simp), by (repeat' (first | (with_reducible exact Below.refl _ _) | (with_reducible assumption) | (with_reducible refine Below.alloc ?_ ?_ _) | (with_reducible refine Below.setCell ?_ ?_ _) | (with_reducible refine Below.drew ?_) | (with_reducible refine below_drewN ?_ _) | (with_reducible refine below_via ?_ (by with_reducible assumption) ?_) | omega | (simp; done) | (simp; omega)))⟩
  rw [hi] at ci hC hL
  obtain rfl : code = pc := hC
  have hL' : R = if code = 0 then withK (l.map lgHoldV) u P else [] := hL
  have CI := Lib.hid ci
  cases h0 : (code == 0)
  · have e1 : (code != 0) = true := by simp only [bne, h0]; rfl
    have HL := Lib.hid (show R = [] from by rw [hL', if_neg (by simpa using h0)])
    clear ci ct hi hL hL'
    go_enter Try.func67, Try.ntmps67
    go_wp2_with (first | (go_at_call 59; (with_reducible refine (CI.out _ (by (repeat' (first | (with_reducible exact Below.refl _ _) | (with_reducible assumption) | (with_reducible refine Below.alloc ?_ ?_ _) | (with_reducible refine Below.setCell ?_ ?_ _) | (with_reducible refine Below.drew ?_) | (with_reducible refine below_drewN ?_ _) | (with_reducible refine below_via ?_ (by with_reducible assumption) ?_) | omega | (simp; done) | (simp; omega))))).mono ?_); rintro e w9 ⟨rfl, hb9⟩; obtain ⟨fc9, fg9, hc9, hf9, hz9⟩ := bget hb9; (try simp at hz9)) | fail)
    go_region_held3 (fun w' => (w'.cell? ⟨w.heap.size, 0, none⟩ = some (.int .i64 u.acc) ∧ w'.cell? ⟨w.heap.size, 1, none⟩ = some (.int .i64 u.cli)) ∧ (w'.cell? ⟨w.heap.size + 1, 0, none⟩ = some (.int .i64 x.asset) ∧ w'.cell? ⟨w.heap.size + 1, 1, none⟩ = some (.int .i64 x.tag) ∧ w'.cell? ⟨w.heap.size + 1, 2, none⟩ = some (.int .i64 x.qty))) (first | (simp [go_sem]; done) | (repeat' (first | (with_reducible assumption) | (with_reducible refine And.intro ?_ ?_) | (with_reducible refine cell_drew ?_) | (with_reducible refine cell_via (by with_reducible assumption) ?_ ?_) | (simp [*]; done) | (simp [go_sem]; done) | (with_reducible refine cell_alloc ?_ ?_) | (with_reducible refine cell_set_far ?_ ?_) | omega | (simp; omega)))) (first | (go_at_call 62; (with_reducible refine (CO.out _ (by (repeat' (first | (with_reducible exact Below.refl _ _) | (with_reducible assumption) | (with_reducible refine Below.alloc ?_ ?_ _) | (with_reducible refine Below.setCell ?_ ?_ _) | (with_reducible refine Below.drew ?_) | (with_reducible refine below_drewN ?_ _) | (with_reducible refine below_via ?_ (by with_reducible assumption) ?_) | omega | (simp; done) | (simp; omega))))).mono ?_); rintro e w1 ⟨A1, c1, rfl, hrs1, hb1⟩; have H1 := Lib.hid hrs1; clear hrs1; obtain ⟨fc1, fg1, hc1, hf1, hz1⟩ := bget hb1; (try simp at hz1)) | (go_at_call 120; (with_reducible refine (CP.out _ _ _ (H1.out.keep (by (repeat' (first | (with_reducible exact Below.refl _ _) | (with_reducible assumption) | (with_reducible refine Below.alloc ?_ ?_ _) | (with_reducible refine Below.setCell ?_ ?_ _) | (with_reducible refine Below.drew ?_) | (with_reducible refine below_drewN ?_ _) | (with_reducible refine below_via ?_ (by with_reducible assumption) ?_) | omega | (simp; done) | (simp; omega)))))).mono ?_); rintro e w2 ⟨v2, rfl, hown2, hb2⟩; obtain ⟨A2, c2, hv2, hrs2, hfm2⟩ := hown2.rs; (rw [List.length_map] at hv2); subst hv2; have HA2 := Lib.hid (own_off hown2 (m := w.heap.size) (by first | omega | (simp; done) | (simp; omega))); have H2 := Lib.hid hrs2; clear hown2 hrs2 hfm2; obtain ⟨fc2, fg2, hc2, hf2, hz2⟩ := bget hb2; (try simp at hz2)) | fail)
    go_wp2_with fail
    go_ret2
    exact ⟨_, [], rfl, HL.out.symm, Own.nil _ _ _ _, fun y hy => absurd hy (by simp), fun g hg y hy => absurd hy (by simp), by (repeat' (first | (with_reducible exact Below.refl _ _) | (with_reducible assumption) | (with_reducible refine Below.alloc ?_ ?_ _) | (with_reducible refine Below.setCell ?_ ?_ _) | (with_reducible refine Below.drew ?_) | (with_reducible refine below_drewN ?_ _) | (with_reducible refine below_via ?_ (by with_reducible assumption) ?_) | omega | (simp; done) | (simp; omega)))⟩
  · obtain rfl : code = 0 := by simpa using h0
    have HL := Lib.hid (show R = withK (l.map lgHoldV) u P from hL')
    have CT := Lib.hid (ct (isK_facts hi).1)
    clear ci ct hi hL hL' h0
    go_enter Try.func67, Try.ntmps67
    go_wp2_with (first | (go_at_call 59; (with_reducible refine (CI.out _ (by (repeat' (first | (with_reducible exact Below.refl _ _) | (with_reducible assumption) | (with_reducible refine Below.alloc ?_ ?_ _) | (with_reducible refine Below.setCell ?_ ?_ _) | (with_reducible refine Below.drew ?_) | (with_reducible refine below_drewN ?_ _) | (with_reducible refine below_via ?_ (by with_reducible assumption) ?_) | omega | (simp; done) | (simp; omega))))).mono ?_); rintro e w9 ⟨rfl, hb9⟩; obtain ⟨fc9, fg9, hc9, hf9, hz9⟩ := bget hb9; (try simp at hz9)) | fail)
    go_region_held3 (fun w' => (w'.cell? ⟨w.heap.size, 0, none⟩ = some (.int .i64 u.acc) ∧ w'.cell? ⟨w.heap.size, 1, none⟩ = some (.int .i64 u.cli)) ∧ (w'.cell? ⟨w.heap.size + 1, 0, none⟩ = some (.int .i64 x.asset) ∧ w'.cell? ⟨w.heap.size + 1, 1, none⟩ = some (.int .i64 x.tag) ∧ w'.cell? ⟨w.heap.size + 1, 2, none⟩ = some (.int .i64 x.qty))) (first | (simp [go_sem]; done) | (repeat' (first | (with_reducible assumption) | (with_reducible refine And.intro ?_ ?_) | (with_reducible refine cell_drew ?_) | (with_reducible refine cell_via (by with_reducible assumption) ?_ ?_) | (simp [*]; done) | (simp [go_sem]; done) | (with_reducible refine cell_alloc ?_ ?_) | (with_reducible refine cell_set_far ?_ ?_) | omega | (simp; omega)))) (first | (go_at_call 62; (with_reducible refine (CO.out _ (by (repeat' (first | (with_reducible exact Below.refl _ _) | (with_reducible assumption) | (with_reducible refine Below.alloc ?_ ?_ _) | (with_reducible refine Below.setCell ?_ ?_ _) | (with_reducible refine Below.drew ?_) | (with_reducible refine below_drewN ?_ _) | (with_reducible refine below_via ?_ (by with_reducible assumption) ?_) | omega | (simp; done) | (simp; omega))))).mono ?_); rintro e w1 ⟨A1, c1, rfl, hrs1, hb1⟩; have H1 := Lib.hid hrs1; clear hrs1; obtain ⟨fc1, fg1, hc1, hf1, hz1⟩ := bget hb1; (try simp at hz1)) | (go_at_call 120; (with_reducible refine (CP.out _ _ _ (H1.out.keep (by (repeat' (first | (with_reducible exact Below.refl _ _) | (with_reducible assumption) | (with_reducible refine Below.alloc ?_ ?_ _) | (with_reducible refine Below.setCell ?_ ?_ _) | (with_reducible refine Below.drew ?_) | (with_reducible refine below_drewN ?_ _) | (with_reducible refine below_via ?_ (by with_reducible assumption) ?_) | omega | (simp; done) | (simp; omega)))))).mono ?_); rintro e w2 ⟨v2, rfl, hown2, hb2⟩; obtain ⟨A2, c2, hv2, hrs2, hfm2⟩ := hown2.rs; (rw [List.length_map] at hv2); subst hv2; have HA2 := Lib.hid (own_off hown2 (m := w.heap.size) (by first | omega | (simp; done) | (simp; omega))); have H2 := Lib.hid hrs2; clear hown2 hrs2 hfm2; obtain ⟨fc2, fg2, hc2, hf2, hz2⟩ := bget hb2; (try simp at hz2)) | fail)
    go_wp2_with (first | (go_at_call 92; (with_reducible refine (CT.out _ _ _ HA2.out (by (repeat' (first | (with_reducible exact Below.refl _ _) | (with_reducible assumption) | (with_reducible refine Below.alloc ?_ ?_ _) | (with_reducible refine Below.setCell ?_ ?_ _) | (with_reducible refine Below.drew ?_) | (with_reducible refine below_drewN ?_ _) | (with_reducible refine below_via ?_ (by with_reducible assumption) ?_) | omega | (simp; done) | (simp; omega)))) (H2.out.keep (by (repeat' (first | (with_reducible exact Below.refl _ _) | (with_reducible assumption) | (with_reducible refine Below.alloc ?_ ?_ _) | (with_reducible refine Below.setCell ?_ ?_ _) | (with_reducible refine Below.drew ?_) | (with_reducible refine below_drewN ?_ _) | (with_reducible refine below_via ?_ (by with_reducible assumption) ?_) | omega | (simp; done) | (simp; omega)))))).mono ?_); rintro e w3 ⟨v3, ys, rfl, hlg, hown, hgd, hof3, hb3⟩; have HF3 := Lib.hid hof3; have HLG := Lib.hid hlg; have HO3 := Lib.hid hown; have HG3 := Lib.hid hgd; clear hlg hown hgd hof3; obtain ⟨fc3, fg3, hc3, hf3, hz3⟩ := bget hb3; (try simp at hz3)) | fail)
    go_ret2
    exact ⟨_, ys, rfl, HLG.out.trans HL.out.symm, HO3.out.mono (by first | omega | (simp; done) | (simp; omega)), HG3.out, HF3.out, by (repeat' (first | (with_reducible exact Below.refl _ _) | (with_reducible assumption) | (with_reducible refine Below.alloc ?_ ?_ _) | (with_reducible refine Below.setCell ?_ ?_ _) | (with_reducible refine Below.drew ?_) | (with_reducible refine below_drewN ?_ _) | (with_reducible refine below_via ?_ (by with_reducible assumption) ?_) | omega | (simp; done) | (simp; omega)))⟩
theorem ref26Take (l : List HoldV) (u : Un) (x : Lot) (A : Option Addr) (c : Nat) (w : World) (hl : l.length ≤ 2000) (hq : LQ (l.map lgHoldV)) (hx : In64 x.qty) (hr : Rs w 3 (l.map encHoldV) A c) (hform : (A = none ∧ l = [] ∧ c = 0) ∨ ∃ b o, A = some ⟨b, o, none⟩) (hg : ∀ x ∈ l, GoodHoldV w x) :
    Calls Try.prog 67 #[.slice A l.length c, .agg #[.int .i64 u.acc, .int .i64 u.cli], .agg #[.int .i64 x.asset, .int .i64 x.tag, .int .i64 x.qty]] w (HoldPost w (tkHL (l.map lgHoldV) u x) (tkHC (l.map lgHoldV) u x)) :=
  (ref26TakeS (fun _ => False) l u x A c w (fun _ h => h.elim) hl hq hx hr hform hg).mono fun _ _ h => h.less
set_option maxRecDepth 100000 in
set_option maxHeartbeats 8000000 in
theorem ref26Set (l : List HoldV) (u : Un) (all : List Lot) (A B : Option Addr) (c d : Nat) (w : World) (hl : l.length ≤ 2000) (hal : all.length ≤ 1000000) (hr : Rs w 3 (l.map encHoldV) A c) (hform : (A = none ∧ l = [] ∧ c = 0) ∨ ∃ b o, A = some ⟨b, o, none⟩) (hg : ∀ x ∈ l, GoodHoldV w x) (hrl : Rs w 3 (all.map encLot) B d) :
    Calls Try.prog 69 #[.slice A l.length c, .agg #[.int .i64 u.acc, .int .i64 u.cli], .slice B all.length d] w (HoldPost w (stL (l.map lgHoldV) u all) (stC (l.map lgHoldV) all)) := by
  have ci := fun W (h : Below w.heap.size w W) => refHoldVIs l A c W (by omega) (hr.keep h).rd (fun y hy => (hg y hy).keep h)
  rw [show isHoldV l = isK isL (l.map lgHoldV) from rfl] at ci
  have cj := fun W (h : Below w.heap.size w W) => ref18Is all B d W hal (hrl.keep h).rd
  have ct := fun (hs : SortK (l.map lgHoldV)) W A2 c2 (h : Below w.heap.size w W) (h2 : Rs W 3 (all.map encLot) A2 c2) => ref26With l u all A A2 c c2 W hl hal hs (hr.keep h) hform (fun y hy => (hg y hy).keep h) h2
  have H2 := Lib.hid hrl
  cases hi : isK isL (l.map lgHoldV)
  · rw [hi] at ci
    have hc : stC (l.map lgHoldV) all = 3 := by unfold stC; rw [hi]; rfl
    have HL := Lib.hid (show stL (l.map lgHoldV) u all = [] from by unfold stL; rw [hc]; rfl)
    rw [hc]
    have CI := Lib.hid ci
    clear hr hg hrl ci cj ct hi hc hform
    go_enter Try.func69, Try.ntmps69
    go_wp2_with (first | (go_at_call 59; (with_reducible refine (CI.out _ (by (repeat' (first | (with_reducible exact Below.refl _ _) | (with_reducible assumption) | (with_reducible refine Below.alloc ?_ ?_ _) | (with_reducible refine Below.setCell ?_ ?_ _) | (with_reducible refine Below.drew ?_) | (with_reducible refine below_drewN ?_ _) | (with_reducible refine below_via ?_ (by with_reducible assumption) ?_) | omega | (simp; done) | (simp; omega))))).mono ?_); rintro e w9 ⟨rfl, hb9⟩; obtain ⟨fc9, fg9, hc9, hf9, hz9⟩ := bget hb9; (try simp at hz9)) | fail)
    go_ret2
    exact ⟨_, [], rfl, HL.out.symm, Own.nil _ _ _ _, fun y hy => absurd hy (by simp), by (repeat' (first | (with_reducible exact Below.refl _ _) | (with_reducible assumption) | (with_reducible refine Below.alloc ?_ ?_ _) | (with_reducible refine Below.setCell ?_ ?_ _) | (with_reducible refine Below.drew ?_) | (with_reducible refine below_drewN ?_ _) | (with_reducible refine below_via ?_ (by with_reducible assumption) ?_) | omega | (simp; done) | (simp; omega)))⟩
  rw [hi] at ci
  have CI := Lib.hid ci
  cases hj : isL all
  · rw [hj] at cj
    have hc : stC (l.map lgHoldV) all = 3 := by unfold stC; rw [hi, hj]; rfl
    have HL := Lib.hid (show stL (l.map lgHoldV) u all = [] from by unfold stL; rw [hc]; rfl)
    rw [hc]
    have CJ := Lib.hid cj
    clear hr hg hrl ci cj ct hi hj hc hform
    go_enter Try.func69, Try.ntmps69
    go_wp2_with (first | (go_at_call 59; (with_reducible refine (CI.out _ (by (repeat' (first | (with_reducible exact Below.refl _ _) | (with_reducible assumption) | (with_reducible refine Below.alloc ?_ ?_ _) | (with_reducible refine Below.setCell ?_ ?_ _) | (with_reducible refine Below.drew ?_) | (with_reducible refine below_drewN ?_ _) | (with_reducible refine below_via ?_ (by with_reducible assumption) ?_) | omega | (simp; done) | (simp; omega))))).mono ?_); rintro e w9 ⟨rfl, hb9⟩; obtain ⟨fc9, fg9, hc9, hf9, hz9⟩ := bget hb9; (try simp at hz9)) | (go_at_call 113; (with_reducible refine (CJ.out _ (by (repeat' (first | (with_reducible exact Below.refl _ _) | (with_reducible assumption) | (with_reducible refine Below.alloc ?_ ?_ _) | (with_reducible refine Below.setCell ?_ ?_ _) | (with_reducible refine Below.drew ?_) | (with_reducible refine below_drewN ?_ _) | (with_reducible refine below_via ?_ (by with_reducible assumption) ?_) | omega | (simp; done) | (simp; omega))))).mono ?_); rintro e w2 ⟨rfl, hb2⟩; obtain ⟨fc2, fg2, hc2, hf2, hz2⟩ := bget hb2; (try simp at hz2)) | fail)
    go_ret2
    exact ⟨_, [], rfl, HL.out.symm, Own.nil _ _ _ _, fun y hy => absurd hy (by simp), by (repeat' (first | (with_reducible exact Below.refl _ _) | (with_reducible assumption) | (with_reducible refine Below.alloc ?_ ?_ _) | (with_reducible refine Below.setCell ?_ ?_ _) | (with_reducible refine Below.drew ?_) | (with_reducible refine below_drewN ?_ _) | (with_reducible refine below_via ?_ (by with_reducible assumption) ?_) | omega | (simp; done) | (simp; omega)))⟩
  · rw [hj] at cj
    have hc : stC (l.map lgHoldV) all = 0 := by unfold stC; rw [hi, hj]; rfl
    have HL := Lib.hid (show stL (l.map lgHoldV) u all = withK (l.map lgHoldV) u all from by unfold stL; rw [hc]; rfl)
    rw [hc]
    have CJ := Lib.hid cj
    have CT := Lib.hid (ct (isK_facts hi).1)
    clear hr hg hrl ci cj ct hi hj hc hform
    go_enter Try.func69, Try.ntmps69
    go_wp2_with (first | (go_at_call 59; (with_reducible refine (CI.out _ (by (repeat' (first | (with_reducible exact Below.refl _ _) | (with_reducible assumption) | (with_reducible refine Below.alloc ?_ ?_ _) | (with_reducible refine Below.setCell ?_ ?_ _) | (with_reducible refine Below.drew ?_) | (with_reducible refine below_drewN ?_ _) | (with_reducible refine below_via ?_ (by with_reducible assumption) ?_) | omega | (simp; done) | (simp; omega))))).mono ?_); rintro e w9 ⟨rfl, hb9⟩; obtain ⟨fc9, fg9, hc9, hf9, hz9⟩ := bget hb9; (try simp at hz9)) | (go_at_call 113; (with_reducible refine (CJ.out _ (by (repeat' (first | (with_reducible exact Below.refl _ _) | (with_reducible assumption) | (with_reducible refine Below.alloc ?_ ?_ _) | (with_reducible refine Below.setCell ?_ ?_ _) | (with_reducible refine Below.drew ?_) | (with_reducible refine below_drewN ?_ _) | (with_reducible refine below_via ?_ (by with_reducible assumption) ?_) | omega | (simp; done) | (simp; omega))))).mono ?_); rintro e w2 ⟨rfl, hb2⟩; obtain ⟨fc2, fg2, hc2, hf2, hz2⟩ := bget hb2; (try simp at hz2)) | (go_at_call 92; (with_reducible refine (CT.out _ _ _ (by (repeat' (first | (with_reducible exact Below.refl _ _) | (with_reducible assumption) | (with_reducible refine Below.alloc ?_ ?_ _) | (with_reducible refine Below.setCell ?_ ?_ _) | (with_reducible refine Below.drew ?_) | (with_reducible refine below_drewN ?_ _) | (with_reducible refine below_via ?_ (by with_reducible assumption) ?_) | omega | (simp; done) | (simp; omega)))) (H2.out.keep (by (repeat' (first | (with_reducible exact Below.refl _ _) | (with_reducible assumption) | (with_reducible refine Below.alloc ?_ ?_ _) | (with_reducible refine Below.setCell ?_ ?_ _) | (with_reducible refine Below.drew ?_) | (with_reducible refine below_drewN ?_ _) | (with_reducible refine below_via ?_ (by with_reducible assumption) ?_) | omega | (simp; done) | (simp; omega)))))).mono ?_); rintro e w3 ⟨v3, ys, rfl, hlg, hown, hgd, hb3⟩; have HLG := Lib.hid hlg; have HO3 := Lib.hid hown; have HG3 := Lib.hid hgd; clear hlg hown hgd; obtain ⟨fc3, fg3, hc3, hf3, hz3⟩ := bget hb3; (try simp at hz3)) | fail)
    go_ret2
    exact ⟨_, ys, rfl, HLG.out.trans HL.out.symm, HO3.out.mono (by first | omega | (simp; done) | (simp; omega)), HG3.out, by (repeat' (first | (with_reducible exact Below.refl _ _) | (with_reducible assumption) | (with_reducible refine Below.alloc ?_ ?_ _) | (with_reducible refine Below.setCell ?_ ?_ _) | (with_reducible refine Below.drew ?_) | (with_reducible refine below_drewN ?_ _) | (with_reducible refine below_via ?_ (by with_reducible assumption) ?_) | omega | (simp; done) | (simp; omega)))⟩
end Go.Proofs.Ytiidplinmempcaa
