/- Joined: InstL7, Frame, Open, IntsOpen, InstOpen. -/
import Derived.Test.YtpjehhkmdndcmaaJz13
import Derived.Test.YtpjehhkmdndcmaaJz1
import Derived.Test.YtpjehhkmdndcmaaJz5
import Derived.Test.YtpjehhkmdndcmaaChecked
import Derived.ProofKit
import Derived.Lib.SmallJoins
import Derived.Deep.Slices
/- Layer 13's laws: InstTables' walk. -/
namespace Go.Proofs.Ytpjehhkmdndcmaa
open Go.RowKit
theorem val_bound {ys l : List InstV} (h : ys.map lgI = l.map lgI) (hb : ∀ x ∈ l, x.moves.val.length ≤ 12) : ∀ y ∈ ys, y.moves.val.length ≤ 12 := by
  intro y hy
  have h1 : lgI y ∈ l.map lgI := by rw [← h]; exact List.mem_map.2 ⟨y, hy, rfl⟩
  obtain ⟨x, hx, he⟩ := List.mem_map.1 h1
  have := (lg_eq he).2.2.2.2
  rw [← this]
  exact hb x hx
theorem ref13SameOneZ (z : InstV) (B : Option Addr) (d : Nat) (w : World) (hl : z.moves.val.length ≤ 1048576) (hr : Rs w 1 (z.moves.val.map encI) B d) (hg : GoodI w z) :
    Calls Try.prog 44 #[.agg #[.int .i64 z.id, .int .i64 z.mult, .int .i64 z.price, .int .i64 z.next, .slice B z.moves.val.length d], .agg #[.int .i64 z.id, .int .i64 z.mult, .int .i64 z.price, .int .i64 z.next, .slice z.moves.A z.moves.val.length z.moves.c]] w fun e w' => e = .returned (.bool true) ∧ Below w.heap.size w w' :=
  ref13SameOne ⟨z.id, z.mult, z.price, z.next, ⟨B, d, z.moves.val⟩⟩ z.moves.A z.moves.c w hl hr hg
theorem tab_rd {w : World} {L : List Inst} {code : Int} {e : Ending} {w' : World} (h : InstPost w L code e w') : ∃ (ys : List InstV) (A : Option Addr) (c : Nat), e = .returned (.tuple #[.slice A ys.length c, .int .i64 code]) ∧ ys.map lgI = L ∧ Rs w' 5 (ys.map encInstV) A c ∧ (∀ y ∈ ys, GoodI w' y) ∧ Below w.heap.size w w' := by
  obtain ⟨v, ys, rfl, hl, hown, hg, hb⟩ := h
  obtain ⟨A, c, rfl, hrs, _⟩ := own_formInstV hown
  exact ⟨ys, A, c, rfl, hl, hrs, hg, hb⟩
theorem tab_rd1 {w : World} {L : List Inst} {e : Ending} {w' : World} (h : InstPost1 w L e w') : ∃ (ys : List InstV) (A : Option Addr) (c : Nat), e = .returned (.slice A ys.length c) ∧ ys.map lgI = L ∧ Rs w' 5 (ys.map encInstV) A c ∧ (∀ y ∈ ys, GoodI w' y) ∧ Below w.heap.size w w' := by
  obtain ⟨v, ys, rfl, hl, hown, hg, hb⟩ := h
  obtain ⟨A, c, rfl, hrs, _⟩ := own_formInstV hown
  exact ⟨ys, A, c, rfl, hl, hrs, hg, hb⟩
theorem putInst_rd {ob : Bool} {w : World} {l : List InstV} {m : InstV} {e : Ending} {w' : World} (h : PutInstVPost ob w l m e w') : ∃ A c, e = .returned (.tuple #[.slice A (putInstVL ob l m).length c, .int .i64 (putInstVC ob l m)]) ∧ Rs w' 5 ((putInstVL ob l m).map encInstV) A c ∧ Below w.heap.size w w' := by
  obtain ⟨v, rfl, hown, hb⟩ := h
  obtain ⟨A, c, rfl, hrs, _⟩ := own_formInstV hown
  exact ⟨A, c, rfl, hrs, hb⟩
theorem nextInst_rd {w : World} {l : List InstV} {id p : Int} {e : Ending} {w' : World} (h : NextPost w l id p e w') : ∃ A c, e = .returned (.tuple #[.slice A (nextL l id p).length c, .int .i64 (nextC l id p)]) ∧ Rs w' 5 ((nextL l id p).map encInstV) A c ∧ Below w.heap.size w w' := by
  obtain ⟨v, rfl, hown, hb⟩ := h
  obtain ⟨A, c, rfl, hrs, _⟩ := own_formInstV hown
  exact ⟨A, c, rfl, hrs, hb⟩
/-- What holds of a table wherever it is read. -/
structure TabOk (w : World) (t : List InstV) : Prop where
  good : ∀ x ∈ t, GoodI w x
  few : ∀ x ∈ t, x.moves.val.length ≤ 12
  len : t.length ≤ 12
theorem TabOk.both {w W : World} {t : List InstV} (h : TabOk w t) (hb : Below w.heap.size w W) : ∀ x ∈ t, x.moves.val.length ≤ 1048576 ∧ GoodI W x := fun x hx => ⟨by have := h.few x hx; omega, (h.good x hx).keep hb⟩
theorem TabOk.at {w W : World} {t : List InstV} (h : TabOk w t) (hb : Below w.heap.size w W) : ∀ x ∈ t, GoodI W x := fun x hx => (h.good x hx).keep hb
theorem same_ys {w : World} {ys l : List InstV} (h : ys.map lgI = l.map lgI) (hg : ∀ y ∈ ys, GoodI w y) (ho : ∀ x ∈ l, x.moves.val.length ≤ 12) : ∀ y ∈ ys, y.moves.val.length ≤ 1048576 ∧ GoodI w y := fun y hy => ⟨by have := val_bound h ho y hy; omega, hg y hy⟩
theorem same_len {ys l : List InstV} (h : ys.map lgI = l.map lgI) (hl : l.length ≤ 12) : ys.length ≤ 12 := by
  have := congrArg List.length h
  simp only [List.length_map] at this
  omega
set_option maxRecDepth 100000 in
set_option maxHeartbeats 32000000 in
theorem instTablesAt (l0 fl t st : List InstV) (x0 m : InstV) (id p : Int) (ob fb : Bool) (fz : InstV) (code : Int) (A : Option Addr) (c : Nat) (w : World)
    (hcode : code = if ob then 0 else 2)
    (c20 : ∀ W, Below w.heap.size w W → Calls Try.prog 11 #[.agg #[.int .i64 x0.id, .int .i64 x0.mult, .int .i64 x0.price, .int .i64 x0.next, .slice x0.moves.A x0.moves.val.length x0.moves.c]] W fun e w' => e = .returned (.agg #[.int .i64 m.id, .int .i64 m.mult, .int .i64 m.price, .int .i64 m.next, .slice m.moves.A m.moves.val.length m.moves.c]) ∧ Below W.heap.size W w')
    (c21 : ∀ W, Below w.heap.size w W → Calls Try.prog 35 #[.slice A l0.length c] W fun e w' => ∃ v, e = .returned v ∧ Own w' W.heap.size 24 5 v (fl.map encInstV) ∧ Below W.heap.size W w')
    (c22 : ∀ W A c, Rs W 5 (fl.map encInstV) A c → Below w.heap.size w W → Calls Try.prog 34 #[.slice A fl.length c] W fun e w' => ∃ v, e = .returned v ∧ Own w' W.heap.size 24 5 v (t.map encInstV) ∧ Below W.heap.size W w')
    (ck : ∀ W, Below w.heap.size w W → Calls Try.prog 36 #[.agg #[.int .i64 m.id, .int .i64 m.mult, .int .i64 m.price, .int .i64 m.next, .slice m.moves.A m.moves.val.length m.moves.c]] W fun e w' => e = .returned (.int .i64 code) ∧ Below W.heap.size W w')
    (ci : ∀ W, Below w.heap.size w W → Calls Try.prog 17 #[.agg #[.int .i64 m.id, .int .i64 m.mult, .int .i64 m.price, .int .i64 m.next, .slice m.moves.A m.moves.val.length m.moves.c]] W fun e w' => e = .returned (.bool ob) ∧ Below W.heap.size W w')
    (cp : ∀ W A c, Rs W 5 (t.map encInstV) A c → Below w.heap.size w W → Calls Try.prog 37 #[.slice A t.length c, .agg #[.int .i64 m.id, .int .i64 m.mult, .int .i64 m.price, .int .i64 m.next, .slice m.moves.A m.moves.val.length m.moves.c]] W (InstPost W ((putInstVL ob t m).map lgI) (putInstVC ob t m)))
    (crp : ∀ W A c, Rs W 5 (t.map encInstV) A c → ((A = none ∧ t = [] ∧ c = 0) ∨ ∃ b o, A = some ⟨b, o, none⟩) → Below w.heap.size w W → Calls Try.prog 38 #[.slice A t.length c, .agg #[.int .i64 m.id, .int .i64 m.mult, .int .i64 m.price, .int .i64 m.next, .slice m.moves.A m.moves.val.length m.moves.c]] W (PutInstVPost ob W t m))
    (cn : ∀ W A c, Rs W 5 (t.map encInstV) A c → Below w.heap.size w W → Calls Try.prog 39 #[.slice A t.length c, .int .i64 id, .int .i64 p] W (InstPost W ((nextL t id p).map lgI) (nextC t id p)))
    (crn : ∀ W A c, Rs W 5 (t.map encInstV) A c → Calls Try.prog 40 #[.slice A t.length c, .int .i64 id, .int .i64 p] W (NextPost W t id p))
    (cf : ∀ W A c, Rd W A 5 (t.map encInstV) → Below w.heap.size w W → Calls Try.prog 41 #[.slice A t.length c, .int .i64 id] W fun e w' => ∃ y : InstV, e = .returned (.tuple #[.agg #[.int .i64 y.id, .int .i64 y.mult, .int .i64 y.price, .int .i64 y.next, .slice y.moves.A y.moves.val.length y.moves.c], .bool fb]) ∧ lgI y = lgI fz ∧ GoodI w' y ∧ Below W.heap.size W w')
    (crf : ∀ W A c, Rd W A 5 (t.map encInstV) → Calls Try.prog 42 #[.slice A t.length c, .int .i64 id] W fun e w' => e = .returned (.tuple #[.agg #[.int .i64 fz.id, .int .i64 fz.mult, .int .i64 fz.price, .int .i64 fz.next, .slice fz.moves.A fz.moves.val.length fz.moves.c], .bool fb]) ∧ Below W.heap.size W w')
    (cs : ∀ W A c, Rs W 5 (t.map encInstV) A c → Below w.heap.size w W → Calls Try.prog 45 #[.slice A t.length c] W (InstPost1 W (st.map lgI)))
    (crs : ∀ W A c, Rs W 5 (t.map encInstV) A c → Calls Try.prog 46 #[.slice A t.length c] W fun e w' => ∃ v, e = .returned v ∧ Own w' W.heap.size 24 5 v (st.map encInstV) ∧ Below W.heap.size W w')
    (tp : TabOk w (putInstVL ob t m)) (tn : TabOk w (nextL t id p)) (ts : TabOk w st) (hz : ∀ W, Below w.heap.size w W → GoodI W fz) (hzl : fz.moves.val.length ≤ 1048576) :
    Calls Try.prog 9 #[.slice A l0.length c, .agg #[.int .i64 x0.id, .int .i64 x0.mult, .int .i64 x0.price, .int .i64 x0.next, .slice x0.moves.A x0.moves.val.length x0.moves.c], .int .i64 id, .int .i64 p] w fun e w' => e = .returned (.bool true) ∧ Below w.heap.size w w' := by
  have C20 := Lib.hid c20
  have C21 := Lib.hid c21
  have C22 := Lib.hid c22
  have CK := Lib.hid ck
  have CI := Lib.hid ci
  have CP := Lib.hid cp
  have CRP := Lib.hid crp
  have CN := Lib.hid cn
  have CRN := Lib.hid crn
  have CF := Lib.hid cf
  have CRF := Lib.hid crf
  have CS := Lib.hid cs
  have CRS := Lib.hid crs
  have TP := Lib.hid tp
  have TN := Lib.hid tn
  have TS := Lib.hid ts
  have HZ := Lib.hid hz
  have HZL := Lib.hid hzl
  clear c20 c21 c22 ck ci cp crp cn crn cf crf cs crs tp tn ts hz hzl
  cases ob
  all_goals
    (first | simp only [if_true] at hcode | simp only [if_false, Bool.false_eq_true] at hcode)
    subst hcode
    go_enter Try.func9, Try.ntmps9
    go_wp2_with (first | (go_at_call 11; (with_reducible refine (C20.out _ (by (repeat' (first | (with_reducible exact Below.refl _ _) | (with_reducible assumption) | (with_reducible refine Below.alloc ?_ ?_ _) | (with_reducible refine Below.setCell ?_ ?_ _) | (with_reducible refine Below.drew ?_) | (with_reducible refine below_drewN ?_ _) | (with_reducible refine below_via ?_ (by with_reducible assumption) ?_) | omega | (simp; done) | (simp; omega))))).mono ?_); rintro e w1 ⟨rfl, hb1⟩; obtain ⟨fc1, fg1, hc1, hf1, hz1⟩ := bget hb1; (try simp at hz1)) | (go_at_call 35; (with_reducible refine (C21.out _ (by (repeat' (first | (with_reducible exact Below.refl _ _) | (with_reducible assumption) | (with_reducible refine Below.alloc ?_ ?_ _) | (with_reducible refine Below.setCell ?_ ?_ _) | (with_reducible refine Below.drew ?_) | (with_reducible refine below_drewN ?_ _) | (with_reducible refine below_via ?_ (by with_reducible assumption) ?_) | omega | (simp; done) | (simp; omega))))).mono ?_); rintro e w2 ⟨v2, rfl, hown2, hb2⟩; obtain ⟨A2, c2, rfl, hrs2, _⟩ := own_formInstV hown2; have H2 := Lib.hid hrs2; clear hown2 hrs2; obtain ⟨fc2, fg2, hc2, hf2, hz2⟩ := bget hb2; (try simp at hz2)) | (go_at_call 34; (with_reducible refine (C22.out _ _ _ (H2.out.keep (by (repeat' (first | (with_reducible exact Below.refl _ _) | (with_reducible assumption) | (with_reducible refine Below.alloc ?_ ?_ _) | (with_reducible refine Below.setCell ?_ ?_ _) | (with_reducible refine Below.drew ?_) | (with_reducible refine below_drewN ?_ _) | (with_reducible refine below_via ?_ (by with_reducible assumption) ?_) | omega | (simp; done) | (simp; omega))))) (by (repeat' (first | (with_reducible exact Below.refl _ _) | (with_reducible assumption) | (with_reducible refine Below.alloc ?_ ?_ _) | (with_reducible refine Below.setCell ?_ ?_ _) | (with_reducible refine Below.drew ?_) | (with_reducible refine below_drewN ?_ _) | (with_reducible refine below_via ?_ (by with_reducible assumption) ?_) | omega | (simp; done) | (simp; omega))))).mono ?_); rintro e w3 ⟨v3, rfl, hown3, hb3⟩; obtain ⟨A3, c3, rfl, hrs3, hfo3⟩ := own_formInstV hown3; have HO3 := Lib.hid hown3; have HF3 := Lib.hid hfo3; clear hown3 hrs3 hfo3; obtain ⟨fc3, fg3, hc3, hf3, hz3⟩ := bget hb3; (try simp at hz3)) | fail)
    have hlt : w.heap.size < w2.heap.size := by omega
    have hown := ((((HO3.out.farLow (p := ⟨w.heap.size, 0, none⟩) hlt (.int .i64 m.id)).farLow (p := ⟨w.heap.size, 1, none⟩) hlt (.int .i64 m.mult)).farLow (p := ⟨w.heap.size, 2, none⟩) hlt (.int .i64 m.price)).farLow (p := ⟨w.heap.size, 3, none⟩) hlt (.int .i64 m.next)).farLow (p := ⟨w.heap.size, 4, none⟩) hlt (.slice m.moves.A m.moves.val.length m.moves.c)
    have k0 : (((((w3.setCell ⟨w.heap.size, 0, none⟩ (.int .i64 m.id)).setCell ⟨w.heap.size, 1, none⟩ (.int .i64 m.mult)).setCell ⟨w.heap.size, 2, none⟩ (.int .i64 m.price)).setCell ⟨w.heap.size, 3, none⟩ (.int .i64 m.next)).setCell ⟨w.heap.size, 4, none⟩ (.slice m.moves.A m.moves.val.length m.moves.c)).cell? ⟨w.heap.size, 0, none⟩ = some (.int .i64 m.id) := by simp [hc3, hc2, hc1, go_sem, ↓IntWalk.iteOmega]
    have k1 : (((((w3.setCell ⟨w.heap.size, 0, none⟩ (.int .i64 m.id)).setCell ⟨w.heap.size, 1, none⟩ (.int .i64 m.mult)).setCell ⟨w.heap.size, 2, none⟩ (.int .i64 m.price)).setCell ⟨w.heap.size, 3, none⟩ (.int .i64 m.next)).setCell ⟨w.heap.size, 4, none⟩ (.slice m.moves.A m.moves.val.length m.moves.c)).cell? ⟨w.heap.size, 1, none⟩ = some (.int .i64 m.mult) := by simp [hc3, hc2, hc1, go_sem, ↓IntWalk.iteOmega]
    have k2 : (((((w3.setCell ⟨w.heap.size, 0, none⟩ (.int .i64 m.id)).setCell ⟨w.heap.size, 1, none⟩ (.int .i64 m.mult)).setCell ⟨w.heap.size, 2, none⟩ (.int .i64 m.price)).setCell ⟨w.heap.size, 3, none⟩ (.int .i64 m.next)).setCell ⟨w.heap.size, 4, none⟩ (.slice m.moves.A m.moves.val.length m.moves.c)).cell? ⟨w.heap.size, 2, none⟩ = some (.int .i64 m.price) := by simp [hc3, hc2, hc1, go_sem, ↓IntWalk.iteOmega]
    have k3 : (((((w3.setCell ⟨w.heap.size, 0, none⟩ (.int .i64 m.id)).setCell ⟨w.heap.size, 1, none⟩ (.int .i64 m.mult)).setCell ⟨w.heap.size, 2, none⟩ (.int .i64 m.price)).setCell ⟨w.heap.size, 3, none⟩ (.int .i64 m.next)).setCell ⟨w.heap.size, 4, none⟩ (.slice m.moves.A m.moves.val.length m.moves.c)).cell? ⟨w.heap.size, 3, none⟩ = some (.int .i64 m.next) := by simp [hc3, hc2, hc1, go_sem, ↓IntWalk.iteOmega]
    have k4 : (((((w3.setCell ⟨w.heap.size, 0, none⟩ (.int .i64 m.id)).setCell ⟨w.heap.size, 1, none⟩ (.int .i64 m.mult)).setCell ⟨w.heap.size, 2, none⟩ (.int .i64 m.price)).setCell ⟨w.heap.size, 3, none⟩ (.int .i64 m.next)).setCell ⟨w.heap.size, 4, none⟩ (.slice m.moves.A m.moves.val.length m.moves.c)).cell? ⟨w.heap.size, 4, none⟩ = some (.slice m.moves.A m.moves.val.length m.moves.c) := by simp [hc3, hc2, hc1, go_sem, ↓IntWalk.iteOmega]
    have hbx : Below w.heap.size w (((((w3.setCell ⟨w.heap.size, 0, none⟩ (.int .i64 m.id)).setCell ⟨w.heap.size, 1, none⟩ (.int .i64 m.mult)).setCell ⟨w.heap.size, 2, none⟩ (.int .i64 m.price)).setCell ⟨w.heap.size, 3, none⟩ (.int .i64 m.next)).setCell ⟨w.heap.size, 4, none⟩ (.slice m.moves.A m.moves.val.length m.moves.c)) := by (repeat' (first | (with_reducible exact Below.refl _ _) | (with_reducible assumption) | (with_reducible refine Below.alloc ?_ ?_ _) | (with_reducible refine Below.setCell ?_ ?_ _) | (with_reducible refine Below.drew ?_) | (with_reducible refine below_drewN ?_ _) | (with_reducible refine below_via ?_ (by with_reducible assumption) ?_) | omega | (simp; done) | (simp; omega)))
    have hsx : w.heap.size < (((((w3.setCell ⟨w.heap.size, 0, none⟩ (.int .i64 m.id)).setCell ⟨w.heap.size, 1, none⟩ (.int .i64 m.mult)).setCell ⟨w.heap.size, 2, none⟩ (.int .i64 m.price)).setCell ⟨w.heap.size, 3, none⟩ (.int .i64 m.next)).setCell ⟨w.heap.size, 4, none⟩ (.slice m.moves.A m.moves.val.length m.moves.c)).heap.size := by simp; omega
    generalize (((((w3.setCell ⟨w.heap.size, 0, none⟩ (.int .i64 m.id)).setCell ⟨w.heap.size, 1, none⟩ (.int .i64 m.mult)).setCell ⟨w.heap.size, 2, none⟩ (.int .i64 m.price)).setCell ⟨w.heap.size, 3, none⟩ (.int .i64 m.next)).setCell ⟨w.heap.size, 4, none⟩ (.slice m.moves.A m.moves.val.length m.moves.c)) = wx at *
    have H3 := Lib.hid (show Rs wx 5 (t.map encInstV) A3 c3 from by have := hown.good; exact this)
    clear hown HO3
    go_region_held3 (fun w' => w'.cell? ⟨w.heap.size, 0, none⟩ = some (.int .i64 m.id) ∧ w'.cell? ⟨w.heap.size, 1, none⟩ = some (.int .i64 m.mult) ∧ w'.cell? ⟨w.heap.size, 2, none⟩ = some (.int .i64 m.price) ∧ w'.cell? ⟨w.heap.size, 3, none⟩ = some (.int .i64 m.next) ∧ w'.cell? ⟨w.heap.size, 4, none⟩ = some (.slice m.moves.A m.moves.val.length m.moves.c)) (first | (simp [go_sem]; done) | (repeat' (first | (with_reducible assumption) | (with_reducible refine And.intro ?_ ?_) | (with_reducible refine cell_drew ?_) | (with_reducible refine cell_via (by with_reducible assumption) ?_ ?_) | (simp [*]; done) | (simp [go_sem]; done) | (with_reducible refine cell_alloc ?_ ?_) | (with_reducible refine cell_set_far ?_ ?_) | omega | (simp; omega)))) (first | (go_at_call 36; (with_reducible refine (CK.out _ (by (repeat' (first | (with_reducible exact Below.refl _ _) | (with_reducible assumption) | (with_reducible refine Below.alloc ?_ ?_ _) | (with_reducible refine Below.setCell ?_ ?_ _) | (with_reducible refine Below.drew ?_) | (with_reducible refine below_drewN ?_ _) | (with_reducible refine below_via ?_ (by with_reducible assumption) ?_) | omega | (simp; done) | (simp; omega))))).mono ?_); rintro e w17 ⟨rfl, hb17⟩; obtain ⟨fc17, fg17, hc17, hf17, hz17⟩ := bget hb17; (try simp at hz17)) | (go_at_call 17; (with_reducible refine (CI.out _ (by (repeat' (first | (with_reducible exact Below.refl _ _) | (with_reducible assumption) | (with_reducible refine Below.alloc ?_ ?_ _) | (with_reducible refine Below.setCell ?_ ?_ _) | (with_reducible refine Below.drew ?_) | (with_reducible refine below_drewN ?_ _) | (with_reducible refine below_via ?_ (by with_reducible assumption) ?_) | omega | (simp; done) | (simp; omega))))).mono ?_); rintro e w18 ⟨rfl, hb18⟩; obtain ⟨fc18, fg18, hc18, hf18, hz18⟩ := bget hb18; (try simp at hz18)) | fail)
    all_goals
      go_wp2_with (first | (go_at_call 37; (with_reducible refine (CP.out _ _ _ (H3.out.keep (by (repeat' (first | (with_reducible exact Below.refl _ _) | (with_reducible assumption) | (with_reducible refine Below.alloc ?_ ?_ _) | (with_reducible refine Below.setCell ?_ ?_ _) | (with_reducible refine Below.drew ?_) | (with_reducible refine below_drewN ?_ _) | (with_reducible refine below_via ?_ (by with_reducible assumption) ?_) | omega | (simp; done) | (simp; omega))))) (by (repeat' (first | (with_reducible exact Below.refl _ _) | (with_reducible assumption) | (with_reducible refine Below.alloc ?_ ?_ _) | (with_reducible refine Below.setCell ?_ ?_ _) | (with_reducible refine Below.drew ?_) | (with_reducible refine below_drewN ?_ _) | (with_reducible refine below_via ?_ (by with_reducible assumption) ?_) | omega | (simp; done) | (simp; omega))))).mono ?_); intro e w4 hp4; obtain ⟨ys4, A4, c4, rfl, hl4, hrs4, hg4, hb4⟩ := tab_rd hp4; have H4 := Lib.hid hrs4; have G4 := Lib.hid hg4; have L4 := Lib.hid hl4; clear hp4 hrs4 hg4 hl4; obtain ⟨fc4, fg4, hc4, hf4, hz4⟩ := bget hb4; (try simp at hz4)) | (go_at_call 38; (with_reducible refine (CRP.out _ _ _ (H3.out.keep (by (repeat' (first | (with_reducible exact Below.refl _ _) | (with_reducible assumption) | (with_reducible refine Below.alloc ?_ ?_ _) | (with_reducible refine Below.setCell ?_ ?_ _) | (with_reducible refine Below.drew ?_) | (with_reducible refine below_drewN ?_ _) | (with_reducible refine below_via ?_ (by with_reducible assumption) ?_) | omega | (simp; done) | (simp; omega))))) HF3.out (by (repeat' (first | (with_reducible exact Below.refl _ _) | (with_reducible assumption) | (with_reducible refine Below.alloc ?_ ?_ _) | (with_reducible refine Below.setCell ?_ ?_ _) | (with_reducible refine Below.drew ?_) | (with_reducible refine below_drewN ?_ _) | (with_reducible refine below_via ?_ (by with_reducible assumption) ?_) | omega | (simp; done) | (simp; omega))))).mono ?_); intro e w5 hp5; obtain ⟨A5, c5, rfl, hrs5, hb5⟩ := putInst_rd hp5; have H5 := Lib.hid hrs5; clear hp5 hrs5; obtain ⟨fc5, fg5, hc5, hf5, hz5⟩ := bget hb5; (try simp at hz5)) | (go_at_call 39; (with_reducible refine (CN.out _ _ _ (H3.out.keep (by (repeat' (first | (with_reducible exact Below.refl _ _) | (with_reducible assumption) | (with_reducible refine Below.alloc ?_ ?_ _) | (with_reducible refine Below.setCell ?_ ?_ _) | (with_reducible refine Below.drew ?_) | (with_reducible refine below_drewN ?_ _) | (with_reducible refine below_via ?_ (by with_reducible assumption) ?_) | omega | (simp; done) | (simp; omega))))) (by (repeat' (first | (with_reducible exact Below.refl _ _) | (with_reducible assumption) | (with_reducible refine Below.alloc ?_ ?_ _) | (with_reducible refine Below.setCell ?_ ?_ _) | (with_reducible refine Below.drew ?_) | (with_reducible refine below_drewN ?_ _) | (with_reducible refine below_via ?_ (by with_reducible assumption) ?_) | omega | (simp; done) | (simp; omega))))).mono ?_); intro e w6 hp6; obtain ⟨ys6, A6, c6, rfl, hl6, hrs6, hg6, hb6⟩ := tab_rd hp6; have H6 := Lib.hid hrs6; have G6 := Lib.hid hg6; have L6 := Lib.hid hl6; clear hp6 hrs6 hg6 hl6; obtain ⟨fc6, fg6, hc6, hf6, hz6⟩ := bget hb6; (try simp at hz6)) | (go_at_call 40; (with_reducible refine (CRN.out _ _ _ (H3.out.keep (by (repeat' (first | (with_reducible exact Below.refl _ _) | (with_reducible assumption) | (with_reducible refine Below.alloc ?_ ?_ _) | (with_reducible refine Below.setCell ?_ ?_ _) | (with_reducible refine Below.drew ?_) | (with_reducible refine below_drewN ?_ _) | (with_reducible refine below_via ?_ (by with_reducible assumption) ?_) | omega | (simp; done) | (simp; omega)))))).mono ?_); intro e w7 hp7; obtain ⟨A7, c7, rfl, hrs7, hb7⟩ := nextInst_rd hp7; have H7 := Lib.hid hrs7; clear hp7 hrs7; obtain ⟨fc7, fg7, hc7, hf7, hz7⟩ := bget hb7; (try simp at hz7)) | (go_at_call 41; (with_reducible refine (CF.out _ _ _ (H3.out.keep (by (repeat' (first | (with_reducible exact Below.refl _ _) | (with_reducible assumption) | (with_reducible refine Below.alloc ?_ ?_ _) | (with_reducible refine Below.setCell ?_ ?_ _) | (with_reducible refine Below.drew ?_) | (with_reducible refine below_drewN ?_ _) | (with_reducible refine below_via ?_ (by with_reducible assumption) ?_) | omega | (simp; done) | (simp; omega))))).rd (by (repeat' (first | (with_reducible exact Below.refl _ _) | (with_reducible assumption) | (with_reducible refine Below.alloc ?_ ?_ _) | (with_reducible refine Below.setCell ?_ ?_ _) | (with_reducible refine Below.drew ?_) | (with_reducible refine below_drewN ?_ _) | (with_reducible refine below_via ?_ (by with_reducible assumption) ?_) | omega | (simp; done) | (simp; omega))))).mono ?_); rintro e w8 ⟨⟨yi, ym, yp, yn, yA, yc, yv⟩, rfl, hl8, hg8, hb8⟩; (simp only [lgI, Inst.mk.injEq] at hl8); obtain ⟨rfl, rfl, rfl, rfl, rfl⟩ := hl8; have G8 := Lib.hid (show Rs w8 1 (fz.moves.val.map encI) yA yc from hg8); clear hg8; obtain ⟨fc8, fg8, hc8, hf8, hz8⟩ := bget hb8; (try simp at hz8)) | (go_at_call 42; (with_reducible refine (CRF.out _ _ _ (H3.out.keep (by (repeat' (first | (with_reducible exact Below.refl _ _) | (with_reducible assumption) | (with_reducible refine Below.alloc ?_ ?_ _) | (with_reducible refine Below.setCell ?_ ?_ _) | (with_reducible refine Below.drew ?_) | (with_reducible refine below_drewN ?_ _) | (with_reducible refine below_via ?_ (by with_reducible assumption) ?_) | omega | (simp; done) | (simp; omega))))).rd).mono ?_); rintro e w9 ⟨rfl, hb9⟩; obtain ⟨fc9, fg9, hc9, hf9, hz9⟩ := bget hb9; (try simp at hz9)) | (go_at_call 43; (with_reducible refine (ref13Same ys4 _ A4 A5 c4 c5 _ L4.out ?_ (H4.out.keep (by (repeat' (first | (with_reducible exact Below.refl _ _) | (with_reducible assumption) | (with_reducible refine Below.alloc ?_ ?_ _) | (with_reducible refine Below.setCell ?_ ?_ _) | (with_reducible refine Below.drew ?_) | (with_reducible refine below_drewN ?_ _) | (with_reducible refine below_via ?_ (by with_reducible assumption) ?_) | omega | (simp; done) | (simp; omega))))) (H5.out.keep (by (repeat' (first | (with_reducible exact Below.refl _ _) | (with_reducible assumption) | (with_reducible refine Below.alloc ?_ ?_ _) | (with_reducible refine Below.setCell ?_ ?_ _) | (with_reducible refine Below.drew ?_) | (with_reducible refine below_drewN ?_ _) | (with_reducible refine below_via ?_ (by with_reducible assumption) ?_) | omega | (simp; done) | (simp; omega))))) ?_ ?_).mono ?_); (focus (have := same_len L4.out TP.out.len; omega)); (focus (exact same_ys L4.out (fun y hy => (G4.out y hy).keep (by (repeat' (first | (with_reducible exact Below.refl _ _) | (with_reducible assumption) | (with_reducible refine Below.alloc ?_ ?_ _) | (with_reducible refine Below.setCell ?_ ?_ _) | (with_reducible refine Below.drew ?_) | (with_reducible refine below_drewN ?_ _) | (with_reducible refine below_via ?_ (by with_reducible assumption) ?_) | omega | (simp; done) | (simp; omega))))) TP.out.few)); (focus (exact TP.out.at (by (repeat' (first | (with_reducible exact Below.refl _ _) | (with_reducible assumption) | (with_reducible refine Below.alloc ?_ ?_ _) | (with_reducible refine Below.setCell ?_ ?_ _) | (with_reducible refine Below.drew ?_) | (with_reducible refine below_drewN ?_ _) | (with_reducible refine below_via ?_ (by with_reducible assumption) ?_) | omega | (simp; done) | (simp; omega)))))); rintro e w10 ⟨rfl, hb10⟩; obtain ⟨fc10, fg10, hc10, hf10, hz10⟩ := bget hb10; (try simp at hz10)) | (go_at_call 43; (with_reducible refine (ref13Same ys6 _ A6 A7 c6 c7 _ L6.out ?_ (H6.out.keep (by (repeat' (first | (with_reducible exact Below.refl _ _) | (with_reducible assumption) | (with_reducible refine Below.alloc ?_ ?_ _) | (with_reducible refine Below.setCell ?_ ?_ _) | (with_reducible refine Below.drew ?_) | (with_reducible refine below_drewN ?_ _) | (with_reducible refine below_via ?_ (by with_reducible assumption) ?_) | omega | (simp; done) | (simp; omega))))) (H7.out.keep (by (repeat' (first | (with_reducible exact Below.refl _ _) | (with_reducible assumption) | (with_reducible refine Below.alloc ?_ ?_ _) | (with_reducible refine Below.setCell ?_ ?_ _) | (with_reducible refine Below.drew ?_) | (with_reducible refine below_drewN ?_ _) | (with_reducible refine below_via ?_ (by with_reducible assumption) ?_) | omega | (simp; done) | (simp; omega))))) ?_ ?_).mono ?_); (focus (have := same_len L6.out TN.out.len; omega)); (focus (exact same_ys L6.out (fun y hy => (G6.out y hy).keep (by (repeat' (first | (with_reducible exact Below.refl _ _) | (with_reducible assumption) | (with_reducible refine Below.alloc ?_ ?_ _) | (with_reducible refine Below.setCell ?_ ?_ _) | (with_reducible refine Below.drew ?_) | (with_reducible refine below_drewN ?_ _) | (with_reducible refine below_via ?_ (by with_reducible assumption) ?_) | omega | (simp; done) | (simp; omega))))) TN.out.few)); (focus (exact TN.out.at (by (repeat' (first | (with_reducible exact Below.refl _ _) | (with_reducible assumption) | (with_reducible refine Below.alloc ?_ ?_ _) | (with_reducible refine Below.setCell ?_ ?_ _) | (with_reducible refine Below.drew ?_) | (with_reducible refine below_drewN ?_ _) | (with_reducible refine below_via ?_ (by with_reducible assumption) ?_) | omega | (simp; done) | (simp; omega)))))); rintro e w11 ⟨rfl, hb11⟩; obtain ⟨fc11, fg11, hc11, hf11, hz11⟩ := bget hb11; (try simp at hz11)) | (go_at_call 44; (with_reducible refine (ref13SameOneZ fz yA yc _ HZL.out (G8.out.keep (by (repeat' (first | (with_reducible exact Below.refl _ _) | (with_reducible assumption) | (with_reducible refine Below.alloc ?_ ?_ _) | (with_reducible refine Below.setCell ?_ ?_ _) | (with_reducible refine Below.drew ?_) | (with_reducible refine below_drewN ?_ _) | (with_reducible refine below_via ?_ (by with_reducible assumption) ?_) | omega | (simp; done) | (simp; omega))))) (HZ.out _ (by (repeat' (first | (with_reducible exact Below.refl _ _) | (with_reducible assumption) | (with_reducible refine Below.alloc ?_ ?_ _) | (with_reducible refine Below.setCell ?_ ?_ _) | (with_reducible refine Below.drew ?_) | (with_reducible refine below_drewN ?_ _) | (with_reducible refine below_via ?_ (by with_reducible assumption) ?_) | omega | (simp; done) | (simp; omega)))))).mono ?_); rintro e w12 ⟨rfl, hb12⟩; obtain ⟨fc12, fg12, hc12, hf12, hz12⟩ := bget hb12; (try simp at hz12)) | (go_at_call 45; (with_reducible refine (CS.out _ _ _ (H3.out.keep (by (repeat' (first | (with_reducible exact Below.refl _ _) | (with_reducible assumption) | (with_reducible refine Below.alloc ?_ ?_ _) | (with_reducible refine Below.setCell ?_ ?_ _) | (with_reducible refine Below.drew ?_) | (with_reducible refine below_drewN ?_ _) | (with_reducible refine below_via ?_ (by with_reducible assumption) ?_) | omega | (simp; done) | (simp; omega))))) (by (repeat' (first | (with_reducible exact Below.refl _ _) | (with_reducible assumption) | (with_reducible refine Below.alloc ?_ ?_ _) | (with_reducible refine Below.setCell ?_ ?_ _) | (with_reducible refine Below.drew ?_) | (with_reducible refine below_drewN ?_ _) | (with_reducible refine below_via ?_ (by with_reducible assumption) ?_) | omega | (simp; done) | (simp; omega))))).mono ?_); intro e w13 hp13; obtain ⟨ys13, A13, c13, rfl, hl13, hrs13, hg13, hb13⟩ := tab_rd1 hp13; have H13 := Lib.hid hrs13; have G13 := Lib.hid hg13; have L13 := Lib.hid hl13; clear hp13 hrs13 hg13 hl13; obtain ⟨fc13, fg13, hc13, hf13, hz13⟩ := bget hb13; (try simp at hz13)) | (go_at_call 46; (with_reducible refine (CRS.out _ _ _ (H3.out.keep (by (repeat' (first | (with_reducible exact Below.refl _ _) | (with_reducible assumption) | (with_reducible refine Below.alloc ?_ ?_ _) | (with_reducible refine Below.setCell ?_ ?_ _) | (with_reducible refine Below.drew ?_) | (with_reducible refine below_drewN ?_ _) | (with_reducible refine below_via ?_ (by with_reducible assumption) ?_) | omega | (simp; done) | (simp; omega)))))).mono ?_); rintro e w14 ⟨v14, rfl, hown14, hb14⟩; obtain ⟨A14, c14, rfl, hrs14, _⟩ := own_formInstV hown14; have H14 := Lib.hid hrs14; clear hown14 hrs14; obtain ⟨fc14, fg14, hc14, hf14, hz14⟩ := bget hb14; (try simp at hz14)) | (go_at_call 43; (with_reducible refine (ref13Same ys13 _ A13 A14 c13 c14 _ L13.out ?_ (H13.out.keep (by (repeat' (first | (with_reducible exact Below.refl _ _) | (with_reducible assumption) | (with_reducible refine Below.alloc ?_ ?_ _) | (with_reducible refine Below.setCell ?_ ?_ _) | (with_reducible refine Below.drew ?_) | (with_reducible refine below_drewN ?_ _) | (with_reducible refine below_via ?_ (by with_reducible assumption) ?_) | omega | (simp; done) | (simp; omega))))) (H14.out.keep (by (repeat' (first | (with_reducible exact Below.refl _ _) | (with_reducible assumption) | (with_reducible refine Below.alloc ?_ ?_ _) | (with_reducible refine Below.setCell ?_ ?_ _) | (with_reducible refine Below.drew ?_) | (with_reducible refine below_drewN ?_ _) | (with_reducible refine below_via ?_ (by with_reducible assumption) ?_) | omega | (simp; done) | (simp; omega))))) ?_ ?_).mono ?_); (focus (have := same_len L13.out TS.out.len; omega)); (focus (exact same_ys L13.out (fun y hy => (G13.out y hy).keep (by (repeat' (first | (with_reducible exact Below.refl _ _) | (with_reducible assumption) | (with_reducible refine Below.alloc ?_ ?_ _) | (with_reducible refine Below.setCell ?_ ?_ _) | (with_reducible refine Below.drew ?_) | (with_reducible refine below_drewN ?_ _) | (with_reducible refine below_via ?_ (by with_reducible assumption) ?_) | omega | (simp; done) | (simp; omega))))) TS.out.few)); (focus (exact TS.out.at (by (repeat' (first | (with_reducible exact Below.refl _ _) | (with_reducible assumption) | (with_reducible refine Below.alloc ?_ ?_ _) | (with_reducible refine Below.setCell ?_ ?_ _) | (with_reducible refine Below.drew ?_) | (with_reducible refine below_drewN ?_ _) | (with_reducible refine below_via ?_ (by with_reducible assumption) ?_) | omega | (simp; done) | (simp; omega)))))); rintro e w15 ⟨rfl, hb15⟩; obtain ⟨fc15, fg15, hc15, hf15, hz15⟩ := bget hb15; (try simp at hz15)) | (go_at_call 18; (with_reducible refine (law13lives _).mono ?_); rintro e w16 ⟨rfl, hb16⟩; obtain ⟨fc16, fg16, hc16, hf16, hz16⟩ := bget hb16; (try simp at hz16)) | fail)
      go_ret
      exact ⟨rfl, by (repeat' (first | (with_reducible exact Below.refl _ _) | (with_reducible assumption) | (with_reducible refine Below.alloc ?_ ?_ _) | (with_reducible refine Below.setCell ?_ ?_ _) | (with_reducible refine Below.drew ?_) | (with_reducible refine below_drewN ?_ _) | (with_reducible refine below_via ?_ (by with_reducible assumption) ?_) | omega | (simp; done) | (simp; omega)))⟩

theorem tabOk_sub {w : World} {l l' : List InstV} (h : ∀ x ∈ l', ∃ y ∈ l, x.moves = y.moves) (hg : ∀ x ∈ l, GoodI w x ∧ x.moves.val.length ≤ 12) (hl : l'.length ≤ 12) : TabOk w l' :=
  ⟨fun x hx => by
    obtain ⟨y, hy, e⟩ := h x hx
    unfold GoodI
    rw [e]
    exact (hg y hy).1, fun x hx => by
    obtain ⟨y, hy, e⟩ := h x hx
    rw [e]
    exact (hg y hy).2, hl⟩
theorem instTables (l0 : List InstV) (x0 : InstV) (id p : Int) (A : Option Addr) (c : Nat) (w : World) (hl : l0.length ≤ maxLen) (hr : Rd w A 5 (l0.map encInstV)) (hg : ∀ x ∈ l0, GoodI w x) (hx0 : GoodI w x0) :
    Calls Try.prog 9 #[.slice A l0.length c, .agg #[.int .i64 x0.id, .int .i64 x0.mult, .int .i64 x0.price, .int .i64 x0.next, .slice x0.moves.A x0.moves.val.length x0.moves.c], .int .i64 id, .int .i64 p] w fun e w' => e = .returned (.bool true) ∧ Below w.heap.size w w' := by
  have hm := good_short hx0
  have hfl : ∀ x ∈ (l0.take 12).map shortV, GoodI w x ∧ x.moves.val.length ≤ 12 := fun x hx => by
    obtain ⟨y, hy, rfl⟩ := List.mem_map.1 hx
    exact good_short (hg y (List.mem_of_mem_take hy))
  have hfln : ((l0.take 12).map shortV).length ≤ maxLen := by rw [List.length_map, List.length_take]; unfold maxLen; omega
  have htl := tabInstVN_len okV ((l0.take 12).map shortV) 10
  have hts := sorted_tabInstVN okV ((l0.take 12).map shortV) 10
  have htm := tab_mem okV ((l0.take 12).map shortV) 10
  have c20 := fun W (h : Below w.heap.size w W) => law13shortV x0 W (hx0.keep h)
  have c21 := fun W (h : Below w.heap.size w W) => law13few l0 A c W hl (hr.keep h) (fun x hx => (hg x hx).keep h)
  have c22 := fun W A c (hrs : Rs W 5 (((l0.take 12).map shortV).map encInstV) A c) (h : Below w.heap.size w W) => ref13Table okV ((l0.take 12).map shortV) A c W hfln hrs.rd (fun m hm W' hW' => ref13IsV m W' (by have := (hfl m hm).2; omega) ((hfl m hm).1.keep (h.trans (hW'.mono h.size))))
  generalize (l0.take 12).map shortV = fl at *
  generalize tabInstVN okV fl 10 = t at *
  generalize shortV x0 = m at *
  have htg : ∀ x ∈ t, GoodI w x ∧ x.moves.val.length ≤ 12 := fun x hx => hfl x (htm x hx)
  have hto : TabOk w t := ⟨fun x hx => (htg x hx).1, fun x hx => (htg x hx).2, by omega⟩
  have hpl := putInstVL_len (okV m) t m
  have hnl : (nextL t id p).length ≤ t.length := by unfold nextL; split <;> simp
  have hfz : (∀ W, Below w.heap.size w W → GoodI W (findInstV t id).1) ∧ (findInstV t id).1.moves.val.length ≤ 1048576 := by
    rcases idx_findV t id with ⟨k, hk, _, _, _, hf⟩ | ⟨_, _, hf⟩
    · rw [hf]
      have h1 := htg t[k] (List.getElem_mem hk)
      exact ⟨fun W h => h1.1.keep h, by have := h1.2; show t[k].moves.val.length ≤ 1048576; omega⟩
    · rw [hf]
      exact ⟨fun W _ => Rs.empty _ _, by simp⟩
  exact instTablesAt l0 fl t (t.map setl) x0 m id p (okV m) (findInstV t id).2 (findInstV t id).1 (codeI (lgI m)) A c w
    (by unfold codeI okV; by_cases h : okI (lgI m) <;> simp [h])
    c20 c21 (fun W A c h hb => c22 W A c h hb)
    (fun W h => instCheckV m W (by have := hm.2; omega) (hm.1.keep h)) (fun W h => ref13IsV m W (by have := hm.2; omega) (hm.1.keep h))
    (fun W A c hrs h => instPut t m A c W (by omega) hrs (hto.both h) (by have := hm.2; omega) (hm.1.keep h))
    (fun W A c hrs hfo h => ref13Put (okV m) t m A c W (by omega) hrs hfo (fun W' hW' => ref13IsV m W' (by have := hm.2; omega) (hm.1.keep (h.trans (hW'.mono h.size)))))
    (fun W A c hrs h => instNext t id p A c W (by omega) hts hrs (hto.both h)) (fun W A c hrs => ref13Next t id p A c W (by omega) hrs)
    (fun W A c hrd h => instFind t id A c W (by omega) hrd (hto.both h)) (fun W A c hrd => ref13Find t id A c W (by omega) hrd)
    (fun W A c hrs h => instSettle t A c W (by omega) hrs (hto.both h)) (fun W A c hrs => ref13Settle t A c W (by omega) hrs)
    (tabOk_sub (l := m :: t) (fun x hx => by
      rcases put_mem hx with h | h
      · exact ⟨x, by simp [h], rfl⟩
      · exact ⟨m, by simp, by rw [h]⟩) (fun x hx => by
      rcases List.mem_cons.1 hx with rfl | h
      · exact hm
      · exact htg x h) (by omega))
    (tabOk_sub (l := t) (fun x hx => next_mem hx) htg (by omega))
    (tabOk_sub (l := t) (fun x hx => by obtain ⟨y, hy, rfl⟩ := List.mem_map.1 hx; exact ⟨y, hy, rfl⟩) htg (by rw [List.length_map]; omega))
    hfz.1 hfz.2
end Go.Proofs.Ytpjehhkmdndcmaa

/- What every law's row asks of the call's end: the arguments read on as they did, where nothing below the heap's old size has turned. -/
namespace Go.Proofs.Ytpjehhkmdndcmaa
open Go.ChangeShapes Go.WideShapes Go.ChangeAt Go.RowKit Go.Joins
theorem Try.own : ownKnob Try.prog.godebug = none := by kernel_rfl
theorem Try.laidOut : laidOutB Try.prog = true := by kernel_rfl
theorem in64_of_wf {x : Int} (h : (Lit.int .i64 x).wf = true) : In64 x := by
  simp [Lit.wf, IntKind.min, IntKind.max, IntKind.signed, IntKind.bits] at h
  exact ⟨by omega, by omega⟩
theorem word_of_wf {x : Int} (h : (Lit.int .u64 x).wf = true) : 0 ≤ x ∧ x < 18446744073709551616 := by
  simp [Lit.wf, IntKind.min, IntKind.max, IntKind.signed, IntKind.bits] at h
  exact ⟨by omega, by omega⟩
theorem reads_on {H : Type} {enc : TypeId × Value → H} {W W' : World} (hb : Below W.heap.size W W') : ∀ {ts : List TypeId} {vs : List Value} {ds : List (DataW H)} {ps : List MemPlace},
    (∀ t ∈ ts, Try.prog.readableRec t = true ∧ t < Try.prog.types.size) → DataW.TrodAll enc Try.prog W 0 (fun _ => true) true ts vs ds ps → (∀ x ∈ ps, x.block < W.heap.size) →
    DataW.TrodAll enc Try.prog W' 0 (fun b => decide (b < W.heap.size)) true ts vs ds ps
  | [], _, _, _, _, h, _ => by
    obtain ⟨rfl, rfl, rfl⟩ := trodAll_nil h
    exact trodAll_mk0
  | t :: ts, _, _, _, ht, h, hl => by
    obtain ⟨v, vs, d, ds, p, q, rfl, rfl, rfl, h1, h2⟩ := trodAll_cons h
    have h3 := ht t (by simp)
    exact ⟨p, q, Below.trod Try.laidOut h3.1 h3.2 h1 hb (fun x hx => hl x (by simp [hx])), reads_on hb (fun t ht' => ht t (by simp [ht'])) h2 (fun x hx => hl x (by simp [hx])), rfl⟩
theorem law_ends {H : Type} {enc : TypeId × Value → H} {f : Func} {s : ChangeSpec} {W W' : World} {args : Array Value} {ds gs : List (DataW H)} {before : List MemPlace}
    (hW : DataW.Whole enc Try.prog f.params.toList s.vars false W args.toList ds gs before) (hvars : s.vars = []) (hts : ∀ t ∈ f.params.toList, Try.prog.readableRec t = true ∧ t < Try.prog.types.size)
    (hrt : f.resultTypes = #[4]) (hr : (s.fn H (ds ++ gs)).results = [.lit (.bool true)]) (ha : (s.fn H (ds ++ gs)).args = ds) (hv : (s.fn H (ds ++ gs)).vars = []) (hb : Below W.heap.size W W') :
    s.post enc Try.prog f false true false false W args (.bool true) W' := by
  have hW' := hW
  obtain ⟨p, q, hA, hV, rfl, hfz, hnd⟩ := hW
  rw [hvars] at hV
  obtain ⟨rfl, rfl⟩ := trodVars_none hV
  refine ⟨ds, [], _, [], p, [], hW', ?_, ?_, ?_, hb.frame _, fun h => by cases h⟩
  · rw [hrt, hr]; exact trodAll_mk1 (shut_bool Try.underlying4 _)
  · rw [ha]; exact reads_on hb hts hA (fun x hx => by simpa using hW'.lt x (by simp [hx]))
  · rw [hv, hvars]; rfl
end Go.Proofs.Ytpjehhkmdndcmaa

/- A slice, handed in: the list that it reads as. -/
namespace Go.Proofs.Ytpjehhkmdndcmaa
open Go.ChangeShapes Go.WideShapes Go.ChangeAt Go.RowKit Go.Joins Go.Deep
theorem block_lt {w : World} {a : Addr} {v : Value} (h : w.cell? a = some v) : a.block < w.heap.size := by
  rcases Nat.lt_or_ge a.block w.heap.size with h1 | h1
  · exact h1
  · unfold World.cell? at h
    rw [Array.getElem?_eq_none h1] at h
    split at h <;> simp_all
theorem list_choose {α : Type} {n : Nat} {p : Nat → α → Prop} (h : ∀ i, i < n → ∃ x, p i x) : ∃ l : List α, l.length = n ∧ ∀ i (hi : i < l.length), p i l[i] := by
  induction n with
  | zero => exact ⟨[], rfl, fun i hi => absurd hi (by simp)⟩
  | succ n ih =>
    obtain ⟨l, hl, hp⟩ := ih (fun i hi => h i (by omega))
    obtain ⟨x, hx⟩ := h n (by omega)
    refine ⟨l ++ [x], by simp [hl], fun i hi => ?_⟩
    simp at hi
    rcases Nat.lt_or_ge i l.length with h1 | h1
    · rw [List.getElem_append_left h1]; exact hp i h1
    · obtain rfl : i = l.length := by omega
      simp [hl]; exact hx
theorem slice_open0 {H : Type} {enc : TypeId × Value → H} {P : Program} {w : World} {spare : Nat → Bool} {held : Bool} {t e : TypeId} {k : Nat} {α : Type} {ok : α → Prop} {enc1 : α → List Value} {fuel : Nat} {cs0 : List Value} {y0 : DataW H × List MemPlace}
    (ht : P.underlying t = some (.slice e)) (ce : P.cellsOf e = k) (helem : ∀ (cs : List Value) (n : Nat) y, cs.length = k → DataW.trod enc P w 0 spare held n e cs = some y → ∃ x : α, ok x ∧ cs = enc1 x)
    (hk : ∀ x, ok x → (enc1 x).length = k) (hk0 : 0 < k) (hf : DataW.trod enc P w 0 spare held fuel t cs0 = some y0) :
    ∃ (l : List α) (A : Option Addr) (c : Nat), cs0 = [.slice A l.length c] ∧ (∀ x ∈ l, ok x) ∧ l.length ≤ c ∧ c ≤ maxLen ∧ (A = none → c = 0) ∧ Rd w A k (l.map enc1) := by
  rcases open_slice ht hf with ⟨hcs, _⟩ | ⟨a, len, cap, m, n, D, Pl, hcs, _, hl, hm, hmm, _, hall⟩
  · subst hcs
    exact ⟨[], none, 0, rfl, by simp, by simp, by simp, fun _ => rfl, fun i r hr => by simp at hr⟩
  · subst hcs
    have each : ∀ i, i < len → ∃ x : α, ok x ∧ ∀ j v, (enc1 x)[j]? = some v → w.cell? ((a.add (i * k)).add j) = some v := by
      intro i hi
      obtain ⟨cs, h1, h2⟩ := hall i (by rw [hmm]; split <;> omega)
      rw [ce] at h1
      obtain ⟨_, hlen, hcell⟩ := World.cells?_some h1
      obtain ⟨x, hx, rfl⟩ := helem cs n _ hlen h2
      refine ⟨x, hx, fun j v hv => ?_⟩
      have hj : j < k := by
        rw [← hlen]
        rcases Nat.lt_or_ge j (enc1 x).length with h3 | h3
        · exact h3
        · rw [List.getElem?_eq_none h3] at hv; cases hv
      rw [hcell j hj, hv]
    obtain ⟨l, hll, hp⟩ := list_choose each
    subst hll
    refine ⟨l, some a, cap, rfl, fun x hx => ?_, hl, hm, (fun h => by cases h), fun i r hr => ?_⟩
    · obtain ⟨i, hi, rfl⟩ := List.mem_iff_getElem.1 hx
      exact (hp i hi).1
    · rw [List.getElem?_map] at hr
      cases hli : l[i]? with
      | none => rw [hli] at hr; cases hr
      | some x =>
        rw [hli] at hr
        simp at hr
        subst hr
        obtain ⟨hi, rfl⟩ := List.getElem?_eq_some_iff.1 hli
        have hp2 := (hp i hi).2
        have hlk := hk _ (hp i hi).1
        obtain ⟨u, hu⟩ : ∃ u, (enc1 l[i])[0]? = some u := ⟨(enc1 l[i])[0], List.getElem?_eq_getElem (by omega)⟩
        have h0 := hp2 0 u hu
        obtain ⟨b, off, spot⟩ := a
        have hb : b < w.heap.size := by
          have := block_lt h0
          unfold Addr.add at this
          split at this <;> split at this <;> exact this
        by_cases hi0 : i = 0
        · subst hi0
          have hspot : spot = none := by simpa [Addr.add] using World.cell?_spot h0
          subst hspot
          refine ⟨b, off, rfl, hb, fun j v hv => ?_⟩
          have := hp2 j v hv
          rwa [add_plain, add_plain] at this
        · have hl0 : 0 < l.length := by omega
          have hlk0 := hk _ (hp 0 hl0).1
          obtain ⟨u0, hu0⟩ : ∃ u, (enc1 l[0])[0]? = some u := ⟨(enc1 l[0])[0], List.getElem?_eq_getElem (by omega)⟩
          have h00 := (hp 0 hl0).2 0 u0 hu0
          have hspot : spot = none := by simpa [Addr.add] using World.cell?_spot h00
          subst hspot
          refine ⟨b, off, rfl, hb, fun j v hv => ?_⟩
          have := hp2 j v hv
          rwa [add_plain, add_plain] at this
/-- A slice handed in, read row by row by a relation. -/
theorem slice_rel {H : Type} {enc : TypeId × Value → H} {P : Program} {w : World} {spare : Nat → Bool} {held : Bool} {t e : TypeId} {k : Nat} {α : Type} {R : List Value → α → Prop} {fuel : Nat} {cs0 : List Value} {y0 : DataW H × List MemPlace}
    (ht : P.underlying t = some (.slice e)) (ce : P.cellsOf e = k) (helem : ∀ (cs : List Value) (n : Nat) y, cs.length = k → DataW.trod enc P w 0 spare held n e cs = some y → ∃ x : α, R cs x ∧ cs.length = k)
    (hk0 : 0 < k) (hf : DataW.trod enc P w 0 spare held fuel t cs0 = some y0) :
    ∃ (l : List α) (rows : List (List Value)) (A : Option Addr) (c : Nat), cs0 = [.slice A l.length c] ∧ Each R rows l ∧ Rs w k rows A c := by
  obtain ⟨rows, A, c, h1, h2, h3, h4, h5, h6⟩ := slice_open0 (α := List Value) (ok := fun r => (∃ x, R r x) ∧ r.length = k) (enc1 := fun r => r) ht ce (fun cs n y hl hy => by
    obtain ⟨x, hx, hlen⟩ := helem cs n y hl hy
    exact ⟨cs, ⟨⟨x, hx⟩, hlen⟩, rfl⟩) (fun r h => h.2) hk0 hf
  obtain ⟨l, hl, hp⟩ := list_choose (n := rows.length) (p := fun i x => ∃ r, rows[i]? = some r ∧ R r x) (fun i hi => by
    obtain ⟨⟨x, hx⟩, _⟩ := h2 rows[i] (List.getElem_mem hi)
    exact ⟨x, rows[i], List.getElem?_eq_getElem hi, hx⟩)
  rw [List.map_id'] at h6
  refine ⟨l, rows, A, c, by rw [hl]; exact h1, ⟨hl.symm, fun i a b ha hb => ?_⟩, ⟨h6, h3, h4, h5⟩⟩
  obtain ⟨hi, rfl⟩ := List.getElem?_eq_some_iff.1 hb
  obtain ⟨r, hr, hx⟩ := hp i hi
  rw [ha] at hr
  injection hr with hr
  subst hr
  exact hx
theorem slice_open {H : Type} {enc : TypeId × Value → H} {P : Program} {w : World} {spare : Nat → Bool} {held : Bool} {t e : TypeId} {k : Nat} {α : Type} {ok : α → Prop} {enc1 : α → List Value} {v : Value} {d : DataW H} {ps : List MemPlace}
    (ht : P.underlying t = some (.slice e)) (ce : P.cellsOf e = k) (helem : ∀ (cs : List Value) (n : Nat) y, cs.length = k → DataW.trod enc P w 0 spare held n e cs = some y → ∃ x : α, ok x ∧ cs = enc1 x)
    (hk : ∀ x, ok x → (enc1 x).length = k) (hk0 : 0 < k) {r : Reach} {b0 : Nat} (hval : Value.okWide P w r b0 t v) (h : DataW.Trod enc P w 0 spare held t v d ps) :
    ∃ (l : List α) (A : Option Addr) (c : Nat), v = .slice A l.length c ∧ (∀ x ∈ l, ok x) ∧ l.length ≤ c ∧ c ≤ maxLen ∧ (A = none → c = 0) ∧ Rd w A k (l.map enc1) := by
  obtain ⟨a0, len0, cap0, rfl⟩ := okWide_slice ht hval
  obtain ⟨fuel, hf⟩ := h
  rcases open_slice ht hf with ⟨hcs, _⟩ | ⟨a, len, cap, m, n, D, Pl, hcs, _, hl, hm, hmm, _, hall⟩
  · simp [Value.cells] at hcs
    obtain ⟨rfl, rfl, rfl⟩ := hcs
    exact ⟨[], none, 0, rfl, by simp, by simp, by simp, fun _ => rfl, fun i r hr => by simp at hr⟩
  · simp [Value.cells] at hcs
    obtain ⟨rfl, rfl, rfl⟩ := hcs
    have each : ∀ i, i < len0 → ∃ x : α, ok x ∧ ∀ j v, (enc1 x)[j]? = some v → w.cell? ((a.add (i * k)).add j) = some v := by
      intro i hi
      obtain ⟨cs, h1, h2⟩ := hall i (by rw [hmm]; split <;> omega)
      rw [ce] at h1
      obtain ⟨_, hlen, hcell⟩ := World.cells?_some h1
      obtain ⟨x, hx, rfl⟩ := helem cs n _ hlen h2
      refine ⟨x, hx, fun j v hv => ?_⟩
      have hj : j < k := by
        rw [← hlen]
        rcases Nat.lt_or_ge j (enc1 x).length with h3 | h3
        · exact h3
        · rw [List.getElem?_eq_none h3] at hv; cases hv
      rw [hcell j hj, hv]
    obtain ⟨l, hll, hp⟩ := list_choose each
    subst hll
    refine ⟨l, some a, cap0, rfl, fun x hx => ?_, hl, hm, (fun h => by cases h), fun i r hr => ?_⟩
    · obtain ⟨i, hi, rfl⟩ := List.mem_iff_getElem.1 hx
      exact (hp i hi).1
    · rw [List.getElem?_map] at hr
      cases hli : l[i]? with
      | none => rw [hli] at hr; cases hr
      | some x =>
        rw [hli] at hr
        simp at hr
        subst hr
        obtain ⟨hi, rfl⟩ := List.getElem?_eq_some_iff.1 hli
        have hp2 := (hp i hi).2
        have hlk := hk _ (hp i hi).1
        obtain ⟨u, hu⟩ : ∃ u, (enc1 l[i])[0]? = some u := ⟨(enc1 l[i])[0], List.getElem?_eq_getElem (by omega)⟩
        have h0 := hp2 0 u hu
        obtain ⟨b, off, spot⟩ := a
        have hb : b < w.heap.size := by
          have := block_lt h0
          unfold Addr.add at this
          split at this <;> split at this <;> exact this
        by_cases hi0 : i = 0
        · subst hi0
          have hspot : spot = none := by simpa [Addr.add] using World.cell?_spot h0
          subst hspot
          refine ⟨b, off, rfl, hb, fun j v hv => ?_⟩
          have := hp2 j v hv
          rwa [add_plain, add_plain] at this
        · have hl0 : 0 < l.length := by omega
          have hlk0 := hk _ (hp 0 hl0).1
          obtain ⟨u0, hu0⟩ : ∃ u, (enc1 l[0])[0]? = some u := ⟨(enc1 l[0])[0], List.getElem?_eq_getElem (by omega)⟩
          have h00 := (hp 0 hl0).2 0 u0 hu0
          have hspot : spot = none := by simpa [Addr.add] using World.cell?_spot h00
          subst hspot
          refine ⟨b, off, rfl, hb, fun j v hv => ?_⟩
          have := hp2 j v hv
          rwa [add_plain, add_plain] at this
end Go.Proofs.Ytpjehhkmdndcmaa

/- Rows of whole numbers handed in. -/
namespace Go.Proofs.Ytpjehhkmdndcmaa
open Go.ChangeShapes Go.WideShapes Go.ChangeAt Go.RowKit Go.Joins
set_option maxRecDepth 100000 in
theorem J_cells {H : Type} {enc : TypeId × Value → H} {W : World} {spare : Nat → Bool} {held : Bool} {t : TypeId} (ht : (t = 2 ∨ t = 3)) (cs : List Value) (n : Nat) (y : DataW H × List MemPlace) (_hlen : cs.length = 1) (h : DataW.trod enc Try.prog W 0 spare held n t cs = some y) : ∃ x : Int, In64 x ∧ cs = encI x := by
  rcases ht with rfl | rfl
  · obtain ⟨x0, e0, _, w0⟩ := DataW.trod_int (k := .i64) (by kernel_rfl) h
    exact ⟨x0, in64_of_wf w0, e0⟩
  · obtain ⟨x0, e0, _, w0⟩ := DataW.trod_int (k := .i64) (by kernel_rfl) h
    exact ⟨x0, in64_of_wf w0, e0⟩
/-- The cell of a slice of whole numbers. -/
structure IntsC (W : World) (cs : List Value) (l : List Int) (A : Option Addr) (c : Nat) : Prop where
  eq : cs = [.slice A l.length c]
  ok : ∀ x ∈ l, In64 x
  rs : Rs W 1 (l.map encI) A c
set_option maxRecDepth 100000 in
theorem ints_cells {H : Type} {enc : TypeId × Value → H} {W : World} {spare : Nat → Bool} {held : Bool} {n : Nat} {cs : List Value} {y : DataW H × List MemPlace} (h : DataW.trod enc Try.prog W 0 spare held n 22 cs = some y) : ∃ l A c, IntsC W cs l A c := by
  obtain ⟨l, A, c, h1, h2, h3, h4, h5, h6⟩ := slice_open0 (enc1 := encI) Try.underlying22 (by kernel_rfl) (fun cs n y => J_cells (.inl rfl) cs n y) (fun _ _ => rfl) (by omega) h
  exact ⟨l, A, c, h1, h2, h6, by rw [List.length_map]; exact h3, h4, h5⟩
end Go.Proofs.Ytpjehhkmdndcmaa

/- Instruments handed in. -/
namespace Go.Proofs.Ytpjehhkmdndcmaa
open Go.ChangeShapes Go.WideShapes Go.ChangeAt Go.RowKit Go.Joins
def okInst (x : Inst) : Prop := In64 x.id ∧ In64 x.mult ∧ In64 x.price ∧ In64 x.next ∧ ∀ m ∈ x.moves, In64 m
set_option maxRecDepth 100000 in
theorem Inst_cells {H : Type} {enc : TypeId × Value → H} {W : World} {spare : Nat → Bool} {held : Bool} (cs : List Value) (n : Nat) (y : DataW H × List MemPlace) (hlen : cs.length = 5) (h : DataW.trod enc Try.prog W 0 spare held n 24 cs = some y) :
    ∃ (x : Inst) (A : Option Addr) (c : Nat), okInst x ∧ cs = [.int .i64 x.id, .int .i64 x.mult, .int .i64 x.price, .int .i64 x.next, .slice A x.moves.length c] ∧ Rs W 1 (x.moves.map encI) A c := by
  obtain ⟨xs, n, _, rfl, _, hxs, hf⟩ := DataW.trod_struct Try.underlying24 h
  match cs, hlen, xs, hxs with
  | [c0, c1, c2, c3, c4], _, [y0, y1, y2, y3, y4], _ =>
    have h0 : DataW.trod enc Try.prog W 0 spare held n 3 (([c0, c1, c2, c3, c4].drop 0).take (Try.prog.cellsOf 3)) = some y0 := hf 0 _ rfl
    have h1 : DataW.trod enc Try.prog W 0 spare held n 2 (([c0, c1, c2, c3, c4].drop 1).take (Try.prog.cellsOf 2)) = some y1 := hf 1 _ rfl
    have h2 : DataW.trod enc Try.prog W 0 spare held n 2 (([c0, c1, c2, c3, c4].drop 2).take (Try.prog.cellsOf 2)) = some y2 := hf 2 _ rfl
    have h3 : DataW.trod enc Try.prog W 0 spare held n 2 (([c0, c1, c2, c3, c4].drop 3).take (Try.prog.cellsOf 2)) = some y3 := hf 3 _ rfl
    have h4 : DataW.trod enc Try.prog W 0 spare held n 22 (([c0, c1, c2, c3, c4].drop 4).take (Try.prog.cellsOf 22)) = some y4 := hf 4 _ rfl
    obtain ⟨x0, e0, _, w0⟩ := DataW.trod_int (k := .i64) (by kernel_rfl) h0
    obtain ⟨x1, e1, _, w1⟩ := DataW.trod_int (k := .i64) (by kernel_rfl) h1
    obtain ⟨x2, e2, _, w2⟩ := DataW.trod_int (k := .i64) (by kernel_rfl) h2
    obtain ⟨x3, e3, _, w3⟩ := DataW.trod_int (k := .i64) (by kernel_rfl) h3
    obtain ⟨l, A, c, e4⟩ := ints_cells h4
    have e5 := e4.eq
    rw [show Try.prog.cellsOf _ = 1 from by kernel_rfl] at e0 e1 e2 e3 e5
    simp at e0 e1 e2 e3 e5
    subst e0 e1 e2 e3 e5
    exact ⟨⟨x0, x1, x2, x3, l⟩, A, c, ⟨in64_of_wf w0, in64_of_wf w1, in64_of_wf w2, in64_of_wf w3, e4.ok⟩, rfl, e4.rs⟩
set_option maxRecDepth 100000 in
theorem Inst_open {H : Type} {enc : TypeId × Value → H} {W : World} {spare : Nat → Bool} {held : Bool} {r : Reach} {b0 : Nat} {v : Value} {d : DataW H} {p : List MemPlace} (hv : Value.okWide Try.prog W r b0 24 v) (h : DataW.Trod enc Try.prog W 0 spare held 24 v d p) :
    ∃ (x : Inst) (A : Option Addr) (c : Nat), okInst x ∧ v = .agg #[.int .i64 (x).id, .int .i64 (x).mult, .int .i64 (x).price, .int .i64 (x).next, .slice A (x).moves.length c] ∧ Rs W 1 (x.moves.map encI) A c := by
  obtain ⟨cs, rfl, hsz⟩ := okWide_struct Try.underlying24 hv
  obtain ⟨fuel, hf⟩ := h
  rw [show Try.prog.cellsOf _ = 5 from by kernel_rfl] at hsz
  obtain ⟨x, A, c, hx, he, hr⟩ := Inst_cells cs.toList fuel _ (by simpa using hsz) (by simpa [Value.cells] using hf)
  refine ⟨x, A, c, hx, ?_, hr⟩
  obtain ⟨l⟩ := cs
  simp only at he
  rw [he]
end Go.Proofs.Ytpjehhkmdndcmaa
