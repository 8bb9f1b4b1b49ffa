/- Joined: Ho4, Cv3, Cv4, Cv5, Cv6. -/
import Derived.Test.YtalgfpegaobacaaGreatKz22
import Derived.Test.YtalgfpegaobacaaGreatKz20
import Derived.Test.YtalgfpegaobacaaGreatKz21
import Derived.Test.YtalgfpegaobacaaGreatKz11
import Derived.Test.YtalgfpegaobacaaGreatKz13
import Derived.Test.YtalgfpegaobacaaGreatKz17
/- Holds: contracts of hold.turned, Put, Take, Set, the reference's Put, Take, Set. -/
namespace Go.Proofs.YtalgfpegaobacaaGreat
open Go.RowKit
/-- Holds in memory of their own, and a code. -/
def HoldPost (w : World) (L : List (Row Lot)) (code : Int) (e : Ending) (w' : World) : Prop :=
  ∃ (v : Value) (ys : List HoldV), e = .returned (.tuple #[v, .int .i64 code]) ∧ ys.map lgHoldV = L ∧ Own w' w.heap.size 97 3 v (ys.map encHoldV) ∧ (∀ y ∈ ys, GoodHoldV w' y) ∧ Below w.heap.size w w'
/-- As HoldPost, and no list lies in a block that S holds. -/
def HoldPostS (w : World) (S : Nat → Prop) (L : List (Row Lot)) (code : Int) (e : Ending) (w' : World) : Prop :=
  ∃ (v : Value) (ys : List HoldV), e = .returned (.tuple #[v, .int .i64 code]) ∧ ys.map lgHoldV = L ∧ Own w' w.heap.size 97 3 v (ys.map encHoldV) ∧ (∀ y ∈ ys, GoodHoldV w' y) ∧ (∀ g, S g → ∀ y ∈ ys, OffB g y) ∧ Below w.heap.size w w'
theorem HoldPostS.less {w : World} {S : Nat → Prop} {L : List (Row Lot)} {code : Int} {e : Ending} {w' : World} (h : HoldPostS w S L code e w') : HoldPost w L code e w' := by
  obtain ⟨v, ys, h1, h2, h3, h4, _, h5⟩ := h
  exact ⟨v, ys, h1, h2, h3, h4, h5⟩
def LQ (L : List (Row Lot)) : Prop := ∀ r ∈ L, r.rows.length ≤ 1000 ∧ ∀ y ∈ r.rows, In64 y.qty
theorem LQ.of {L : List (Row Lot)} (h : LQ L) (u : Un) : (ofK L u).length ≤ 1000 ∧ ∀ y ∈ ofK L u, In64 y.qty := by
  rcases ofK_mem (l := L) (u := u) with ⟨x, hx, _, e⟩ | ⟨_, e⟩
  · rw [e]; exact h x hx
  · rw [e]; exact ⟨by simp, fun y hy => by simp at hy⟩
theorem put_len (l : List Lot) (x : Lot) : (putLL l x).length ≤ l.length + 1 := by
  have := plL_le l x
  unfold putLL
  split
  · split
    · simp
    · simp; omega
  · simp
def tuC (L : List (Row Lot)) (code : Int) : Int := if isK isL L then code else 3
set_option maxRecDepth 100000 in
set_option maxHeartbeats 8000000 in
theorem ref26PutS (S : Nat → Prop) (l : List HoldV) (u : Un) (x : Lot) (A : Option Addr) (c : Nat) (w : World) (hS : ∀ g, S g → g < w.heap.size ∧ ∀ x ∈ l, OffB g x) (hl : l.length ≤ 2000) (hq : LQ (l.map lgHoldV)) (hx : In64 x.qty) (hr : Rs w 3 (l.map encHoldV) A c) (hform : (A = none ∧ l = [] ∧ c = 0) ∨ ∃ b o, A = some ⟨b, o, none⟩) (hg : ∀ x ∈ l, GoodHoldV w x) :
    Calls Tryz.prog 10 #[.slice A l.length c, .agg #[.int .i64 u.acc, .int .i64 u.cli], .agg #[.int .i64 x.asset, .int .i64 x.tag, .int .i64 x.qty]] w (HoldPostS w S (ptL (l.map lgHoldV) u x) (ptC (l.map lgHoldV) u x)) := by
  have hof := hq.of u
  have hpl := put_len (ofK (l.map lgHoldV) u) x
  have ci := fun W (h : Below w.heap.size w W) => refHoldVIs l A c W (by omega) (hr.keep h).rd (fun y hy => (hg y hy).keep h)
  have co := fun W (h : Below w.heap.size w W) => refHoldVOf l u A c W (by omega) (hr.keep h).rd (fun y hy => (hg y hy).keep h)
  have cp := fun W A1 c1 (h : Rs W 3 ((ofK (l.map lgHoldV) u).map encLot) A1 c1) => ref18Put (ofK (l.map lgHoldV) u) x A1 c1 W (by omega) hof.2 hx h.rd
  have ct := fun (hs : SortK (l.map lgHoldV)) W A2 c2 (ha : ∀ a, A2 = some a → w.heap.size ≤ a.block) (h : Below w.heap.size w W) (h2 : Rs W 3 ((putLL (ofK (l.map lgHoldV) u) x).map encLot) A2 c2) => ref26WithS S l u (putLL (ofK (l.map lgHoldV) u) x) A A2 c c2 W (fun g hg => ⟨(hS g hg).2, fun a e => by have h1 := (hS g hg).1; have h2 := ha a e; omega⟩) hl (by omega) hs (hr.keep h) hform (fun y hy => (hg y hy).keep h) h2
  have hC : ptC (l.map lgHoldV) u x = tuC (l.map lgHoldV) (putLC (ofK (l.map lgHoldV) u) x) := rfl
  have hL : ptL (l.map lgHoldV) u x = if tuC (l.map lgHoldV) (putLC (ofK (l.map lgHoldV) u) x) = 0 then withK (l.map lgHoldV) u (putLL (ofK (l.map lgHoldV) u) x) else [] := rfl
  rw [show isHoldV l = isK isL (l.map lgHoldV) from rfl] at ci
  have CO := Lib.hid co
  have CP := Lib.hid cp
  generalize ptL (l.map lgHoldV) u x = R at *
  generalize ptC (l.map lgHoldV) u x = code at *
  generalize putLL (ofK (l.map lgHoldV) u) x = P at *
  generalize putLC (ofK (l.map lgHoldV) u) x = pc at *
  generalize ofK (l.map lgHoldV) u = O at *
  clear hS hr hg hq hof hpl co cp hform
  unfold tuC at hC hL
  cases hi : isK isL (l.map lgHoldV)
  · rw [hi] at ci hC hL
    have HL := Lib.hid (show R = [] from hL)
    obtain rfl : code = 3 := hC
    have CI := Lib.hid ci
    clear ci ct hi hL
    go_enter Tryz.func10, Tryz.ntmps10
    go_wp2_with (first | (go_at_call 27; (with_reducible refine (CI.out _ (by (repeat' (first | (with_reducible exact Below.refl _ _) | (with_reducible assumption) | (with_reducible refine Below.alloc ?_ ?_ _) | (with_reducible refine Below.setCell ?_ ?_ _) | (with_reducible refine Below.drew ?_) | (with_reducible refine below_drewN ?_ _) | (with_reducible refine below_via ?_ (by with_reducible assumption) ?_) | omega | (simp; done) | (simp; omega))))).mono ?_); rintro e w9 ⟨rfl, hb9⟩; obtain ⟨fc9, fg9, hc9, hf9, hz9⟩ := bget hb9; (try simp at hz9)) | fail)
    go_ret2
    exact ⟨_, [], rfl, HL.out.symm, Own.nil _ _ _ _, fun y hy => absurd hy (by simp), fun g hg y hy => absurd hy (by simp), by (repeat' (first | (with_reducible exact Below.refl _ _) | (with_reducible assumption) | (with_reducible refine Below.alloc ?_ ?_ _) | (with_reducible refine Below.setCell ?_ ?_ _) | (with_reducible refine Below.drew ?_) | (with_reducible refine below_drewN ?_ _) | (with_reducible refine below_via ?_ (by with_reducible assumption) ?_) | omega | (simp; done) | (simp; omega)))⟩
  rw [hi] at ci hC hL
  obtain rfl : code = pc := hC
  have hL' : R = if code = 0 then withK (l.map lgHoldV) u P else [] := hL
  have CI := Lib.hid ci
  cases h0 : (code == 0)
  · have e1 : (code != 0) = true := by simp only [bne, h0]; rfl
    have HL := Lib.hid (show R = [] from by rw [hL', if_neg (by simpa using h0)])
    clear ci ct hi hL hL'
    go_enter Tryz.func10, Tryz.ntmps10
    go_wp2_with (first | (go_at_call 27; (with_reducible refine (CI.out _ (by (repeat' (first | (with_reducible exact Below.refl _ _) | (with_reducible assumption) | (with_reducible refine Below.alloc ?_ ?_ _) | (with_reducible refine Below.setCell ?_ ?_ _) | (with_reducible refine Below.drew ?_) | (with_reducible refine below_drewN ?_ _) | (with_reducible refine below_via ?_ (by with_reducible assumption) ?_) | omega | (simp; done) | (simp; omega))))).mono ?_); rintro e w9 ⟨rfl, hb9⟩; obtain ⟨fc9, fg9, hc9, hf9, hz9⟩ := bget hb9; (try simp at hz9)) | fail)
    go_region_held3 (fun w' => (w'.cell? ⟨w.heap.size, 0, none⟩ = some (.int .i64 u.acc) ∧ w'.cell? ⟨w.heap.size, 1, none⟩ = some (.int .i64 u.cli)) ∧ (w'.cell? ⟨w.heap.size + 1, 0, none⟩ = some (.int .i64 x.asset) ∧ w'.cell? ⟨w.heap.size + 1, 1, none⟩ = some (.int .i64 x.tag) ∧ w'.cell? ⟨w.heap.size + 1, 2, none⟩ = some (.int .i64 x.qty))) (first | (simp [go_sem]; done) | (repeat' (first | (with_reducible assumption) | (with_reducible refine And.intro ?_ ?_) | (with_reducible refine cell_drew ?_) | (with_reducible refine cell_via (by with_reducible assumption) ?_ ?_) | (simp [*]; done) | (simp [go_sem]; done) | (with_reducible refine cell_alloc ?_ ?_) | (with_reducible refine cell_set_far ?_ ?_) | omega | (simp; omega)))) (first | (go_at_call 29; (with_reducible refine (CO.out _ (by (repeat' (first | (with_reducible exact Below.refl _ _) | (with_reducible assumption) | (with_reducible refine Below.alloc ?_ ?_ _) | (with_reducible refine Below.setCell ?_ ?_ _) | (with_reducible refine Below.drew ?_) | (with_reducible refine below_drewN ?_ _) | (with_reducible refine below_via ?_ (by with_reducible assumption) ?_) | omega | (simp; done) | (simp; omega))))).mono ?_); rintro e w1 ⟨A1, c1, rfl, hrs1, hb1⟩; have H1 := Lib.hid hrs1; clear hrs1; obtain ⟨fc1, fg1, hc1, hf1, hz1⟩ := bget hb1; (try simp at hz1)) | (go_at_call 28; (with_reducible refine (CP.out _ _ _ (H1.out.keep (by (repeat' (first | (with_reducible exact Below.refl _ _) | (with_reducible assumption) | (with_reducible refine Below.alloc ?_ ?_ _) | (with_reducible refine Below.setCell ?_ ?_ _) | (with_reducible refine Below.drew ?_) | (with_reducible refine below_drewN ?_ _) | (with_reducible refine below_via ?_ (by with_reducible assumption) ?_) | omega | (simp; done) | (simp; omega)))))).mono ?_); rintro e w2 ⟨v2, rfl, hown2, hb2⟩; obtain ⟨A2, c2, hv2, hrs2, hfm2⟩ := hown2.rs; (rw [List.length_map] at hv2); subst hv2; have HA2 := Lib.hid (own_off hown2 (m := w.heap.size) (by first | omega | (simp; done) | (simp; omega))); have H2 := Lib.hid hrs2; clear hown2 hrs2 hfm2; obtain ⟨fc2, fg2, hc2, hf2, hz2⟩ := bget hb2; (try simp at hz2)) | fail)
    go_wp2_with fail
    go_ret2
    exact ⟨_, [], rfl, HL.out.symm, Own.nil _ _ _ _, fun y hy => absurd hy (by simp), fun g hg y hy => absurd hy (by simp), by (repeat' (first | (with_reducible exact Below.refl _ _) | (with_reducible assumption) | (with_reducible refine Below.alloc ?_ ?_ _) | (with_reducible refine Below.setCell ?_ ?_ _) | (with_reducible refine Below.drew ?_) | (with_reducible refine below_drewN ?_ _) | (with_reducible refine below_via ?_ (by with_reducible assumption) ?_) | omega | (simp; done) | (simp; omega)))⟩
  · obtain rfl : code = 0 := by simpa using h0
    have HL := Lib.hid (show R = withK (l.map lgHoldV) u P from hL')
    have CT := Lib.hid (ct (isK_facts hi).1)
    clear ci ct hi hL hL' h0
    go_enter Tryz.func10, Tryz.ntmps10
    go_wp2_with (first | (go_at_call 27; (with_reducible refine (CI.out _ (by (repeat' (first | (with_reducible exact Below.refl _ _) | (with_reducible assumption) | (with_reducible refine Below.alloc ?_ ?_ _) | (with_reducible refine Below.setCell ?_ ?_ _) | (with_reducible refine Below.drew ?_) | (with_reducible refine below_drewN ?_ _) | (with_reducible refine below_via ?_ (by with_reducible assumption) ?_) | omega | (simp; done) | (simp; omega))))).mono ?_); rintro e w9 ⟨rfl, hb9⟩; obtain ⟨fc9, fg9, hc9, hf9, hz9⟩ := bget hb9; (try simp at hz9)) | fail)
    go_region_held3 (fun w' => (w'.cell? ⟨w.heap.size, 0, none⟩ = some (.int .i64 u.acc) ∧ w'.cell? ⟨w.heap.size, 1, none⟩ = some (.int .i64 u.cli)) ∧ (w'.cell? ⟨w.heap.size + 1, 0, none⟩ = some (.int .i64 x.asset) ∧ w'.cell? ⟨w.heap.size + 1, 1, none⟩ = some (.int .i64 x.tag) ∧ w'.cell? ⟨w.heap.size + 1, 2, none⟩ = some (.int .i64 x.qty))) (first | (simp [go_sem]; done) | (repeat' (first | (with_reducible assumption) | (with_reducible refine And.intro ?_ ?_) | (with_reducible refine cell_drew ?_) | (with_reducible refine cell_via (by with_reducible assumption) ?_ ?_) | (simp [*]; done) | (simp [go_sem]; done) | (with_reducible refine cell_alloc ?_ ?_) | (with_reducible refine cell_set_far ?_ ?_) | omega | (simp; omega)))) (first | (go_at_call 29; (with_reducible refine (CO.out _ (by (repeat' (first | (with_reducible exact Below.refl _ _) | (with_reducible assumption) | (with_reducible refine Below.alloc ?_ ?_ _) | (with_reducible refine Below.setCell ?_ ?_ _) | (with_reducible refine Below.drew ?_) | (with_reducible refine below_drewN ?_ _) | (with_reducible refine below_via ?_ (by with_reducible assumption) ?_) | omega | (simp; done) | (simp; omega))))).mono ?_); rintro e w1 ⟨A1, c1, rfl, hrs1, hb1⟩; have H1 := Lib.hid hrs1; clear hrs1; obtain ⟨fc1, fg1, hc1, hf1, hz1⟩ := bget hb1; (try simp at hz1)) | (go_at_call 28; (with_reducible refine (CP.out _ _ _ (H1.out.keep (by (repeat' (first | (with_reducible exact Below.refl _ _) | (with_reducible assumption) | (with_reducible refine Below.alloc ?_ ?_ _) | (with_reducible refine Below.setCell ?_ ?_ _) | (with_reducible refine Below.drew ?_) | (with_reducible refine below_drewN ?_ _) | (with_reducible refine below_via ?_ (by with_reducible assumption) ?_) | omega | (simp; done) | (simp; omega)))))).mono ?_); rintro e w2 ⟨v2, rfl, hown2, hb2⟩; obtain ⟨A2, c2, hv2, hrs2, hfm2⟩ := hown2.rs; (rw [List.length_map] at hv2); subst hv2; have HA2 := Lib.hid (own_off hown2 (m := w.heap.size) (by first | omega | (simp; done) | (simp; omega))); have H2 := Lib.hid hrs2; clear hown2 hrs2 hfm2; obtain ⟨fc2, fg2, hc2, hf2, hz2⟩ := bget hb2; (try simp at hz2)) | fail)
    go_wp2_with (first | (go_at_call 30; (with_reducible refine (CT.out _ _ _ HA2.out (by (repeat' (first | (with_reducible exact Below.refl _ _) | (with_reducible assumption) | (with_reducible refine Below.alloc ?_ ?_ _) | (with_reducible refine Below.setCell ?_ ?_ _) | (with_reducible refine Below.drew ?_) | (with_reducible refine below_drewN ?_ _) | (with_reducible refine below_via ?_ (by with_reducible assumption) ?_) | omega | (simp; done) | (simp; omega)))) (H2.out.keep (by (repeat' (first | (with_reducible exact Below.refl _ _) | (with_reducible assumption) | (with_reducible refine Below.alloc ?_ ?_ _) | (with_reducible refine Below.setCell ?_ ?_ _) | (with_reducible refine Below.drew ?_) | (with_reducible refine below_drewN ?_ _) | (with_reducible refine below_via ?_ (by with_reducible assumption) ?_) | omega | (simp; done) | (simp; omega)))))).mono ?_); rintro e w3 ⟨v3, ys, rfl, hlg, hown, hgd, hof3, hb3⟩; have HF3 := Lib.hid hof3; have HLG := Lib.hid hlg; have HO3 := Lib.hid hown; have HG3 := Lib.hid hgd; clear hlg hown hgd hof3; obtain ⟨fc3, fg3, hc3, hf3, hz3⟩ := bget hb3; (try simp at hz3)) | fail)
    go_ret2
    exact ⟨_, ys, rfl, HLG.out.trans HL.out.symm, HO3.out.mono (by first | omega | (simp; done) | (simp; omega)), HG3.out, HF3.out, by (repeat' (first | (with_reducible exact Below.refl _ _) | (with_reducible assumption) | (with_reducible refine Below.alloc ?_ ?_ _) | (with_reducible refine Below.setCell ?_ ?_ _) | (with_reducible refine Below.drew ?_) | (with_reducible refine below_drewN ?_ _) | (with_reducible refine below_via ?_ (by with_reducible assumption) ?_) | omega | (simp; done) | (simp; omega)))⟩
end Go.Proofs.YtalgfpegaobacaaGreat

/- What a margin unit has more than it must: contracts of cover.right, Excess. -/
namespace Go.Proofs.YtalgfpegaobacaaGreat
open Go.RowKit
/-- A side, wherever its rows lie. -/
structure SideV where
  ats : SlOf Asset
  ins : SlOf InstV
  bk : SlOf PosV
  pu : SlOf Flow
  ho : SlOf HoldV
def sideL (s : SideV) : SideL := ⟨s.ats.val, s.ins.val, s.bk.val.map lgPosV, s.pu.val, s.ho.val.map lgHoldV⟩
/-- Its rows are there, and not too many. -/
structure GoodS (w : World) (s : SideV) : Prop where
  ra : Rd w s.ats.A 3 (s.ats.val.map encAsset)
  la : s.ats.val.length ≤ 1000
  ri : Rd w s.ins.A 5 (s.ins.val.map encInstV)
  li : s.ins.val.length ≤ 1000
  gi : ∀ x ∈ s.ins.val, x.moves.val.length ≤ 1048576 ∧ GoodI w x
  rb : Rd w s.bk.A 3 (s.bk.val.map encPosV)
  lb : s.bk.val.length ≤ 1000
  gb : ∀ x ∈ s.bk.val, GoodPosV w x
  b64 : L64 (s.bk.val.map lgPosV)
  rp : Rs w 3 (s.pu.val.map encFlow) s.pu.A s.pu.c
  lp : s.pu.val.length ≤ 300
  p64 : ∀ x ∈ s.pu.val, In64 x.amount
  rh : Rs w 3 (s.ho.val.map encHoldV) s.ho.A s.ho.c
  lh : s.ho.val.length ≤ 1000
  gh : ∀ x ∈ s.ho.val, GoodHoldV w x
  hq : LQ (s.ho.val.map lgHoldV)
theorem GoodS.keep {w w' : World} {s : SideV} (h : GoodS w s) (hb : Below w.heap.size w w') : GoodS w' s :=
  ⟨h.ra.keep hb, h.la, h.ri.keep hb, h.li, fun x hx => ⟨(h.gi x hx).1, (h.gi x hx).2.keep hb⟩, h.rb.keep hb, h.lb, fun x hx => (h.gb x hx).keep hb, h.b64, h.rp.keep hb, h.lp, h.p64, h.rh.keep hb, h.lh, fun x hx => (h.gh x hx).keep hb, h.hq⟩
set_option maxRecDepth 100000 in
set_option maxHeartbeats 8000000 in
theorem coverRight (s : SideV) (w : World) (hg : GoodS w s) :
    Calls Tryz.prog 21 #[.agg #[.slice (s).ats.A (s).ats.val.length (s).ats.c, .slice (s).ins.A (s).ins.val.length (s).ins.c, .slice (s).bk.A (s).bk.val.length (s).bk.c, .slice (s).pu.A (s).pu.val.length (s).pu.c, .slice (s).ho.A (s).ho.val.length (s).ho.c]] w fun e w' => e = .returned (.bool (rightS (sideL s))) ∧ Below w.heap.size w w' := by
  have HG := Lib.hid hg
  have cb := fun W (h : GoodS W s) => bookIs s.bk.val s.bk.A s.bk.c W (by have := h.lb; omega) h.rb h.gb
  have cp := fun W (h : GoodS W s) => purseIs s.pu.val s.pu.A s.pu.c W (by have := h.lp; omega) h.rp.rd
  have ch := fun W (h : GoodS W s) => holdIs s.ho.val s.ho.A s.ho.c W (by have := h.lh; omega) h.rh.rd h.gh
  have hr : rightS (sideL s) = (isPosV s.bk.val && (isPu s.pu.val && isHoldV s.ho.val)) := rfl
  rw [hr]
  clear hg hr
  cases h1 : isPosV s.bk.val
  · rw [h1] at cb
    have CB := Lib.hid cb
    clear cb cp ch h1
    go_enter Tryz.func21, Tryz.ntmps21
    go_wp2_with (first | (go_at_call 46; (with_reducible refine (CB.out _ (HG.out.keep (by (repeat' (first | (with_reducible exact Below.refl _ _) | (with_reducible assumption) | (with_reducible refine Below.alloc ?_ ?_ _) | (with_reducible refine Below.setCell ?_ ?_ _) | (with_reducible refine Below.drew ?_) | (with_reducible refine below_drewN ?_ _) | (with_reducible refine below_via ?_ (by with_reducible assumption) ?_) | omega | (simp; done) | (simp; omega)))))).mono ?_); rintro e w1 ⟨rfl, hb1⟩; obtain ⟨fc1, fg1, hc1, hf1, hz1⟩ := bget hb1; (try simp at hz1)) | fail)
    go_ret
    exact ⟨rfl, by (repeat' (first | (with_reducible exact Below.refl _ _) | (with_reducible assumption) | (with_reducible refine Below.alloc ?_ ?_ _) | (with_reducible refine Below.setCell ?_ ?_ _) | (with_reducible refine Below.drew ?_) | (with_reducible refine below_drewN ?_ _) | (with_reducible refine below_via ?_ (by with_reducible assumption) ?_) | omega | (simp; done) | (simp; omega)))⟩
  rw [h1] at cb
  have CB := Lib.hid cb
  cases h2 : isPu s.pu.val
  · rw [h2] at cp
    have CP := Lib.hid cp
    clear cb cp ch h1 h2
    go_enter Tryz.func21, Tryz.ntmps21
    go_wp2_with (first | (go_at_call 46; (with_reducible refine (CB.out _ (HG.out.keep (by (repeat' (first | (with_reducible exact Below.refl _ _) | (with_reducible assumption) | (with_reducible refine Below.alloc ?_ ?_ _) | (with_reducible refine Below.setCell ?_ ?_ _) | (with_reducible refine Below.drew ?_) | (with_reducible refine below_drewN ?_ _) | (with_reducible refine below_via ?_ (by with_reducible assumption) ?_) | omega | (simp; done) | (simp; omega)))))).mono ?_); rintro e w1 ⟨rfl, hb1⟩; obtain ⟨fc1, fg1, hc1, hf1, hz1⟩ := bget hb1; (try simp at hz1)) | (go_at_call 47; (with_reducible refine (CP.out _ (HG.out.keep (by (repeat' (first | (with_reducible exact Below.refl _ _) | (with_reducible assumption) | (with_reducible refine Below.alloc ?_ ?_ _) | (with_reducible refine Below.setCell ?_ ?_ _) | (with_reducible refine Below.drew ?_) | (with_reducible refine below_drewN ?_ _) | (with_reducible refine below_via ?_ (by with_reducible assumption) ?_) | omega | (simp; done) | (simp; omega)))))).mono ?_); rintro e w2 ⟨rfl, hb2⟩; obtain ⟨fc2, fg2, hc2, hf2, hz2⟩ := bget hb2; (try simp at hz2)) | fail)
    go_ret
    exact ⟨rfl, by (repeat' (first | (with_reducible exact Below.refl _ _) | (with_reducible assumption) | (with_reducible refine Below.alloc ?_ ?_ _) | (with_reducible refine Below.setCell ?_ ?_ _) | (with_reducible refine Below.drew ?_) | (with_reducible refine below_drewN ?_ _) | (with_reducible refine below_via ?_ (by with_reducible assumption) ?_) | omega | (simp; done) | (simp; omega)))⟩
  rw [h2] at cp
  have CP := Lib.hid cp
  cases h3 : isHoldV s.ho.val
  all_goals
    rw [h3] at ch
    have CH := Lib.hid ch
    clear cb cp ch h1 h2 h3
    go_enter Tryz.func21, Tryz.ntmps21
    go_wp2_with (first | (go_at_call 46; (with_reducible refine (CB.out _ (HG.out.keep (by (repeat' (first | (with_reducible exact Below.refl _ _) | (with_reducible assumption) | (with_reducible refine Below.alloc ?_ ?_ _) | (with_reducible refine Below.setCell ?_ ?_ _) | (with_reducible refine Below.drew ?_) | (with_reducible refine below_drewN ?_ _) | (with_reducible refine below_via ?_ (by with_reducible assumption) ?_) | omega | (simp; done) | (simp; omega)))))).mono ?_); rintro e w1 ⟨rfl, hb1⟩; obtain ⟨fc1, fg1, hc1, hf1, hz1⟩ := bget hb1; (try simp at hz1)) | (go_at_call 47; (with_reducible refine (CP.out _ (HG.out.keep (by (repeat' (first | (with_reducible exact Below.refl _ _) | (with_reducible assumption) | (with_reducible refine Below.alloc ?_ ?_ _) | (with_reducible refine Below.setCell ?_ ?_ _) | (with_reducible refine Below.drew ?_) | (with_reducible refine below_drewN ?_ _) | (with_reducible refine below_via ?_ (by with_reducible assumption) ?_) | omega | (simp; done) | (simp; omega)))))).mono ?_); rintro e w2 ⟨rfl, hb2⟩; obtain ⟨fc2, fg2, hc2, hf2, hz2⟩ := bget hb2; (try simp at hz2)) | (go_at_call 48; (with_reducible refine (CH.out _ (HG.out.keep (by (repeat' (first | (with_reducible exact Below.refl _ _) | (with_reducible assumption) | (with_reducible refine Below.alloc ?_ ?_ _) | (with_reducible refine Below.setCell ?_ ?_ _) | (with_reducible refine Below.drew ?_) | (with_reducible refine below_drewN ?_ _) | (with_reducible refine below_via ?_ (by with_reducible assumption) ?_) | omega | (simp; done) | (simp; omega)))))).mono ?_); rintro e w3 ⟨rfl, hb3⟩; obtain ⟨fc3, fg3, hc3, hf3, hz3⟩ := bget hb3; (try simp at hz3)) | fail)
    go_ret
    exact ⟨rfl, by (repeat' (first | (with_reducible exact Below.refl _ _) | (with_reducible assumption) | (with_reducible refine Below.alloc ?_ ?_ _) | (with_reducible refine Below.setCell ?_ ?_ _) | (with_reducible refine Below.drew ?_) | (with_reducible refine below_drewN ?_ _) | (with_reducible refine below_via ?_ (by with_reducible assumption) ?_) | omega | (simp; done) | (simp; omega)))⟩
theorem own_lit {w : World} {base g : Nat} {E : TypeId} {v : Value} (hg : base ≤ g) (h : Blk w g E #[v]) : Own w base E 1 (.slice (some ⟨g, 0, none⟩) 1 1) [[v]] :=
  ⟨by simp, by simp, .inr ⟨g, 1, #[v], rfl, hg, h, Nat.le_refl _, by unfold maxLen; omega, by simp, by simp⟩⟩
end Go.Proofs.YtalgfpegaobacaaGreat

/- What a margin unit has more than it must: contract of cover.Excess. -/
namespace Go.Proofs.YtalgfpegaobacaaGreat
open Go.RowKit
theorem rd_grown {w w' : World} {row : Option Nat} {A : Option Addr} {k : Nat} {rows : List (List Value)} (h : Rd w A k rows) (hg : w.grownBy w' row) (hne : ∀ b o, A = some ⟨b, o, none⟩ → row ≠ some b) : Rd w' A k rows := by
  intro i r hr
  obtain ⟨b, o, hA, hb, hc⟩ := h i r hr
  exact ⟨b, o, hA, Nat.lt_of_lt_of_le hb hg.size, fun j v hv => (grown_at hg hb (hne b o hA) _).trans (hc j v hv)⟩
set_option maxRecDepth 100000 in
set_option maxHeartbeats 32000000 in
theorem coverExcess (s : SideV) (x : AcctV) (u : Un) (w : World) (hg : GoodS w s) (hx : GoodA w x) (hxl : x.clients.val.length ≤ 1000) :
    Calls Tryz.prog 9 #[.agg #[.slice (s).ats.A (s).ats.val.length (s).ats.c, .slice (s).ins.A (s).ins.val.length (s).ins.c, .slice (s).bk.A (s).bk.val.length (s).bk.c, .slice (s).pu.A (s).pu.val.length (s).pu.c, .slice (s).ho.A (s).ho.val.length (s).ho.c], .agg #[.int .i64 x.id, .int .i64 x.member, .int .i64 x.kind, .slice x.clients.A x.clients.val.length x.clients.c], .agg #[.int .i64 u.acc, .int .i64 u.cli]] w fun e w' => e = .returned (.tuple #[.int .i64 (excN (sideL s) (lgA x) u), .int .i64 (excC (sideL s) (lgA x) u)]) ∧ Below w.heap.size w w' := by
  have HG := Lib.hid hg
  have HX := Lib.hid hx
  have cr := fun W (h : GoodS W s) => coverRight s W h
  have hpl := partsN_len (lgA x) u
  rw [show (lgA x).clients.length = x.clients.val.length from rfl] at hpl
  have CN0 := fun W (h : GoodS W s) (h2 : GoodA W x) => needOf s.ins.val s.bk.val x u s.ins.A s.bk.A s.ins.c s.bk.c W (by have := h.li; omega) (by have := h.lb; omega) (by omega) h.b64 h.ri h.gi h.rb h.gb h2
  have HC := Lib.hid (show excC (sideL s) (lgA x) u = if rightS (sideL s) then (if nofC s.ins.val (s.bk.val.map lgPosV) (lgA x) u = 0 then (if firstC (partC (sideL s)) (partsN (lgA x) u) = 0 then sum64C (excL (sideL s) (lgA x) u) else firstC (partC (sideL s)) (partsN (lgA x) u)) else nofC s.ins.val (s.bk.val.map lgPosV) (lgA x) u) else 3 from rfl)
  have HN := Lib.hid (show excN (sideL s) (lgA x) u = if rightS (sideL s) then (if nofC s.ins.val (s.bk.val.map lgPosV) (lgA x) u = 0 then (if firstC (partC (sideL s)) (partsN (lgA x) u) = 0 then sum64N (excL (sideL s) (lgA x) u) else 0) else 0) else 0 from rfl)
  have HEL := Lib.hid (show excL (sideL s) (lgA x) u = -(nofN s.ins.val (s.bk.val.map lgPosV) (lgA x) u) :: (partsN (lgA x) u).map (partN (sideL s)) from rfl)
  obtain ⟨hnp, hn64⟩ := nofN_pos s.ins.val (s.bk.val.map lgPosV) (lgA x) u
  have CPA := Lib.hid (fun W (h : GoodA W x) => needParts x u W (by omega) h)
  have HPC := Lib.hid (fun v => (show partC (sideL s) v = valC s.ats.val (ofK (s.ho.val.map lgHoldV) v) (getPu s.pu.val v) from rfl))
  have HPN := Lib.hid (fun v => (show partN (sideL s) v = valN s.ats.val (ofK (s.ho.val.map lgHoldV) v) (getPu s.pu.val v) from rfl))
  have HP64 := Lib.hid (fun v => (show In64 (partN (sideL s) v) from by
    unfold partN valN
    split
    · exact sum64_in _
    · unfold In64; omega))
  generalize excC (sideL s) (lgA x) u = RC at *
  generalize excN (sideL s) (lgA x) u = RN at *
  generalize excL (sideL s) (lgA x) u = EL at *
  generalize nofC s.ins.val (s.bk.val.map lgPosV) (lgA x) u = nc at *
  generalize nofN s.ins.val (s.bk.val.map lgPosV) (lgA x) u = nn at *
  generalize partsN (lgA x) u = ps at *
  generalize partC (sideL s) = fC at *
  generalize partN (sideL s) = fN at *
  have CN := Lib.hid CN0
  clear CN0 hg hx
  cases hr : rightS (sideL s)
  · rw [hr] at cr
    have CR := Lib.hid cr
    have HC2 := Lib.hid (show RC = 3 from by rw [HC.out, hr]; rfl)
    have HN2 := Lib.hid (show RN = 0 from by rw [HN.out, hr]; rfl)
    clear cr hr
    go_enter Tryz.func9, Tryz.ntmps9
    go_wp2_with (first | (go_at_call 21; (with_reducible refine (CR.out _ (HG.out.keep (by (repeat' (first | (with_reducible exact Below.refl _ _) | (with_reducible assumption) | (with_reducible refine Below.alloc ?_ ?_ _) | (with_reducible refine Below.setCell ?_ ?_ _) | (with_reducible refine Below.drew ?_) | (with_reducible refine below_drewN ?_ _) | (with_reducible refine below_via ?_ (by with_reducible assumption) ?_) | omega | (simp; done) | (simp; omega)))))).mono ?_); rintro e w1 ⟨rfl, hb1⟩; obtain ⟨fc1, fg1, hc1, hf1, hz1⟩ := bget hb1; (try simp at hz1)) | fail)
    go_ret2
    exact ⟨by rw [HC2.out, HN2.out]; rfl, by (repeat' (first | (with_reducible exact Below.refl _ _) | (with_reducible assumption) | (with_reducible refine Below.alloc ?_ ?_ _) | (with_reducible refine Below.setCell ?_ ?_ _) | (with_reducible refine Below.drew ?_) | (with_reducible refine below_drewN ?_ _) | (with_reducible refine below_via ?_ (by with_reducible assumption) ?_) | omega | (simp; done) | (simp; omega)))⟩
  rw [hr] at cr
  have CR := Lib.hid cr
  by_cases h0 : nc = 0
  rotate_left
  · have HC2 := Lib.hid (show RC = nc from by rw [HC.out, hr, if_pos rfl, if_neg h0])
    have HN2 := Lib.hid (show RN = 0 from by rw [HN.out, hr, if_pos rfl, if_neg h0])
    have d0 : (nc != 0) = true := by simpa using h0
    have d1 : (nc == 0) = false := by simpa using h0
    clear cr hr h0
    go_enter Tryz.func9, Tryz.ntmps9
    go_wp2_with (first | (go_at_call 21; (with_reducible refine (CR.out _ (HG.out.keep (by (repeat' (first | (with_reducible exact Below.refl _ _) | (with_reducible assumption) | (with_reducible refine Below.alloc ?_ ?_ _) | (with_reducible refine Below.setCell ?_ ?_ _) | (with_reducible refine Below.drew ?_) | (with_reducible refine below_drewN ?_ _) | (with_reducible refine below_via ?_ (by with_reducible assumption) ?_) | omega | (simp; done) | (simp; omega)))))).mono ?_); rintro e w1 ⟨rfl, hb1⟩; obtain ⟨fc1, fg1, hc1, hf1, hz1⟩ := bget hb1; (try simp at hz1)) | (go_at_call 22; (with_reducible refine (CN.out _ (HG.out.keep (by (repeat' (first | (with_reducible exact Below.refl _ _) | (with_reducible assumption) | (with_reducible refine Below.alloc ?_ ?_ _) | (with_reducible refine Below.setCell ?_ ?_ _) | (with_reducible refine Below.drew ?_) | (with_reducible refine below_drewN ?_ _) | (with_reducible refine below_via ?_ (by with_reducible assumption) ?_) | omega | (simp; done) | (simp; omega))))) (HX.out.keep (by (repeat' (first | (with_reducible exact Below.refl _ _) | (with_reducible assumption) | (with_reducible refine Below.alloc ?_ ?_ _) | (with_reducible refine Below.setCell ?_ ?_ _) | (with_reducible refine Below.drew ?_) | (with_reducible refine below_drewN ?_ _) | (with_reducible refine below_via ?_ (by with_reducible assumption) ?_) | omega | (simp; done) | (simp; omega)))))).mono ?_); rintro e w2 ⟨rfl, hb2⟩; obtain ⟨fc2, fg2, hc2, hf2, hz2⟩ := bget hb2; (try simp at hz2)) | fail)
    go_ret2
    exact ⟨by rw [HC2.out, HN2.out]; rfl, by (repeat' (first | (with_reducible exact Below.refl _ _) | (with_reducible assumption) | (with_reducible refine Below.alloc ?_ ?_ _) | (with_reducible refine Below.setCell ?_ ?_ _) | (with_reducible refine Below.drew ?_) | (with_reducible refine below_drewN ?_ _) | (with_reducible refine below_via ?_ (by with_reducible assumption) ?_) | omega | (simp; done) | (simp; omega)))⟩
  have HC2 := Lib.hid (show RC = if firstC fC ps = 0 then sum64C EL else firstC fC ps from by rw [HC.out, hr, if_pos rfl, if_pos h0])
  have HN2 := Lib.hid (show RN = if firstC fC ps = 0 then sum64N EL else 0 from by rw [HN.out, hr, if_pos rfl, if_pos h0])
  have wn : IntKind.i64.wrap (-nn) = -nn := IntWalk.i64_in _ (by unfold In64 at hn64; omega)
  have hm64 : In64 (-nn) := by unfold In64 at *; omega
  rw [h0] at CN
  clear cr hr h0 HC HN
  go_enter Tryz.func9, Tryz.ntmps9
  go_wp2_with (first | (go_at_call 21; (with_reducible refine (CR.out _ (HG.out.keep (by (repeat' (first | (with_reducible exact Below.refl _ _) | (with_reducible assumption) | (with_reducible refine Below.alloc ?_ ?_ _) | (with_reducible refine Below.setCell ?_ ?_ _) | (with_reducible refine Below.drew ?_) | (with_reducible refine below_drewN ?_ _) | (with_reducible refine below_via ?_ (by with_reducible assumption) ?_) | omega | (simp; done) | (simp; omega)))))).mono ?_); rintro e w1 ⟨rfl, hb1⟩; obtain ⟨fc1, fg1, hc1, hf1, hz1⟩ := bget hb1; (try simp at hz1)) | (go_at_call 22; (with_reducible refine (CN.out _ (HG.out.keep (by (repeat' (first | (with_reducible exact Below.refl _ _) | (with_reducible assumption) | (with_reducible refine Below.alloc ?_ ?_ _) | (with_reducible refine Below.setCell ?_ ?_ _) | (with_reducible refine Below.drew ?_) | (with_reducible refine below_drewN ?_ _) | (with_reducible refine below_via ?_ (by with_reducible assumption) ?_) | omega | (simp; done) | (simp; omega))))) (HX.out.keep (by (repeat' (first | (with_reducible exact Below.refl _ _) | (with_reducible assumption) | (with_reducible refine Below.alloc ?_ ?_ _) | (with_reducible refine Below.setCell ?_ ?_ _) | (with_reducible refine Below.drew ?_) | (with_reducible refine below_drewN ?_ _) | (with_reducible refine below_via ?_ (by with_reducible assumption) ?_) | omega | (simp; done) | (simp; omega)))))).mono ?_); rintro e w2 ⟨rfl, hb2⟩; obtain ⟨fc2, fg2, hc2, hf2, hz2⟩ := bget hb2; (try simp at hz2)) | (go_at_call 23; (with_reducible refine (CPA.out _ (HX.out.keep (by (repeat' (first | (with_reducible exact Below.refl _ _) | (with_reducible assumption) | (with_reducible refine Below.alloc ?_ ?_ _) | (with_reducible refine Below.setCell ?_ ?_ _) | (with_reducible refine Below.drew ?_) | (with_reducible refine below_drewN ?_ _) | (with_reducible refine below_via ?_ (by with_reducible assumption) ?_) | omega | (simp; done) | (simp; omega)))))).mono ?_); rintro e w3 ⟨A3, c3, rfl, hrs3, hb3⟩; have HS3 := Lib.hid hrs3.rd; clear hrs3; obtain ⟨fc3, fg3, hc3, hf3, hz3⟩ := bget hb3; (try simp at hz3)) | fail)
  have b0 : w3.cell? ⟨w.heap.size, 0, none⟩ = some (.slice s.ats.A s.ats.val.length s.ats.c) := by simp [hc3, hc2, hc1, go_sem, ↓IntWalk.iteOmega]
  have b3 : w3.cell? ⟨w.heap.size, 3, none⟩ = some (.slice s.pu.A s.pu.val.length s.pu.c) := by simp [hc3, hc2, hc1, go_sem, ↓IntWalk.iteOmega]
  have b4 : w3.cell? ⟨w.heap.size, 4, none⟩ = some (.slice s.ho.A s.ho.val.length s.ho.c) := by simp [hc3, hc2, hc1, go_sem, ↓IntWalk.iteOmega]
  have HB := Lib.hid (And.intro b0 (And.intro b3 b4))
  have hbk : Blk w3 w2.heap.size 2 #[.int .i64 (-nn)] := (Blk.new w2 _ _).below hb3 (by simp)
  have HO := Lib.hid (own_lit (Nat.le_refl _) hbk)
  have HA3 := Lib.hid (show ps ≠ [] → ∀ b o, A3 = some ⟨b, o, none⟩ → b ≠ w2.heap.size from fun hne b o hA e => by
    obtain ⟨p, t, rfl⟩ := List.exists_cons_of_ne_nil hne
    obtain ⟨b', o', hA', _, hc⟩ := HS3.out 0 (encUn p) rfl
    rw [hA] at hA'
    injection hA' with hA'
    injection hA' with e1 e2 _
    subst e1 e2
    have h1 := hc 1 _ rfl
    rw [e, hbk.cell] at h1
    simp at h1)
  have Hw3 := Lib.hid (show Below w.heap.size w w3 by (repeat' (first | (with_reducible exact Below.refl _ _) | (with_reducible assumption) | (with_reducible refine Below.alloc ?_ ?_ _) | (with_reducible refine Below.setCell ?_ ?_ _) | (with_reducible refine Below.drew ?_) | (with_reducible refine below_drewN ?_ _) | (with_reducible refine below_via ?_ (by with_reducible assumption) ?_) | omega | (simp; done) | (simp; omega))))
  have hw32 : w2.heap.size < w3.heap.size := by omega
  have hww : w.heap.size + 2 < w2.heap.size := by omega
  clear b0 b3 b4 hbk hc1 hf1 hb1 hc2 hf2 hb2 hc3 hf3 hb3
  generalize hgwe : w2.heap.size = gw at *
  clear hgwe
  go_loopw [10, 38] (fun v i wr => ∃ k : Nat, k ≤ ps.length ∧ i = .int .i64 k ∧ firstC fC ps = firstC fC (ps.drop k) ∧ Own wr gw 2 1 v ((-nn :: (ps.take k).map fN).map encI) ∧ (k < ps.length → ∀ b o, A3 = some ⟨b, o, none⟩ → v.ownBlock ≠ some b) ∧ (k < ps.length → Rd wr A3 2 (ps.map encUn)) ∧ Below gw w3 wr) (fun _ i _ => ps.length - (intOf i).toNat)
  case atStart => exact ⟨0, Nat.zero_le _, rfl, rfl, HO.out, fun h b o hA e => by
    have h1 := HA3.out (by intro e; rw [e] at h; simp at h) b o hA
    simp only [Value.ownBlock, Option.some.injEq] at e
    exact h1 e.symm, fun _ => HS3.out, Below.refl _ _⟩
  case round =>
    obtain ⟨k, hk, rfl, hv, hown, hob, hrd, hbl⟩ := hrel
    have HV := Lib.hid hv
    have Hown := Lib.hid hown
    have Hob := Lib.hid hob
    have Hbl := Lib.hid hbl
    have hz := hbl.size
    have HWR := Lib.hid (Hw3.out.trans (hbl.mono (by omega)))
    have b0 := (hbl.cell (p := ⟨w.heap.size, 0, none⟩) (by simp; omega)).trans HB.out.1
    have b3 := (hbl.cell (p := ⟨w.heap.size, 3, none⟩) (by simp; omega)).trans HB.out.2.1
    have b4 := (hbl.cell (p := ⟨w.heap.size, 4, none⟩) (by simp; omega)).trans HB.out.2.2
    clear hv hown hob hbl
    by_cases hlt : k < ps.length
    · have dl : decide ((k : Int) < (ps.length : Int)) = true := by simpa using hlt
      have kl : (k : Int) < (ps.length : Int) := by omega
      have hrd := hrd hlt
      obtain ⟨b, o, rfl, hb, hc⟩ := hrd k (encUn ps[k]) (by simp [hlt])
      have e0 := hc 0 _ rfl
      have e1 := hc 1 _ rfl
      simp only [Nat.add_zero] at e0
      have HRD := Lib.hid hrd
      have HOB := Lib.hid (Hob.out hlt b o rfl)
      clear hc hrd
      have HD := Lib.hid (drop_cons' hlt)
      have HM := Lib.hid (show (-nn :: (ps.take (k + 1)).map fN).map encI = (-nn :: (ps.take k).map fN).map encI ++ [encI (fN ps[k])] from by rw [map_snoc hlt]; simp)
      have hlk : ((-nn :: (ps.take k).map fN).map encI).length ≤ 1100 := by simp; omega
      have hpc := HPC.out ps[k]
      have hpn := HPN.out ps[k]
      generalize ps[k] = v at *
      generalize (-nn :: (ps.take k).map fN) = Z at *
      have CHL := Lib.hid (fun W (h : GoodS W s) => holdOf s.ho.val v s.ho.A s.ho.c W (by have := h.lh; omega) h.rh.rd h.gh)
      have CPG := Lib.hid (fun W (h : GoodS W s) => purseGet s.pu.val v s.pu.A s.pu.c W (by have := h.lp; omega) h.rp.rd)
      have cvv := fun A1 c1 W (h : GoodS W s) (h2 : Rd W A1 3 ((ofK (s.ho.val.map lgHoldV) v).map encLot)) => coverValue s.ats.val (ofK (s.ho.val.map lgHoldV) v) (getPu s.pu.val v) s.ats.A A1 s.ats.c c1 W (by have := h.la; omega) (by have := (h.hq.of v).1; omega) (getPu_in h.p64 v) (h.hq.of v).2 h.ra h2
      rw [← hpc, ← hpn] at cvv
      generalize ofK (s.ho.val.map lgHoldV) v = O at *
      by_cases h0 : fC v = 0
      · have HN0 := Lib.hid (show firstC fC ps = firstC fC (ps.drop (k + 1)) from by rw [HV.out, HD.out]; exact firstC_step h0)
        rw [h0] at cvv
        have CVV := Lib.hid cvv
        clear cvv h0 hpc hpn
        generalize fN v = q at *
        go_wp2_with fail
        go_region_held3 (fun w' => ((w'.cell? ⟨w.heap.size, 0, none⟩ = some (.slice s.ats.A s.ats.val.length s.ats.c) ∧ w'.cell? ⟨w.heap.size, 3, none⟩ = some (.slice s.pu.A s.pu.val.length s.pu.c) ∧ w'.cell? ⟨w.heap.size, 4, none⟩ = some (.slice s.ho.A s.ho.val.length s.ho.c)) ∧ w'.cell? ⟨wr.heap.size, 0, none⟩ = some (.int .i64 v.acc) ∧ w'.cell? ⟨wr.heap.size, 1, none⟩ = some (.int .i64 v.cli))) (first | (simp [go_sem]; done) | (repeat' (first | (with_reducible assumption) | (with_reducible refine And.intro ?_ ?_) | (with_reducible refine cell_drew ?_) | (with_reducible refine cell_via (by with_reducible assumption) ?_ ?_) | (simp [*]; done) | (simp [go_sem]; done) | (with_reducible refine cell_alloc ?_ ?_) | (with_reducible refine cell_set_far ?_ ?_) | omega | (simp; omega)))) (first | (go_at_call 24; (with_reducible refine (CHL.out _ (HG.out.keep (by have h1 := HWR.out; (repeat' (first | (with_reducible exact Below.refl _ _) | (with_reducible assumption) | (with_reducible refine Below.alloc ?_ ?_ _) | (with_reducible refine Below.setCell ?_ ?_ _) | (with_reducible refine Below.drew ?_) | (with_reducible refine below_drewN ?_ _) | (with_reducible refine below_via ?_ (by with_reducible assumption) ?_) | omega | (simp; done) | (simp; omega)))))).mono ?_); rintro e w6 ⟨v6, rfl, hown6, hb6⟩; obtain ⟨A6, c6, hv6, hrs6, _⟩ := hown6.rs; (rw [List.length_map] at hv6); subst hv6; have HS6 := Lib.hid hrs6.rd; clear hown6 hrs6; obtain ⟨fc6, fg6, hc6, hf6, hz6⟩ := bget hb6; (try simp at hz6)) | (go_at_call 25; (with_reducible refine (CPG.out _ (HG.out.keep (by have h1 := HWR.out; (repeat' (first | (with_reducible exact Below.refl _ _) | (with_reducible assumption) | (with_reducible refine Below.alloc ?_ ?_ _) | (with_reducible refine Below.setCell ?_ ?_ _) | (with_reducible refine Below.drew ?_) | (with_reducible refine below_drewN ?_ _) | (with_reducible refine below_via ?_ (by with_reducible assumption) ?_) | omega | (simp; done) | (simp; omega)))))).mono ?_); rintro e w7 ⟨rfl, hb7⟩; obtain ⟨fc7, fg7, hc7, hf7, hz7⟩ := bget hb7; (try simp at hz7)) | (go_at_call 19; (with_reducible refine (CVV.out _ _ _ (HG.out.keep (by have h1 := HWR.out; (repeat' (first | (with_reducible exact Below.refl _ _) | (with_reducible assumption) | (with_reducible refine Below.alloc ?_ ?_ _) | (with_reducible refine Below.setCell ?_ ?_ _) | (with_reducible refine Below.drew ?_) | (with_reducible refine below_drewN ?_ _) | (with_reducible refine below_via ?_ (by with_reducible assumption) ?_) | omega | (simp; done) | (simp; omega))))) (HS6.out.keep (by (repeat' (first | (with_reducible exact Below.refl _ _) | (with_reducible assumption) | (with_reducible refine Below.alloc ?_ ?_ _) | (with_reducible refine Below.setCell ?_ ?_ _) | (with_reducible refine Below.drew ?_) | (with_reducible refine below_drewN ?_ _) | (with_reducible refine below_via ?_ (by with_reducible assumption) ?_) | omega | (simp; done) | (simp; omega)))))).mono ?_); rintro e w8 ⟨rfl, hb8⟩; obtain ⟨fc8, fg8, hc8, hf8, hz8⟩ := bget hb8; (try simp at hz8)) | fail)
        all_goals
          go_wp2_with (first | (at_builtin; refine wpList_appAt rfl _ _ _ rfl elIv gw _ _ rfl (Hown.out.keep (by (repeat' (first | (with_reducible exact Below.refl _ _) | (with_reducible assumption) | (with_reducible refine Below.alloc ?_ ?_ _) | (with_reducible refine Below.setCell ?_ ?_ _) | (with_reducible refine Below.drew ?_) | (with_reducible refine below_drewN ?_ _) | (with_reducible refine below_via ?_ (by with_reducible assumption) ?_) | omega | (simp; done) | (simp; omega))))) ⟨_, 0, none⟩ 1 1 rfl [encI q] rfl (rd_oneN (by simp)) (rowsIv [q]) (by unfold maxLen; simp only [List.length_map] at hlk ⊢; omega) (by simp only [List.length_map] at hlk ⊢; omega) (by first | omega | (simp; done) | (simp; omega)) ?_; intro v9 w9 hown9 hb9 hg9 hat9; have HO9 := Lib.hid hown9; have HG9 := Lib.hid hg9; have HA9 := Lib.hid hat9; clear hown9 hg9 hat9; obtain ⟨fc9, fg9, hc9, hf9, hz9⟩ := bget hb9; (try simp at hz9)) | fail)
          go_roundw
          case rel => exact ⟨k + 1, by omega, by go_num, HN0.out, by rw [HM.out]; exact HO9.out, fun _ b' o' hA e => by
            injection hA with hA
            injection hA with e1 _ _
            subst e1
            rcases HA9.out with h | h
            · exact HOB.out (h.symm.trans e)
            · rw [h] at e
              injection e with e
              revert e
              (first | omega | (simp; omega)), fun _ => rd_grown (HRD.out.keep (by (repeat' (first | (with_reducible exact Below.refl _ _) | (with_reducible assumption) | (with_reducible refine Below.alloc ?_ ?_ _) | (with_reducible refine Below.setCell ?_ ?_ _) | (with_reducible refine Below.drew ?_) | (with_reducible refine below_drewN ?_ _) | (with_reducible refine below_via ?_ (by with_reducible assumption) ?_) | omega | (simp; done) | (simp; omega))))) HG9.out (fun b' o' hA e => by
            injection hA with hA
            injection hA with e1 _ _
            subst e1
            exact HOB.out e), by have hbl := Hbl.out; (repeat' (first | (with_reducible exact Below.refl _ _) | (with_reducible assumption) | (with_reducible refine Below.alloc ?_ ?_ _) | (with_reducible refine Below.setCell ?_ ?_ _) | (with_reducible refine Below.drew ?_) | (with_reducible refine below_drewN ?_ _) | (with_reducible refine below_via ?_ (by with_reducible assumption) ?_) | omega | (simp; done) | (simp; omega)))⟩
          case measure => simp [intOf]; omega
      · have HF := Lib.hid (show firstC fC ps = fC v from by rw [HV.out, HD.out]; exact firstC_stop h0)
        have HC3 := Lib.hid (show RC = fC v from by rw [HC2.out, HF.out, if_neg h0])
        have HN3 := Lib.hid (show RN = 0 from by rw [HN2.out, HF.out, if_neg h0])
        have n0 : (fC v != 0) = true := by simpa using h0
        have n1 : (fC v == 0) = false := by simpa using h0
        have CVV := Lib.hid cvv
        clear cvv h0 hpc hpn
        generalize fN v = q at *
        generalize fC v = code at *
        go_wp2_with fail
        go_region_held3 (fun w' => ((w'.cell? ⟨w.heap.size, 0, none⟩ = some (.slice s.ats.A s.ats.val.length s.ats.c) ∧ w'.cell? ⟨w.heap.size, 3, none⟩ = some (.slice s.pu.A s.pu.val.length s.pu.c) ∧ w'.cell? ⟨w.heap.size, 4, none⟩ = some (.slice s.ho.A s.ho.val.length s.ho.c)) ∧ w'.cell? ⟨wr.heap.size, 0, none⟩ = some (.int .i64 v.acc) ∧ w'.cell? ⟨wr.heap.size, 1, none⟩ = some (.int .i64 v.cli))) (first | (simp [go_sem]; done) | (repeat' (first | (with_reducible assumption) | (with_reducible refine And.intro ?_ ?_) | (with_reducible refine cell_drew ?_) | (with_reducible refine cell_via (by with_reducible assumption) ?_ ?_) | (simp [*]; done) | (simp [go_sem]; done) | (with_reducible refine cell_alloc ?_ ?_) | (with_reducible refine cell_set_far ?_ ?_) | omega | (simp; omega)))) (first | (go_at_call 24; (with_reducible refine (CHL.out _ (HG.out.keep (by have h1 := HWR.out; (repeat' (first | (with_reducible exact Below.refl _ _) | (with_reducible assumption) | (with_reducible refine Below.alloc ?_ ?_ _) | (with_reducible refine Below.setCell ?_ ?_ _) | (with_reducible refine Below.drew ?_) | (with_reducible refine below_drewN ?_ _) | (with_reducible refine below_via ?_ (by with_reducible assumption) ?_) | omega | (simp; done) | (simp; omega)))))).mono ?_); rintro e w6 ⟨v6, rfl, hown6, hb6⟩; obtain ⟨A6, c6, hv6, hrs6, _⟩ := hown6.rs; (rw [List.length_map] at hv6); subst hv6; have HS6 := Lib.hid hrs6.rd; clear hown6 hrs6; obtain ⟨fc6, fg6, hc6, hf6, hz6⟩ := bget hb6; (try simp at hz6)) | (go_at_call 25; (with_reducible refine (CPG.out _ (HG.out.keep (by have h1 := HWR.out; (repeat' (first | (with_reducible exact Below.refl _ _) | (with_reducible assumption) | (with_reducible refine Below.alloc ?_ ?_ _) | (with_reducible refine Below.setCell ?_ ?_ _) | (with_reducible refine Below.drew ?_) | (with_reducible refine below_drewN ?_ _) | (with_reducible refine below_via ?_ (by with_reducible assumption) ?_) | omega | (simp; done) | (simp; omega)))))).mono ?_); rintro e w7 ⟨rfl, hb7⟩; obtain ⟨fc7, fg7, hc7, hf7, hz7⟩ := bget hb7; (try simp at hz7)) | (go_at_call 19; (with_reducible refine (CVV.out _ _ _ (HG.out.keep (by have h1 := HWR.out; (repeat' (first | (with_reducible exact Below.refl _ _) | (with_reducible assumption) | (with_reducible refine Below.alloc ?_ ?_ _) | (with_reducible refine Below.setCell ?_ ?_ _) | (with_reducible refine Below.drew ?_) | (with_reducible refine below_drewN ?_ _) | (with_reducible refine below_via ?_ (by with_reducible assumption) ?_) | omega | (simp; done) | (simp; omega))))) (HS6.out.keep (by (repeat' (first | (with_reducible exact Below.refl _ _) | (with_reducible assumption) | (with_reducible refine Below.alloc ?_ ?_ _) | (with_reducible refine Below.setCell ?_ ?_ _) | (with_reducible refine Below.drew ?_) | (with_reducible refine below_drewN ?_ _) | (with_reducible refine below_via ?_ (by with_reducible assumption) ?_) | omega | (simp; done) | (simp; omega)))))).mono ?_); rintro e w8 ⟨rfl, hb8⟩; obtain ⟨fc8, fg8, hc8, hf8, hz8⟩ := bget hb8; (try simp at hz8)) | fail)
        all_goals
          go_wp2_with fail
          go_ret2
          exact ⟨by rw [HC3.out, HN3.out]; rfl, by have h1 := HWR.out; (repeat' (first | (with_reducible exact Below.refl _ _) | (with_reducible assumption) | (with_reducible refine Below.alloc ?_ ?_ _) | (with_reducible refine Below.setCell ?_ ?_ _) | (with_reducible refine Below.drew ?_) | (with_reducible refine below_drewN ?_ _) | (with_reducible refine below_via ?_ (by with_reducible assumption) ?_) | omega | (simp; done) | (simp; omega)))⟩
    · have dl : decide ((k : Int) < (ps.length : Int)) = false := by simpa using hlt
      have HF := Lib.hid (show firstC fC ps = 0 from by rw [HV.out, List.drop_eq_nil_of_le (by omega)]; rfl)
      have HC3 := Lib.hid (show RC = sum64C EL from by rw [HC2.out, HF.out, if_pos rfl])
      have HN3 := Lib.hid (show RN = sum64N EL from by rw [HN2.out, HF.out, if_pos rfl])
      have ho := Hown.out
      rw [List.take_of_length_le (show ps.length ≤ k by omega), ← HEL.out] at ho
      obtain ⟨A2, c2, hv2, hrs2, _⟩ := ho.rs
      rw [List.length_map] at hv2
      have hel : EL.length ≤ 2000 := by rw [HEL.out]; simp; omega
      subst hv2
      have CS := Lib.hid (fixSum64 EL A2 c2 wr (by omega) (fun n hn => by
        rw [HEL.out] at hn
        rcases List.mem_cons.1 hn with rfl | hn
        · exact hm64
        · obtain ⟨v, _, rfl⟩ := List.mem_map.1 hn
          exact HP64.out v) hrs2.rd)
      clear ho hrs2 hrd
      go_wp2_with (first | (go_at_call 26; (with_reducible refine (CS.out).mono ?_); rintro e w4 ⟨rfl, hb4⟩; obtain ⟨fc4, fg4, hc4, hf4, hz4⟩ := bget hb4; (try simp at hz4)) | fail)
      go_ret2
      exact ⟨by rw [HC3.out, HN3.out]; rfl, by have h1 := HWR.out; (repeat' (first | (with_reducible exact Below.refl _ _) | (with_reducible assumption) | (with_reducible refine Below.alloc ?_ ?_ _) | (with_reducible refine Below.setCell ?_ ?_ _) | (with_reducible refine Below.drew ?_) | (with_reducible refine below_drewN ?_ _) | (with_reducible refine below_via ?_ (by with_reducible assumption) ?_) | omega | (simp; done) | (simp; omega)))⟩
end Go.Proofs.YtalgfpegaobacaaGreat

/- Which have too little: contracts of need.Units (in memory of its own), cover.Calls. -/
namespace Go.Proofs.YtalgfpegaobacaaGreat
open Go.RowKit
end Go.Proofs.YtalgfpegaobacaaGreat

/- Which have too little: contract of cover.Calls. -/
namespace Go.Proofs.YtalgfpegaobacaaGreat
open Go.RowKit
end Go.Proofs.YtalgfpegaobacaaGreat
