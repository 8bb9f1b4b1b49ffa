/- Joined: Cv7, CvL, Ref15a, Acct3. -/
import Derived.Test.YtalgfpegaobacaaGreatJz17
import Derived.Test.YtalgfpegaobacaaGreatJz10
/- Layer 27's laws: Few. -/
namespace Go.Proofs.YtalgfpegaobacaaGreat
open Go.RowKit
/-- A side handed in. -/
structure RawS (w : World) (s : SideV) : Prop where
  la : s.ats.val.length ≤ maxLen
  ra : Rd w s.ats.A 3 (s.ats.val.map encAsset)
  li : s.ins.val.length ≤ maxLen
  ri : Rd w s.ins.A 5 (s.ins.val.map encInstV)
  gi : ∀ x ∈ s.ins.val, GoodI w x
  lb : s.bk.val.length ≤ maxLen
  rb : Rd w s.bk.A 3 (s.bk.val.map encPosV)
  gb : ∀ x ∈ s.bk.val, Rs w 2 (x.legs.val.map encLeg) x.legs.A x.legs.c
  b64 : ∀ x ∈ s.bk.val, Legs64 x.legs.val
  rp : Rs w 3 (s.pu.val.map encFlow) s.pu.A s.pu.c
  p64 : ∀ x ∈ s.pu.val, In64 x.amount
  lh : s.ho.val.length ≤ maxLen
  rh : Rd w s.ho.A 3 (s.ho.val.map encHoldV)
  gh : ∀ x ∈ s.ho.val, Rs w 3 (x.lots.val.map encLot) x.lots.A x.lots.c
  h64 : ∀ x ∈ s.ho.val, ∀ z ∈ x.lots.val, In64 z.qty
/-- What a side is, as the laws take it. -/
structure FewS (w : World) (s : SideV) : Prop where
  good : GoodS w s
  ok : ∀ a ∈ s.ats.val, okA a
  lp : s.pu.val.length ≤ 20
  lh : s.ho.val.length ≤ 10
  form : (s.ho.A = none ∧ s.ho.val = [] ∧ s.ho.c = 0) ∨ ∃ b o, s.ho.A = some ⟨b, o, none⟩
theorem FewS.keep {w w' : World} {s : SideV} (h : FewS w s) (hb : Below w.heap.size w w') : FewS w' s := ⟨h.good.keep hb, h.ok, h.lp, h.lh, h.form⟩
/-- All blocks from base on are as they were. -/
structure Late (base : Nat) (w X : World) : Prop where
  size : w.heap.size ≤ X.heap.size
  block : ∀ b, base ≤ b → b < w.heap.size → X.heap[b]? = w.heap[b]?
theorem Late.refl (base : Nat) (w : World) : Late base w w := ⟨Nat.le_refl _, fun _ _ _ => rfl⟩
theorem Late.below {base : Nat} {w X Y : World} (h : Late base w X) (hb : Below X.heap.size X Y) : Late base w Y :=
  ⟨Nat.le_trans h.size hb.size, fun b h1 h2 => (hb.block b (Nat.lt_of_lt_of_le h2 h.size)).trans (h.block b h1 h2)⟩
theorem Late.set {base : Nat} {w X : World} (h : Late base w X) {p : Addr} (hp : p.block < base ∨ w.heap.size ≤ p.block) (v : Value) : Late base w (X.setCell p v) :=
  ⟨by simpa [World.setCell] using h.size, fun b h1 h2 => (Below.heap_setCell X p v b (by omega)).trans (h.block b h1 h2)⟩
theorem Own.late {base b0 E k : Nat} {v : Value} {rows : List (List Value)} {w X : World} (h : Own w b0 E k v rows) (hl : Late base w X) (hb : base ≤ b0) : Own X b0 E k v rows := by
  refine ⟨h.1, h.2.1, ?_⟩
  rcases h.2.2 with h2 | ⟨g, cap, cur, hv, hg, hh, r⟩
  · exact .inl h2
  · exact .inr ⟨g, cap, cur, hv, hg, (hl.block g (Nat.le_trans hb hg) (Array.getElem?_eq_some_iff.1 hh).1).trans hh, r⟩
/-- What the laws make of a side: what is new lies from base on, the rest in the elder world. -/
structure FewT (w0 : World) (base : Nat) (w : World) (t : SideV) : Prop where
  oa : Own w base 63 3 (.slice t.ats.A t.ats.val.length t.ats.c) (t.ats.val.map encAsset)
  la : t.ats.val.length ≤ 1000
  oi : Own w base 91 5 (.slice t.ins.A t.ins.val.length t.ins.c) (t.ins.val.map encInstV)
  li : t.ins.val.length ≤ 1000
  gi : ∀ x ∈ t.ins.val, x.moves.val.length ≤ 1048576 ∧ GoodI w0 x
  ob : Own w base 94 3 (.slice t.bk.A t.bk.val.length t.bk.c) (t.bk.val.map encPosV)
  lb : t.bk.val.length ≤ 1000
  gb : ∀ x ∈ t.bk.val, GoodPosV w0 x
  b64 : L64 (t.bk.val.map lgPosV)
  rp : Rs w0 3 (t.pu.val.map encFlow) t.pu.A t.pu.c
  lp : t.pu.val.length ≤ 20
  p64 : ∀ x ∈ t.pu.val, In64 x.amount
  oh : Own w base 97 3 (.slice t.ho.A t.ho.val.length t.ho.c) (t.ho.val.map encHoldV)
  lh : t.ho.val.length ≤ 10
  gh : ∀ x ∈ t.ho.val, GoodHoldV w0 x
  hq : LQ (t.ho.val.map lgHoldV)
  ok : ∀ a ∈ t.ats.val, okA a
theorem FewT.few {w0 w X : World} {base : Nat} {t : SideV} (h : FewT w0 base w t) (h0 : Below w0.heap.size w0 X) (hl : Late base w X) : FewS X t :=
  ⟨⟨(h.oa.late hl (Nat.le_refl _)).good.rd, h.la, (h.oi.late hl (Nat.le_refl _)).good.rd, h.li, fun x hx => ⟨(h.gi x hx).1, (h.gi x hx).2.keep h0⟩, (h.ob.late hl (Nat.le_refl _)).good.rd, h.lb, fun x hx => (h.gb x hx).keep h0, h.b64, h.rp.keep h0, Nat.le_trans h.lp (by omega), h.p64, (h.oh.late hl (Nat.le_refl _)).good, Nat.le_trans h.lh (by omega), fun x hx => (h.gh x hx).keep h0, h.hq⟩, h.ok, h.lp, h.lh, by
    obtain ⟨A', c', hv, _, hf⟩ := h.oh.rs
    injection hv with e1 e2 e3
    rcases hf with ⟨k1, k2, k3⟩ | ⟨g, k1, _⟩
    · exact .inl ⟨e1.trans k1, List.map_eq_nil_iff.1 k2, e3.trans k3⟩
    · exact .inr ⟨g, 0, e1.trans k1⟩⟩
set_option maxRecDepth 100000 in
set_option maxHeartbeats 32000000 in
theorem law27FewT (s : SideV) (w0 w : World) (hs : RawS w0 s) (h0 : Below w0.heap.size w0 w) :
    Calls Tryz.prog 5 #[.agg #[.slice (s).ats.A (s).ats.val.length (s).ats.c, .slice (s).ins.A (s).ins.val.length (s).ins.c, .slice (s).bk.A (s).bk.val.length (s).bk.c, .slice (s).pu.A (s).pu.val.length (s).pu.c, .slice (s).ho.A (s).ho.val.length (s).ho.c]] w fun e w' => ∃ t : SideV, e = .returned (.agg #[.slice (t).ats.A (t).ats.val.length (t).ats.c, .slice (t).ins.A (t).ins.val.length (t).ins.c, .slice (t).bk.A (t).bk.val.length (t).bk.c, .slice (t).pu.A (t).pu.val.length (t).pu.c, .slice (t).ho.A (t).ho.val.length (t).ho.c]) ∧ FewT w0 w.heap.size w' t ∧ Below w.heap.size w w' := by
  have K : ∀ {W : World}, Below w.heap.size w W → Below w0.heap.size w0 W := fun h => h0.trans (h.mono h0.size)
  have c1 := fun W (h : Below w.heap.size w W) => ref12Table (fun x => decide (okA x)) s.ats.val s.ats.A s.ats.c W hs.la (hs.ra.keep (K h)) (fun x _ W _ => ref12Is x W)
  have c2 := fun W (h : Below w.heap.size w W) => law20Insts s.ins.val s.ins.A s.ins.c W hs.li (hs.ri.keep (K h)) (fun x hx => (hs.gi x hx).keep (K h))
  have c3 := fun W (h : Below w.heap.size w W) => law19Few s.bk.val s.bk.A s.bk.c W hs.lb (hs.rb.keep (K h)) (fun x hx => (hs.gb x hx).keep (K h))
  have c4 := fun W (h : Below w.heap.size w W) => law17Few s.pu.val s.pu.A s.pu.c W (hs.rp.keep (K h))
  have c5 := fun W (h : Below w.heap.size w W) => law26Few s.ho.val s.ho.A s.ho.c W hs.lh (hs.rh.keep (K h)) (fun x hx => (hs.gh x hx).keep (K h))
  have T1 := Lib.hid (And.intro (tab_okAs s.ats.val 8) (tabAssetN_len (fun x => decide (okA x)) s.ats.val 8))
  have T2 := Lib.hid (And.intro (insts_good hs.gi) (insts_len s.ins.val))
  have T3 := Lib.hid (show (∀ x ∈ (s.bk.val.take 12).map fewPosV, GoodPosV w0 x ∧ Legs64 x.legs.val) ∧ ((s.bk.val.take 12).map fewPosV).length ≤ 12 from ⟨fun x hx => by
    obtain ⟨y, hy, rfl⟩ := List.mem_map.1 hx
    exact ⟨(fewPosV_good (hs.gb y (List.mem_of_mem_take hy))).1, fun z hz => hs.b64 y (List.mem_of_mem_take hy) z (List.mem_of_mem_take hz)⟩, by rw [List.length_map, List.length_take]; omega⟩)
  have T4 := Lib.hid (show Rs w0 3 ((s.pu.val.take 20).map encFlow) s.pu.A s.pu.c ∧ (∀ x ∈ s.pu.val.take 20, In64 x.amount) ∧ (s.pu.val.take 20).length ≤ 20 from ⟨by have h := hs.rp.take 20; rw [← List.map_take] at h; exact h, fun x hx => hs.p64 x (List.mem_of_mem_take hx), by rw [List.length_take]; omega⟩)
  have T5 := Lib.hid (show (∀ x ∈ (s.ho.val.take 10).map fewHoldV, GoodHoldV w0 x ∧ x.lots.val.length ≤ 20 ∧ ∀ z ∈ x.lots.val, In64 z.qty) ∧ ((s.ho.val.take 10).map fewHoldV).length ≤ 10 from ⟨fun x hx => by
    obtain ⟨y, hy, rfl⟩ := List.mem_map.1 hx
    have h1 := fewHoldV_good (hs.gh y (List.mem_of_mem_take hy))
    exact ⟨h1.1, h1.2, fun z hz => hs.h64 y (List.mem_of_mem_take hy) z (List.mem_of_mem_take hz)⟩, by rw [List.length_map, List.length_take]; omega⟩)
  clear hs h0 K
  generalize tabAssetN (fun x => decide (okA x)) s.ats.val 8 = t1 at *
  generalize insts10 s.ins.val = t2 at *
  generalize (s.bk.val.take 12).map fewPosV = t3 at *
  generalize s.pu.val.take 20 = t4 at *
  generalize (s.ho.val.take 10).map fewHoldV = t5 at *
  have C1 := Lib.hid c1
  have C2 := Lib.hid c2
  have C3 := Lib.hid c3
  have C4 := Lib.hid c4
  have C5 := Lib.hid c5
  clear c1 c2 c3 c4 c5
  generalize s.ats.val.length = n1 at *
  generalize s.ins.val.length = n2 at *
  generalize s.bk.val.length = n3 at *
  generalize s.pu.val.length = n4 at *
  generalize s.ho.val.length = n5 at *
  go_enter Tryz.func5, Tryz.ntmps5
  go_wp2_with fail
  go_region_held3 (fun w' => w'.cell? ⟨w.heap.size, 0, none⟩ = some (.slice s.ats.A n1 s.ats.c) ∧ w'.cell? ⟨w.heap.size, 1, none⟩ = some (.slice s.ins.A n2 s.ins.c) ∧ w'.cell? ⟨w.heap.size, 2, none⟩ = some (.slice s.bk.A n3 s.bk.c) ∧ w'.cell? ⟨w.heap.size, 3, none⟩ = some (.slice s.pu.A n4 s.pu.c) ∧ w'.cell? ⟨w.heap.size, 4, none⟩ = some (.slice s.ho.A n5 s.ho.c)) (first | (simp [go_sem]; done) | (repeat' (first | (with_reducible assumption) | (with_reducible refine And.intro ?_ ?_) | (with_reducible refine cell_drew ?_) | (with_reducible refine cell_via (by with_reducible assumption) ?_ ?_) | (simp [*]; done) | (simp [go_sem]; done) | (with_reducible refine cell_alloc ?_ ?_) | (with_reducible refine cell_set_far ?_ ?_) | omega | (simp; omega)))) (first | (go_at_call 14; (with_reducible refine (C1.out _ (by (repeat' (first | (with_reducible exact Below.refl _ _) | (with_reducible assumption) | (with_reducible refine Below.alloc ?_ ?_ _) | (with_reducible refine Below.setCell ?_ ?_ _) | (with_reducible refine Below.drew ?_) | (with_reducible refine below_drewN ?_ _) | (with_reducible refine below_via ?_ (by with_reducible assumption) ?_) | omega | (simp; done) | (simp; omega))))).mono ?_); rintro e w1 ⟨v1, rfl, hown1, hb1⟩; obtain ⟨A1, c1, hv1, hrs1, _⟩ := hown1.rs; (rw [List.length_map] at hv1); subst hv1; have H1 := Lib.hid hown1; clear hown1 hrs1; obtain ⟨fc1, fg1, hc1, hf1, hz1⟩ := bget hb1; (try simp at hz1)) | (go_at_call 15; (with_reducible refine (C2.out _ (by (repeat' (first | (with_reducible exact Below.refl _ _) | (with_reducible assumption) | (with_reducible refine Below.alloc ?_ ?_ _) | (with_reducible refine Below.setCell ?_ ?_ _) | (with_reducible refine Below.drew ?_) | (with_reducible refine below_drewN ?_ _) | (with_reducible refine below_via ?_ (by with_reducible assumption) ?_) | omega | (simp; done) | (simp; omega))))).mono ?_); rintro e w2 ⟨v2, rfl, hown2, hb2⟩; obtain ⟨A2, c2, hv2, hrs2, _⟩ := hown2.rs; (rw [List.length_map] at hv2); subst hv2; have H2 := Lib.hid hown2; clear hown2 hrs2; obtain ⟨fc2, fg2, hc2, hf2, hz2⟩ := bget hb2; (try simp at hz2)) | (go_at_call 16; (with_reducible refine (C3.out _ (by (repeat' (first | (with_reducible exact Below.refl _ _) | (with_reducible assumption) | (with_reducible refine Below.alloc ?_ ?_ _) | (with_reducible refine Below.setCell ?_ ?_ _) | (with_reducible refine Below.drew ?_) | (with_reducible refine below_drewN ?_ _) | (with_reducible refine below_via ?_ (by with_reducible assumption) ?_) | omega | (simp; done) | (simp; omega))))).mono ?_); rintro e w3 ⟨v3, rfl, hown3, hb3⟩; obtain ⟨A3, c3, hv3, hrs3, _⟩ := hown3.rs; (rw [List.length_map] at hv3); subst hv3; have H3 := Lib.hid hown3; clear hown3 hrs3; obtain ⟨fc3, fg3, hc3, hf3, hz3⟩ := bget hb3; (try simp at hz3)) | (go_at_call 17; (with_reducible refine (C4.out _ (by (repeat' (first | (with_reducible exact Below.refl _ _) | (with_reducible assumption) | (with_reducible refine Below.alloc ?_ ?_ _) | (with_reducible refine Below.setCell ?_ ?_ _) | (with_reducible refine Below.drew ?_) | (with_reducible refine below_drewN ?_ _) | (with_reducible refine below_via ?_ (by with_reducible assumption) ?_) | omega | (simp; done) | (simp; omega))))).mono ?_); rintro e w4 ⟨rfl, hb4⟩; obtain ⟨fc4, fg4, hc4, hf4, hz4⟩ := bget hb4; (try simp at hz4)) | (go_at_call 18; (with_reducible refine (C5.out _ (by (repeat' (first | (with_reducible exact Below.refl _ _) | (with_reducible assumption) | (with_reducible refine Below.alloc ?_ ?_ _) | (with_reducible refine Below.setCell ?_ ?_ _) | (with_reducible refine Below.drew ?_) | (with_reducible refine below_drewN ?_ _) | (with_reducible refine below_via ?_ (by with_reducible assumption) ?_) | omega | (simp; done) | (simp; omega))))).mono ?_); rintro e w5 ⟨v5, rfl, hown5, hb5⟩; obtain ⟨A5, c5, hv5, hrs5, hfm5⟩ := hown5.rs; (rw [List.length_map] at hv5); subst hv5; have H5 := Lib.hid hown5; have F5 := Lib.hid hfm5; clear hown5 hrs5 hfm5; obtain ⟨fc5, fg5, hc5, hf5, hz5⟩ := bget hb5; (try simp at hz5)) | fail)
  go_wp2_with fail
  refine bodyPost_ret (v := .agg #[.slice A1 t1.length c1, .slice A2 t2.length c2, .slice A3 t3.length c3, .slice s.pu.A t4.length s.pu.c, .slice A5 t5.length c5]) (by simp [results, Tryz.results5, go_sem, hc5, hc4, hc3, hc2, hc1, ↓IntWalk.iteOmega]; try rfl) rfl ⟨⟨⟨A1, c1, t1⟩, ⟨A2, c2, t2⟩, ⟨A3, c3, t3⟩, ⟨s.pu.A, s.pu.c, t4⟩, ⟨A5, c5, t5⟩⟩, rfl, ?_, ?_⟩
  · have r1 : Own (((((w5.setCell ⟨w.heap.size + 1, 0, none⟩ (.slice A1 t1.length c1)).setCell ⟨w.heap.size + 1, 1, none⟩ (.slice A2 t2.length c2)).setCell ⟨w.heap.size + 1, 2, none⟩ (.slice A3 t3.length c3)).setCell ⟨w.heap.size + 1, 3, none⟩ (.slice s.pu.A t4.length s.pu.c)).setCell ⟨w.heap.size + 1, 4, none⟩ (.slice A5 t5.length c5)) w.heap.size 63 3 (.slice A1 t1.length c1) (t1.map encAsset) := by (refine Own.mono (b := w.heap.size) (base := w.heap.size + 2) ?_ (by omega); refine Own.farLow (Own.farLow (Own.farLow (Own.farLow (Own.farLow ?_ ?_ _) ?_ _) ?_ _) ?_ _) ?_ _; (focus ((refine (H1.out.mono ?_).keep ?_); (focus (first | omega | (simp; done) | (simp; omega))); (focus ((repeat' (first | (with_reducible exact Below.refl _ _) | (with_reducible assumption) | (with_reducible refine Below.alloc ?_ ?_ _) | (with_reducible refine Below.setCell ?_ ?_ _) | (with_reducible refine Below.drew ?_) | (with_reducible refine below_drewN ?_ _) | (with_reducible refine below_via ?_ (by with_reducible assumption) ?_) | omega | (simp; done) | (simp; omega))); done)))); all_goals (focus (simp; done)))
    have r2 : Own (((((w5.setCell ⟨w.heap.size + 1, 0, none⟩ (.slice A1 t1.length c1)).setCell ⟨w.heap.size + 1, 1, none⟩ (.slice A2 t2.length c2)).setCell ⟨w.heap.size + 1, 2, none⟩ (.slice A3 t3.length c3)).setCell ⟨w.heap.size + 1, 3, none⟩ (.slice s.pu.A t4.length s.pu.c)).setCell ⟨w.heap.size + 1, 4, none⟩ (.slice A5 t5.length c5)) w.heap.size 91 5 (.slice A2 t2.length c2) (t2.map encInstV) := by (refine Own.mono (b := w.heap.size) (base := w.heap.size + 2) ?_ (by omega); refine Own.farLow (Own.farLow (Own.farLow (Own.farLow (Own.farLow ?_ ?_ _) ?_ _) ?_ _) ?_ _) ?_ _; (focus ((refine (H2.out.mono ?_).keep ?_); (focus (first | omega | (simp; done) | (simp; omega))); (focus ((repeat' (first | (with_reducible exact Below.refl _ _) | (with_reducible assumption) | (with_reducible refine Below.alloc ?_ ?_ _) | (with_reducible refine Below.setCell ?_ ?_ _) | (with_reducible refine Below.drew ?_) | (with_reducible refine below_drewN ?_ _) | (with_reducible refine below_via ?_ (by with_reducible assumption) ?_) | omega | (simp; done) | (simp; omega))); done)))); all_goals (focus (simp; done)))
    have r3 : Own (((((w5.setCell ⟨w.heap.size + 1, 0, none⟩ (.slice A1 t1.length c1)).setCell ⟨w.heap.size + 1, 1, none⟩ (.slice A2 t2.length c2)).setCell ⟨w.heap.size + 1, 2, none⟩ (.slice A3 t3.length c3)).setCell ⟨w.heap.size + 1, 3, none⟩ (.slice s.pu.A t4.length s.pu.c)).setCell ⟨w.heap.size + 1, 4, none⟩ (.slice A5 t5.length c5)) w.heap.size 94 3 (.slice A3 t3.length c3) (t3.map encPosV) := by (refine Own.mono (b := w.heap.size) (base := w.heap.size + 2) ?_ (by omega); refine Own.farLow (Own.farLow (Own.farLow (Own.farLow (Own.farLow ?_ ?_ _) ?_ _) ?_ _) ?_ _) ?_ _; (focus ((refine (H3.out.mono ?_).keep ?_); (focus (first | omega | (simp; done) | (simp; omega))); (focus ((repeat' (first | (with_reducible exact Below.refl _ _) | (with_reducible assumption) | (with_reducible refine Below.alloc ?_ ?_ _) | (with_reducible refine Below.setCell ?_ ?_ _) | (with_reducible refine Below.drew ?_) | (with_reducible refine below_drewN ?_ _) | (with_reducible refine below_via ?_ (by with_reducible assumption) ?_) | omega | (simp; done) | (simp; omega))); done)))); all_goals (focus (simp; done)))
    have r5 : Own (((((w5.setCell ⟨w.heap.size + 1, 0, none⟩ (.slice A1 t1.length c1)).setCell ⟨w.heap.size + 1, 1, none⟩ (.slice A2 t2.length c2)).setCell ⟨w.heap.size + 1, 2, none⟩ (.slice A3 t3.length c3)).setCell ⟨w.heap.size + 1, 3, none⟩ (.slice s.pu.A t4.length s.pu.c)).setCell ⟨w.heap.size + 1, 4, none⟩ (.slice A5 t5.length c5)) w.heap.size 97 3 (.slice A5 t5.length c5) (t5.map encHoldV) := by (refine Own.mono (b := w.heap.size) (base := w.heap.size + 2) ?_ (by omega); refine Own.farLow (Own.farLow (Own.farLow (Own.farLow (Own.farLow ?_ ?_ _) ?_ _) ?_ _) ?_ _) ?_ _; (focus ((refine (H5.out.mono ?_).keep ?_); (focus (first | omega | (simp; done) | (simp; omega))); (focus ((repeat' (first | (with_reducible exact Below.refl _ _) | (with_reducible assumption) | (with_reducible refine Below.alloc ?_ ?_ _) | (with_reducible refine Below.setCell ?_ ?_ _) | (with_reducible refine Below.drew ?_) | (with_reducible refine below_drewN ?_ _) | (with_reducible refine below_via ?_ (by with_reducible assumption) ?_) | omega | (simp; done) | (simp; omega))); done)))); all_goals (focus (simp; done)))
    generalize (((((w5.setCell ⟨w.heap.size + 1, 0, none⟩ (.slice A1 t1.length c1)).setCell ⟨w.heap.size + 1, 1, none⟩ (.slice A2 t2.length c2)).setCell ⟨w.heap.size + 1, 2, none⟩ (.slice A3 t3.length c3)).setCell ⟨w.heap.size + 1, 3, none⟩ (.slice s.pu.A t4.length s.pu.c)).setCell ⟨w.heap.size + 1, 4, none⟩ (.slice A5 t5.length c5)) = wf at *
    exact ⟨r1, Nat.le_trans T1.out.2 (by omega), r2, Nat.le_trans T2.out.2 (by omega), fun x hx => ⟨by have := (T2.out.1 x hx).1; omega, (T2.out.1 x hx).2⟩, r3, Nat.le_trans T3.out.2 (by omega), fun x hx => (T3.out.1 x hx).1, fun r hr => by
      obtain ⟨x, hx, rfl⟩ := List.mem_map.1 hr
      exact (T3.out.1 x hx).2, T4.out.1, T4.out.2.2, T4.out.2.1, r5, T5.out.2, fun x hx => (T5.out.1 x hx).1, fun r hr => by
      obtain ⟨x, hx, rfl⟩ := List.mem_map.1 hr
      exact ⟨by have := (T5.out.1 x hx).2.1; show x.lots.val.length ≤ 1000; omega, (T5.out.1 x hx).2.2⟩, T1.out.1⟩
  · (repeat' (first | (with_reducible exact Below.refl _ _) | (with_reducible assumption) | (with_reducible refine Below.alloc ?_ ?_ _) | (with_reducible refine Below.setCell ?_ ?_ _) | (with_reducible refine Below.drew ?_) | (with_reducible refine below_drewN ?_ _) | (with_reducible refine below_via ?_ (by with_reducible assumption) ?_) | omega | (simp; done) | (simp; omega)))
theorem law27Few (s : SideV) (w : World) (hs : RawS w s) :
    Calls Tryz.prog 5 #[.agg #[.slice (s).ats.A (s).ats.val.length (s).ats.c, .slice (s).ins.A (s).ins.val.length (s).ins.c, .slice (s).bk.A (s).bk.val.length (s).bk.c, .slice (s).pu.A (s).pu.val.length (s).pu.c, .slice (s).ho.A (s).ho.val.length (s).ho.c]] w fun e w' => ∃ t : SideV, e = .returned (.agg #[.slice (t).ats.A (t).ats.val.length (t).ats.c, .slice (t).ins.A (t).ins.val.length (t).ins.c, .slice (t).bk.A (t).bk.val.length (t).bk.c, .slice (t).pu.A (t).pu.val.length (t).pu.c, .slice (t).ho.A (t).ho.val.length (t).ho.c]) ∧ FewS w' t ∧ Below w.heap.size w w' :=
  (law27FewT s w w hs (Below.refl _ _)).mono fun _ _ ⟨t, h1, h2, h3⟩ => ⟨t, h1, h2.few h3 (Late.refl _ _), h3⟩
end Go.Proofs.YtalgfpegaobacaaGreat

/- Layer 27's laws: lives. -/
namespace Go.Proofs.YtalgfpegaobacaaGreat
open Go.RowKit
theorem rd_three {w : World} {b : Nat} {u v z : Value} (hb : b < w.heap.size) (h0 : w.cell? ⟨b, 0, none⟩ = some u) (h1 : w.cell? ⟨b, 1, none⟩ = some v) (h2 : w.cell? ⟨b, 2, none⟩ = some z) : Rd w (some ⟨b, 0, none⟩) 3 [[u, v, z]] := by
  intro i r hr
  match i, hr with
  | 0, hr =>
    simp at hr; subst hr
    refine ⟨b, 0, rfl, hb, fun j z hz => ?_⟩
    match j with
    | 0 => simp at hz; subst hz; simpa using h0
    | 1 => simp at hz; subst hz; simpa using h1
    | 2 => simp at hz; subst hz; simpa using h2
    | j + 3 => simp at hz
theorem live_cv : valN [⟨1, 3, 1000⟩] [⟨1, 0, 10⟩] 50 = 77 ∧ valC [⟨1, 3, 1000⟩] [⟨1, 0, 10⟩] 50 = 0 ∧ worN [⟨1, 3, 1000⟩] [⟨1, 0, 10⟩] = 30 ∧ worC [⟨1, 3, 1000⟩] [⟨1, 0, 10⟩] = 0 := by
  refine ⟨by kernel_rfl, by kernel_rfl, by kernel_rfl, by kernel_rfl⟩
set_option maxRecDepth 100000 in
set_option maxHeartbeats 16000000 in
theorem law27lives (w : World) : Calls Tryz.prog 8 #[] w fun e w' => e = .returned (.bool true) ∧ Below w.heap.size w w' := by
  have c1 := fun W a b (h1 : Rd W (some ⟨a, 0, none⟩) 3 ([(⟨1, 3, 1000⟩ : Asset)].map encAsset)) (h2 : Rd W (some ⟨b, 0, none⟩) 3 ([(⟨1, 0, 10⟩ : Lot)].map encLot)) => coverValue [⟨1, 3, 1000⟩] [⟨1, 0, 10⟩] 50 (some ⟨a, 0, none⟩) (some ⟨b, 0, none⟩) 1 1 W (by simp) (by simp) (by unfold In64; omega) (by intro y hy; simp at hy; subst hy; simp [In64]) h1 h2
  have c2 := fun W a b (h1 : Rd W (some ⟨a, 0, none⟩) 3 ([(⟨1, 3, 1000⟩ : Asset)].map encAsset)) (h2 : Rd W (some ⟨b, 0, none⟩) 3 ([(⟨1, 0, 10⟩ : Lot)].map encLot)) => coverWorth [⟨1, 3, 1000⟩] [⟨1, 0, 10⟩] (some ⟨a, 0, none⟩) (some ⟨b, 0, none⟩) 1 1 W (by simp) (by simp) (by intro y hy; simp at hy; subst hy; simp [In64]) h1 h2
  rw [live_cv.1, live_cv.2.1] at c1
  rw [live_cv.2.2.1, live_cv.2.2.2] at c2
  simp only [List.length_cons, List.length_nil, Nat.zero_add] at c1 c2
  have C1 := Lib.hid c1
  have C2 := Lib.hid c2
  clear c1 c2
  go_enter Tryz.func8, Tryz.ntmps8
  go_wp2_with (first | (go_at_call 19; (with_reducible refine (C1.out _ _ _ ?_ ?_).mono ?_); (focus (refine rd_three ?_ ?_ ?_ ?_; (focus (first | omega | (simp; done) | (simp; omega))); (focus (first | (simp [go_sem]; done) | (simp [go_sem, go_sem, ↓IntWalk.iteOmega]; done))); (focus (first | (simp [go_sem]; done) | (simp [go_sem, go_sem, ↓IntWalk.iteOmega]; done))); (focus (first | (simp [go_sem]; done) | (simp [go_sem, go_sem, ↓IntWalk.iteOmega]; done))))); (focus (refine rd_three ?_ ?_ ?_ ?_; (focus (first | omega | (simp; done) | (simp; omega))); (focus (first | (simp [go_sem]; done) | (simp [go_sem, go_sem, ↓IntWalk.iteOmega]; done))); (focus (first | (simp [go_sem]; done) | (simp [go_sem, go_sem, ↓IntWalk.iteOmega]; done))); (focus (first | (simp [go_sem]; done) | (simp [go_sem, go_sem, ↓IntWalk.iteOmega]; done))))); rintro e w1 ⟨rfl, hb1⟩; obtain ⟨fc1, fg1, hc1, hf1, hz1⟩ := bget hb1; (try simp at hz1)) | (go_at_call 20; (with_reducible refine (C2.out _ _ _ ?_ ?_).mono ?_); (focus (refine rd_three ?_ ?_ ?_ ?_; (focus (first | omega | (simp; done) | (simp; omega))); (focus (first | (simp [go_sem]; done) | (simp [go_sem, hc1, ↓IntWalk.iteOmega]; done))); (focus (first | (simp [go_sem]; done) | (simp [go_sem, hc1, ↓IntWalk.iteOmega]; done))); (focus (first | (simp [go_sem]; done) | (simp [go_sem, hc1, ↓IntWalk.iteOmega]; done))))); (focus (refine rd_three ?_ ?_ ?_ ?_; (focus (first | omega | (simp; done) | (simp; omega))); (focus (first | (simp [go_sem]; done) | (simp [go_sem, hc1, ↓IntWalk.iteOmega]; done))); (focus (first | (simp [go_sem]; done) | (simp [go_sem, hc1, ↓IntWalk.iteOmega]; done))); (focus (first | (simp [go_sem]; done) | (simp [go_sem, hc1, ↓IntWalk.iteOmega]; done))))); rintro e w2 ⟨rfl, hb2⟩; obtain ⟨fc2, fg2, hc2, hf2, hz2⟩ := bget hb2; (try simp at hz2)) | fail)
  go_ret
  exact ⟨rfl, by (repeat' (first | (with_reducible exact Below.refl _ _) | (with_reducible assumption) | (with_reducible refine Below.alloc ?_ ?_ _) | (with_reducible refine Below.setCell ?_ ?_ _) | (with_reducible refine Below.drew ?_) | (with_reducible refine below_drewN ?_ _) | (with_reducible refine below_via ?_ (by with_reducible assumption) ?_) | omega | (simp; done) | (simp; omega)))⟩
end Go.Proofs.YtalgfpegaobacaaGreat

/- Accounts: contracts of the reference's Is, Units, Has. -/
namespace Go.Proofs.YtalgfpegaobacaaGreat
open Go.RowKit
theorem okA_ref {x : Acct} : okAAc x ↔ (1 ≤ x.id ∧ x.id ≤ 16) ∧ (1 ≤ x.member ∧ x.member ≤ 8) ∧ (1 ≤ x.kind ∧ x.kind ≤ 4) ∧ ¬ (x.kind = 1 ∧ 0 < x.clients.length) ∧ ¬ (x.kind = 4 ∧ 1 < x.clients.length) ∧ risC 0 x.clients = true := by
  unfold okAAc mostA
  constructor
  · rintro ⟨h1, h2, h3, h4, h5⟩
    refine ⟨h1, h2, h3, fun h => ?_, fun h => ?_, h5⟩
    · rw [if_pos h.1] at h4; omega
    · rw [if_neg (by omega), if_pos h.1] at h4; omega
  · rintro ⟨h1, h2, h3, h4, h5, h6⟩
    refine ⟨h1, h2, h3, ?_, h6⟩
    have := risC_len h6 (by omega)
    split
    · omega
    · split
      · omega
      · omega
set_option maxRecDepth 100000 in
set_option maxHeartbeats 8000000 in
theorem ref15Is (x : Acct) (A : Option Addr) (c : Nat) (w : World) (hl : x.clients.length ≤ 1099511627776) (hr : Rd w A 1 (x.clients.map encI)) :
    Calls Tryz.prog 68 #[.agg #[.int .i64 x.id, .int .i64 x.member, .int .i64 x.kind, .slice A x.clients.length c]] w fun e w' => e = .returned (.bool (decide (okAAc x))) ∧ Below w.heap.size w w' := by
  have HR := Lib.hid hr
  clear hr
  by_cases t0 : x.id < 1
  · have d0 := decide_eq_true t0
    have HNO := Lib.hid (decide_eq_false (show ¬ okAAc x from fun hk => by rw [okA_ref] at hk; omega))
    go_enter Tryz.func68, Tryz.ntmps68
    go_wp2_with (fail)
    go_ret
    exact ⟨by rw [HNO.out]; first | done | rfl, by (repeat' (first | (with_reducible exact Below.refl _ _) | (with_reducible assumption) | (with_reducible refine Below.alloc ?_ ?_ _) | (with_reducible refine Below.setCell ?_ ?_ _) | (with_reducible refine Below.drew ?_) | (with_reducible refine below_drewN ?_ _) | (with_reducible refine below_via ?_ (by with_reducible assumption) ?_) | omega | (simp; done) | (simp; omega)))⟩
  have d0 := decide_eq_false t0
  by_cases t1 : 16 < x.id
  · have d1 := decide_eq_true t1
    have HNO := Lib.hid (decide_eq_false (show ¬ okAAc x from fun hk => by rw [okA_ref] at hk; omega))
    go_enter Tryz.func68, Tryz.ntmps68
    go_wp2_with (fail)
    go_ret
    exact ⟨by rw [HNO.out]; first | done | rfl, by (repeat' (first | (with_reducible exact Below.refl _ _) | (with_reducible assumption) | (with_reducible refine Below.alloc ?_ ?_ _) | (with_reducible refine Below.setCell ?_ ?_ _) | (with_reducible refine Below.drew ?_) | (with_reducible refine below_drewN ?_ _) | (with_reducible refine below_via ?_ (by with_reducible assumption) ?_) | omega | (simp; done) | (simp; omega)))⟩
  have d1 := decide_eq_false t1
  by_cases t2 : x.member < 1
  · have d2 := decide_eq_true t2
    have HNO := Lib.hid (decide_eq_false (show ¬ okAAc x from fun hk => by rw [okA_ref] at hk; omega))
    go_enter Tryz.func68, Tryz.ntmps68
    go_wp2_with (fail)
    go_ret
    exact ⟨by rw [HNO.out]; first | done | rfl, by (repeat' (first | (with_reducible exact Below.refl _ _) | (with_reducible assumption) | (with_reducible refine Below.alloc ?_ ?_ _) | (with_reducible refine Below.setCell ?_ ?_ _) | (with_reducible refine Below.drew ?_) | (with_reducible refine below_drewN ?_ _) | (with_reducible refine below_via ?_ (by with_reducible assumption) ?_) | omega | (simp; done) | (simp; omega)))⟩
  have d2 := decide_eq_false t2
  by_cases t3 : 8 < x.member
  · have d3 := decide_eq_true t3
    have HNO := Lib.hid (decide_eq_false (show ¬ okAAc x from fun hk => by rw [okA_ref] at hk; omega))
    go_enter Tryz.func68, Tryz.ntmps68
    go_wp2_with (fail)
    go_ret
    exact ⟨by rw [HNO.out]; first | done | rfl, by (repeat' (first | (with_reducible exact Below.refl _ _) | (with_reducible assumption) | (with_reducible refine Below.alloc ?_ ?_ _) | (with_reducible refine Below.setCell ?_ ?_ _) | (with_reducible refine Below.drew ?_) | (with_reducible refine below_drewN ?_ _) | (with_reducible refine below_via ?_ (by with_reducible assumption) ?_) | omega | (simp; done) | (simp; omega)))⟩
  have d3 := decide_eq_false t3
  by_cases t4 : x.kind < 1
  · have d4 := decide_eq_true t4
    have HNO := Lib.hid (decide_eq_false (show ¬ okAAc x from fun hk => by rw [okA_ref] at hk; omega))
    go_enter Tryz.func68, Tryz.ntmps68
    go_wp2_with (fail)
    go_ret
    exact ⟨by rw [HNO.out]; first | done | rfl, by (repeat' (first | (with_reducible exact Below.refl _ _) | (with_reducible assumption) | (with_reducible refine Below.alloc ?_ ?_ _) | (with_reducible refine Below.setCell ?_ ?_ _) | (with_reducible refine Below.drew ?_) | (with_reducible refine below_drewN ?_ _) | (with_reducible refine below_via ?_ (by with_reducible assumption) ?_) | omega | (simp; done) | (simp; omega)))⟩
  have d4 := decide_eq_false t4
  by_cases t5 : 4 < x.kind
  · have d5 := decide_eq_true t5
    have HNO := Lib.hid (decide_eq_false (show ¬ okAAc x from fun hk => by rw [okA_ref] at hk; omega))
    go_enter Tryz.func68, Tryz.ntmps68
    go_wp2_with (fail)
    go_ret
    exact ⟨by rw [HNO.out]; first | done | rfl, by (repeat' (first | (with_reducible exact Below.refl _ _) | (with_reducible assumption) | (with_reducible refine Below.alloc ?_ ?_ _) | (with_reducible refine Below.setCell ?_ ?_ _) | (with_reducible refine Below.drew ?_) | (with_reducible refine below_drewN ?_ _) | (with_reducible refine below_via ?_ (by with_reducible assumption) ?_) | omega | (simp; done) | (simp; omega)))⟩
  have d5 := decide_eq_false t5
  by_cases t6 : x.kind = 1 ∧ 0 < x.clients.length
  · have b6 : (x.kind == 1) = true := by simpa using t6.1
    have d6 : decide (0 < (x.clients.length : Int)) = true := by simp; omega
    have HNO := Lib.hid (decide_eq_false (show ¬ okAAc x from fun hk => by rw [okA_ref] at hk; omega))
    go_enter Tryz.func68, Tryz.ntmps68
    go_wp2_with (fail)
    go_ret
    exact ⟨by rw [HNO.out]; first | done | rfl, by (repeat' (first | (with_reducible exact Below.refl _ _) | (with_reducible assumption) | (with_reducible refine Below.alloc ?_ ?_ _) | (with_reducible refine Below.setCell ?_ ?_ _) | (with_reducible refine Below.drew ?_) | (with_reducible refine below_drewN ?_ _) | (with_reducible refine below_via ?_ (by with_reducible assumption) ?_) | omega | (simp; done) | (simp; omega)))⟩
  by_cases t7 : x.kind = 4 ∧ 1 < x.clients.length
  · have b6 : (x.kind == 1) = false := by simp; omega
    have b7 : (x.kind == 4) = true := by simpa using t7.1
    have d7 : decide (1 < (x.clients.length : Int)) = true := by simp; omega
    have HNO := Lib.hid (decide_eq_false (show ¬ okAAc x from fun hk => by rw [okA_ref] at hk; omega))
    go_enter Tryz.func68, Tryz.ntmps68
    go_wp2_with (fail)
    go_ret
    exact ⟨by rw [HNO.out]; first | done | rfl, by (repeat' (first | (with_reducible exact Below.refl _ _) | (with_reducible assumption) | (with_reducible refine Below.alloc ?_ ?_ _) | (with_reducible refine Below.setCell ?_ ?_ _) | (with_reducible refine Below.drew ?_) | (with_reducible refine below_drewN ?_ _) | (with_reducible refine below_via ?_ (by with_reducible assumption) ?_) | omega | (simp; done) | (simp; omega)))⟩
  have HC := Lib.hid (show decide (okAAc x) = risC 0 x.clients from by
    cases h : risC 0 x.clients
    · exact decide_eq_false (fun hk => by rw [okA_ref, h] at hk; cases hk.2.2.2.2.2)
    · exact decide_eq_true (okA_ref.2 ⟨by omega, by omega, by omega, t6, t7, h⟩))
  obtain ⟨b6, d6⟩ : ((x.kind == 1) = false ∨ ((x.kind == 1) = true ∧ decide (0 < (x.clients.length : Int)) = false)) ∧ ((x.kind == 4) = false ∨ ((x.kind == 4) = true ∧ decide (1 < (x.clients.length : Int)) = false)) := by
    constructor
    · by_cases h : x.kind = 1
      · exact .inr ⟨by simpa using h, decide_eq_false (by omega)⟩
      · exact .inl (by simpa using h)
    · by_cases h : x.kind = 4
      · exact .inr ⟨by simpa using h, decide_eq_false (by omega)⟩
      · exact .inl (by simpa using h)
  clear t6 t7
  rcases b6 with b6 | ⟨b6, e6⟩
  · rcases d6 with d6 | ⟨d6, e7⟩
    · go_enter Tryz.func68, Tryz.ntmps68
      go_wp2_with (fail)
      go_loopw [3] (fun i wr => ∃ (k : Nat) (q : Int), k ≤ x.clients.length ∧ i = .int .i64 k ∧ risC 0 x.clients = risC q (x.clients.drop k) ∧ Below w.heap.size w wr ∧ wr.cell? ⟨w.heap.size, 3, none⟩ = some (.slice A x.clients.length c) ∧ (k = 0 ∧ q = 0 ∨ 0 < k ∧ q = x.clients.getD (k - 1) 0 ∧ 1 ≤ q)) (fun i _ => x.clients.length - (intOf i).toNat)
      case atStart => exact ⟨0, 0, Nat.zero_le _, rfl, rfl, by (repeat' (first | (with_reducible exact Below.refl _ _) | (with_reducible assumption) | (with_reducible refine Below.alloc ?_ ?_ _) | (with_reducible refine Below.setCell ?_ ?_ _) | (with_reducible refine Below.drew ?_) | (with_reducible refine below_drewN ?_ _) | (with_reducible refine below_via ?_ (by with_reducible assumption) ?_) | omega | (simp; done) | (simp; omega))), by simp [go_sem], .inl ⟨rfl, rfl⟩⟩
      case round =>
        obtain ⟨k, q, hk, rfl, hv, hbl, hcell, hx⟩ := hrel
        have HV := Lib.hid hv
        have Hbl := Lib.hid hbl
        have hz := hbl.size
        clear hv hbl
        by_cases hlt : k < x.clients.length
        · have kl : (k : Int) < (x.clients.length : Int) := by omega
          have dl : decide ((k : Int) < (x.clients.length : Int)) = true := by simpa using hlt
          obtain ⟨b, o, rfl, hb, hc⟩ := HR.out k (encI x.clients[k]) (by simp [hlt])
          have e0 := (Hbl.out.cell (p := ⟨b, o + k * 1 + 0, none⟩) hb).trans (hc 0 _ rfl)
          simp only [Nat.add_zero, Nat.mul_one] at e0
          clear hc
          have HD := Lib.hid (drop_cons' hlt)
          rcases hx with ⟨k0, hx⟩ | ⟨k0, hx, x1⟩
          · have g0 : decide (0 < k) = false := by simp; omega
            have x0 : 0 ≤ q ∧ q ≤ 0 := by omega
            clear k0 hx
            by_cases t0 : x.clients[k] < 1
            · have d0 := decide_eq_true t0
              have HN := Lib.hid (show risC 0 x.clients = false from by rw [HV.out, HD.out]; exact risC_no (by omega))
              have wk : IntKind.i64.wrap ((k : Int) - 1) = (k : Int) - 1 := IntWalk.i64_in _ (by omega)
              have tk : ((k : Int) - 1).toNat = k - 1 := by omega
              go_wp2_with fail
              go_quiet (fail)
              clear wk tk
              go_wp2_with fail
              go_ret
              exact ⟨by rw [HC.out, HN.out]; rfl, by have hbl := Hbl.out; (repeat' (first | (with_reducible exact Below.refl _ _) | (with_reducible assumption) | (with_reducible refine Below.alloc ?_ ?_ _) | (with_reducible refine Below.setCell ?_ ?_ _) | (with_reducible refine Below.drew ?_) | (with_reducible refine below_drewN ?_ _) | (with_reducible refine below_via ?_ (by with_reducible assumption) ?_) | omega | (simp; done) | (simp; omega)))⟩
            have d0 := decide_eq_false t0
            by_cases t1 : 16 < x.clients[k]
            · have d1 := decide_eq_true t1
              have HN := Lib.hid (show risC 0 x.clients = false from by rw [HV.out, HD.out]; exact risC_no (by omega))
              have wk : IntKind.i64.wrap ((k : Int) - 1) = (k : Int) - 1 := IntWalk.i64_in _ (by omega)
              have tk : ((k : Int) - 1).toNat = k - 1 := by omega
              go_wp2_with fail
              go_quiet (fail)
              clear wk tk
              go_wp2_with fail
              go_ret
              exact ⟨by rw [HC.out, HN.out]; rfl, by have hbl := Hbl.out; (repeat' (first | (with_reducible exact Below.refl _ _) | (with_reducible assumption) | (with_reducible refine Below.alloc ?_ ?_ _) | (with_reducible refine Below.setCell ?_ ?_ _) | (with_reducible refine Below.drew ?_) | (with_reducible refine below_drewN ?_ _) | (with_reducible refine below_via ?_ (by with_reducible assumption) ?_) | omega | (simp; done) | (simp; omega)))⟩
            have d1 := decide_eq_false t1
            have HN := Lib.hid (show risC 0 x.clients = risC x.clients[k] (x.clients.drop (k + 1)) from by rw [HV.out, HD.out]; exact risC_step (by omega) (by omega))
            have c1 : 1 ≤ x.clients[k] := by omega
            have wk : IntKind.i64.wrap ((k : Int) - 1) = (k : Int) - 1 := IntWalk.i64_in _ (by omega)
            have tk : ((k : Int) - 1).toNat = k - 1 := by omega
            go_wp2_with fail
            go_quiet (fail)
            clear wk tk
            go_wp2_with fail
            go_roundw
            case rel => exact ⟨k + 1, x.clients[k], by omega, by go_num, HN.out, by have hbl := Hbl.out; (repeat' (first | (with_reducible exact Below.refl _ _) | (with_reducible assumption) | (with_reducible refine Below.alloc ?_ ?_ _) | (with_reducible refine Below.setCell ?_ ?_ _) | (with_reducible refine Below.drew ?_) | (with_reducible refine below_drewN ?_ _) | (with_reducible refine below_via ?_ (by with_reducible assumption) ?_) | omega | (simp; done) | (simp; omega))), by simpa [go_sem] using hcell, .inr ⟨by omega, by rw [Nat.add_sub_cancel, getD_at hlt], by omega⟩⟩
            case measure => simp [intOf]; omega
          · have g0 : decide (0 < k) = true := by simpa using k0
            have g1 : (0 : Int) ≤ (k : Int) - 1 := by omega
            have hk1 : k - 1 < x.clients.length := by omega
            rw [getD_at hk1] at hx
            obtain ⟨b1, o1, q1, hb1, hq1⟩ := HR.out (k - 1) (encI x.clients[k - 1]) (by simp [hk1])
            injection q1 with q1
            injection q1 with q1 q2 _
            subst q1 q2
            have f0 := (Hbl.out.cell (p := ⟨b, o + (k - 1) * 1 + 0, none⟩) hb).trans (hq1 0 _ rfl)
            simp only [Nat.add_zero, Nat.mul_one] at f0
            rw [← hx] at f0
            have X0 := Lib.hid hx
            clear hq1 hx
            by_cases t0 : x.clients[k] < 1
            · have d0 := decide_eq_true t0
              have HN := Lib.hid (show risC 0 x.clients = false from by rw [HV.out, HD.out]; exact risC_no (by omega))
              have wk : IntKind.i64.wrap ((k : Int) - 1) = (k : Int) - 1 := IntWalk.i64_in _ (by omega)
              have tk : ((k : Int) - 1).toNat = k - 1 := by omega
              go_wp2_with fail
              go_quiet (fail)
              clear wk tk
              go_wp2_with fail
              go_ret
              exact ⟨by rw [HC.out, HN.out]; rfl, by have hbl := Hbl.out; (repeat' (first | (with_reducible exact Below.refl _ _) | (with_reducible assumption) | (with_reducible refine Below.alloc ?_ ?_ _) | (with_reducible refine Below.setCell ?_ ?_ _) | (with_reducible refine Below.drew ?_) | (with_reducible refine below_drewN ?_ _) | (with_reducible refine below_via ?_ (by with_reducible assumption) ?_) | omega | (simp; done) | (simp; omega)))⟩
            have d0 := decide_eq_false t0
            by_cases t1 : 16 < x.clients[k]
            · have d1 := decide_eq_true t1
              have HN := Lib.hid (show risC 0 x.clients = false from by rw [HV.out, HD.out]; exact risC_no (by omega))
              have wk : IntKind.i64.wrap ((k : Int) - 1) = (k : Int) - 1 := IntWalk.i64_in _ (by omega)
              have tk : ((k : Int) - 1).toNat = k - 1 := by omega
              go_wp2_with fail
              go_quiet (fail)
              clear wk tk
              go_wp2_with fail
              go_ret
              exact ⟨by rw [HC.out, HN.out]; rfl, by have hbl := Hbl.out; (repeat' (first | (with_reducible exact Below.refl _ _) | (with_reducible assumption) | (with_reducible refine Below.alloc ?_ ?_ _) | (with_reducible refine Below.setCell ?_ ?_ _) | (with_reducible refine Below.drew ?_) | (with_reducible refine below_drewN ?_ _) | (with_reducible refine below_via ?_ (by with_reducible assumption) ?_) | omega | (simp; done) | (simp; omega)))⟩
            have d1 := decide_eq_false t1
            by_cases t2 : x.clients[k] ≤ q
            · have d2 := decide_eq_true t2
              have HN := Lib.hid (show risC 0 x.clients = false from by rw [HV.out, HD.out]; exact risC_no (by omega))
              have wk : IntKind.i64.wrap ((k : Int) - 1) = (k : Int) - 1 := IntWalk.i64_in _ (by omega)
              have tk : ((k : Int) - 1).toNat = k - 1 := by omega
              go_wp2_with fail
              go_quiet (fail)
              clear wk tk
              go_wp2_with fail
              go_ret
              exact ⟨by rw [HC.out, HN.out]; rfl, by have hbl := Hbl.out; (repeat' (first | (with_reducible exact Below.refl _ _) | (with_reducible assumption) | (with_reducible refine Below.alloc ?_ ?_ _) | (with_reducible refine Below.setCell ?_ ?_ _) | (with_reducible refine Below.drew ?_) | (with_reducible refine below_drewN ?_ _) | (with_reducible refine below_via ?_ (by with_reducible assumption) ?_) | omega | (simp; done) | (simp; omega)))⟩
            have d2 := decide_eq_false t2
            have HN := Lib.hid (show risC 0 x.clients = risC x.clients[k] (x.clients.drop (k + 1)) from by rw [HV.out, HD.out]; exact risC_step (by omega) (by omega))
            have c1 : 1 ≤ x.clients[k] := by omega
            have wk : IntKind.i64.wrap ((k : Int) - 1) = (k : Int) - 1 := IntWalk.i64_in _ (by omega)
            have tk : ((k : Int) - 1).toNat = k - 1 := by omega
            go_wp2_with fail
            go_quiet (fail)
            clear wk tk
            go_wp2_with fail
            go_roundw
            case rel => exact ⟨k + 1, x.clients[k], by omega, by go_num, HN.out, by have hbl := Hbl.out; (repeat' (first | (with_reducible exact Below.refl _ _) | (with_reducible assumption) | (with_reducible refine Below.alloc ?_ ?_ _) | (with_reducible refine Below.setCell ?_ ?_ _) | (with_reducible refine Below.drew ?_) | (with_reducible refine below_drewN ?_ _) | (with_reducible refine below_via ?_ (by with_reducible assumption) ?_) | omega | (simp; done) | (simp; omega))), by simpa [go_sem] using hcell, .inr ⟨by omega, by rw [Nat.add_sub_cancel, getD_at hlt], by omega⟩⟩
            case measure => simp [intOf]; omega
        · have dl : decide ((k : Int) < (x.clients.length : Int)) = false := by simpa using hlt
          have HD := Lib.hid (drop_all (l := x.clients) (k := k) (by omega))
          go_wp2_with fail
          go_ret
          exact ⟨by rw [HC.out, HV.out, HD.out]; rfl, Hbl.out⟩
    · go_enter Tryz.func68, Tryz.ntmps68
      go_wp2_with (fail)
      go_loopw [3] (fun i wr => ∃ (k : Nat) (q : Int), k ≤ x.clients.length ∧ i = .int .i64 k ∧ risC 0 x.clients = risC q (x.clients.drop k) ∧ Below w.heap.size w wr ∧ wr.cell? ⟨w.heap.size, 3, none⟩ = some (.slice A x.clients.length c) ∧ (k = 0 ∧ q = 0 ∨ 0 < k ∧ q = x.clients.getD (k - 1) 0 ∧ 1 ≤ q)) (fun i _ => x.clients.length - (intOf i).toNat)
      case atStart => exact ⟨0, 0, Nat.zero_le _, rfl, rfl, by (repeat' (first | (with_reducible exact Below.refl _ _) | (with_reducible assumption) | (with_reducible refine Below.alloc ?_ ?_ _) | (with_reducible refine Below.setCell ?_ ?_ _) | (with_reducible refine Below.drew ?_) | (with_reducible refine below_drewN ?_ _) | (with_reducible refine below_via ?_ (by with_reducible assumption) ?_) | omega | (simp; done) | (simp; omega))), by simp [go_sem], .inl ⟨rfl, rfl⟩⟩
      case round =>
        obtain ⟨k, q, hk, rfl, hv, hbl, hcell, hx⟩ := hrel
        have HV := Lib.hid hv
        have Hbl := Lib.hid hbl
        have hz := hbl.size
        clear hv hbl
        by_cases hlt : k < x.clients.length
        · have kl : (k : Int) < (x.clients.length : Int) := by omega
          have dl : decide ((k : Int) < (x.clients.length : Int)) = true := by simpa using hlt
          obtain ⟨b, o, rfl, hb, hc⟩ := HR.out k (encI x.clients[k]) (by simp [hlt])
          have e0 := (Hbl.out.cell (p := ⟨b, o + k * 1 + 0, none⟩) hb).trans (hc 0 _ rfl)
          simp only [Nat.add_zero, Nat.mul_one] at e0
          clear hc
          have HD := Lib.hid (drop_cons' hlt)
          rcases hx with ⟨k0, hx⟩ | ⟨k0, hx, x1⟩
          · have g0 : decide (0 < k) = false := by simp; omega
            have x0 : 0 ≤ q ∧ q ≤ 0 := by omega
            clear k0 hx
            by_cases t0 : x.clients[k] < 1
            · have d0 := decide_eq_true t0
              have HN := Lib.hid (show risC 0 x.clients = false from by rw [HV.out, HD.out]; exact risC_no (by omega))
              have wk : IntKind.i64.wrap ((k : Int) - 1) = (k : Int) - 1 := IntWalk.i64_in _ (by omega)
              have tk : ((k : Int) - 1).toNat = k - 1 := by omega
              go_wp2_with fail
              go_quiet (fail)
              clear wk tk
              go_wp2_with fail
              go_ret
              exact ⟨by rw [HC.out, HN.out]; rfl, by have hbl := Hbl.out; (repeat' (first | (with_reducible exact Below.refl _ _) | (with_reducible assumption) | (with_reducible refine Below.alloc ?_ ?_ _) | (with_reducible refine Below.setCell ?_ ?_ _) | (with_reducible refine Below.drew ?_) | (with_reducible refine below_drewN ?_ _) | (with_reducible refine below_via ?_ (by with_reducible assumption) ?_) | omega | (simp; done) | (simp; omega)))⟩
            have d0 := decide_eq_false t0
            by_cases t1 : 16 < x.clients[k]
            · have d1 := decide_eq_true t1
              have HN := Lib.hid (show risC 0 x.clients = false from by rw [HV.out, HD.out]; exact risC_no (by omega))
              have wk : IntKind.i64.wrap ((k : Int) - 1) = (k : Int) - 1 := IntWalk.i64_in _ (by omega)
              have tk : ((k : Int) - 1).toNat = k - 1 := by omega
              go_wp2_with fail
              go_quiet (fail)
              clear wk tk
              go_wp2_with fail
              go_ret
              exact ⟨by rw [HC.out, HN.out]; rfl, by have hbl := Hbl.out; (repeat' (first | (with_reducible exact Below.refl _ _) | (with_reducible assumption) | (with_reducible refine Below.alloc ?_ ?_ _) | (with_reducible refine Below.setCell ?_ ?_ _) | (with_reducible refine Below.drew ?_) | (with_reducible refine below_drewN ?_ _) | (with_reducible refine below_via ?_ (by with_reducible assumption) ?_) | omega | (simp; done) | (simp; omega)))⟩
            have d1 := decide_eq_false t1
            have HN := Lib.hid (show risC 0 x.clients = risC x.clients[k] (x.clients.drop (k + 1)) from by rw [HV.out, HD.out]; exact risC_step (by omega) (by omega))
            have c1 : 1 ≤ x.clients[k] := by omega
            have wk : IntKind.i64.wrap ((k : Int) - 1) = (k : Int) - 1 := IntWalk.i64_in _ (by omega)
            have tk : ((k : Int) - 1).toNat = k - 1 := by omega
            go_wp2_with fail
            go_quiet (fail)
            clear wk tk
            go_wp2_with fail
            go_roundw
            case rel => exact ⟨k + 1, x.clients[k], by omega, by go_num, HN.out, by have hbl := Hbl.out; (repeat' (first | (with_reducible exact Below.refl _ _) | (with_reducible assumption) | (with_reducible refine Below.alloc ?_ ?_ _) | (with_reducible refine Below.setCell ?_ ?_ _) | (with_reducible refine Below.drew ?_) | (with_reducible refine below_drewN ?_ _) | (with_reducible refine below_via ?_ (by with_reducible assumption) ?_) | omega | (simp; done) | (simp; omega))), by simpa [go_sem] using hcell, .inr ⟨by omega, by rw [Nat.add_sub_cancel, getD_at hlt], by omega⟩⟩
            case measure => simp [intOf]; omega
          · have g0 : decide (0 < k) = true := by simpa using k0
            have g1 : (0 : Int) ≤ (k : Int) - 1 := by omega
            have hk1 : k - 1 < x.clients.length := by omega
            rw [getD_at hk1] at hx
            obtain ⟨b1, o1, q1, hb1, hq1⟩ := HR.out (k - 1) (encI x.clients[k - 1]) (by simp [hk1])
            injection q1 with q1
            injection q1 with q1 q2 _
            subst q1 q2
            have f0 := (Hbl.out.cell (p := ⟨b, o + (k - 1) * 1 + 0, none⟩) hb).trans (hq1 0 _ rfl)
            simp only [Nat.add_zero, Nat.mul_one] at f0
            rw [← hx] at f0
            have X0 := Lib.hid hx
            clear hq1 hx
            by_cases t0 : x.clients[k] < 1
            · have d0 := decide_eq_true t0
              have HN := Lib.hid (show risC 0 x.clients = false from by rw [HV.out, HD.out]; exact risC_no (by omega))
              have wk : IntKind.i64.wrap ((k : Int) - 1) = (k : Int) - 1 := IntWalk.i64_in _ (by omega)
              have tk : ((k : Int) - 1).toNat = k - 1 := by omega
              go_wp2_with fail
              go_quiet (fail)
              clear wk tk
              go_wp2_with fail
              go_ret
              exact ⟨by rw [HC.out, HN.out]; rfl, by have hbl := Hbl.out; (repeat' (first | (with_reducible exact Below.refl _ _) | (with_reducible assumption) | (with_reducible refine Below.alloc ?_ ?_ _) | (with_reducible refine Below.setCell ?_ ?_ _) | (with_reducible refine Below.drew ?_) | (with_reducible refine below_drewN ?_ _) | (with_reducible refine below_via ?_ (by with_reducible assumption) ?_) | omega | (simp; done) | (simp; omega)))⟩
            have d0 := decide_eq_false t0
            by_cases t1 : 16 < x.clients[k]
            · have d1 := decide_eq_true t1
              have HN := Lib.hid (show risC 0 x.clients = false from by rw [HV.out, HD.out]; exact risC_no (by omega))
              have wk : IntKind.i64.wrap ((k : Int) - 1) = (k : Int) - 1 := IntWalk.i64_in _ (by omega)
              have tk : ((k : Int) - 1).toNat = k - 1 := by omega
              go_wp2_with fail
              go_quiet (fail)
              clear wk tk
              go_wp2_with fail
              go_ret
              exact ⟨by rw [HC.out, HN.out]; rfl, by have hbl := Hbl.out; (repeat' (first | (with_reducible exact Below.refl _ _) | (with_reducible assumption) | (with_reducible refine Below.alloc ?_ ?_ _) | (with_reducible refine Below.setCell ?_ ?_ _) | (with_reducible refine Below.drew ?_) | (with_reducible refine below_drewN ?_ _) | (with_reducible refine below_via ?_ (by with_reducible assumption) ?_) | omega | (simp; done) | (simp; omega)))⟩
            have d1 := decide_eq_false t1
            by_cases t2 : x.clients[k] ≤ q
            · have d2 := decide_eq_true t2
              have HN := Lib.hid (show risC 0 x.clients = false from by rw [HV.out, HD.out]; exact risC_no (by omega))
              have wk : IntKind.i64.wrap ((k : Int) - 1) = (k : Int) - 1 := IntWalk.i64_in _ (by omega)
              have tk : ((k : Int) - 1).toNat = k - 1 := by omega
              go_wp2_with fail
              go_quiet (fail)
              clear wk tk
              go_wp2_with fail
              go_ret
              exact ⟨by rw [HC.out, HN.out]; rfl, by have hbl := Hbl.out; (repeat' (first | (with_reducible exact Below.refl _ _) | (with_reducible assumption) | (with_reducible refine Below.alloc ?_ ?_ _) | (with_reducible refine Below.setCell ?_ ?_ _) | (with_reducible refine Below.drew ?_) | (with_reducible refine below_drewN ?_ _) | (with_reducible refine below_via ?_ (by with_reducible assumption) ?_) | omega | (simp; done) | (simp; omega)))⟩
            have d2 := decide_eq_false t2
            have HN := Lib.hid (show risC 0 x.clients = risC x.clients[k] (x.clients.drop (k + 1)) from by rw [HV.out, HD.out]; exact risC_step (by omega) (by omega))
            have c1 : 1 ≤ x.clients[k] := by omega
            have wk : IntKind.i64.wrap ((k : Int) - 1) = (k : Int) - 1 := IntWalk.i64_in _ (by omega)
            have tk : ((k : Int) - 1).toNat = k - 1 := by omega
            go_wp2_with fail
            go_quiet (fail)
            clear wk tk
            go_wp2_with fail
            go_roundw
            case rel => exact ⟨k + 1, x.clients[k], by omega, by go_num, HN.out, by have hbl := Hbl.out; (repeat' (first | (with_reducible exact Below.refl _ _) | (with_reducible assumption) | (with_reducible refine Below.alloc ?_ ?_ _) | (with_reducible refine Below.setCell ?_ ?_ _) | (with_reducible refine Below.drew ?_) | (with_reducible refine below_drewN ?_ _) | (with_reducible refine below_via ?_ (by with_reducible assumption) ?_) | omega | (simp; done) | (simp; omega))), by simpa [go_sem] using hcell, .inr ⟨by omega, by rw [Nat.add_sub_cancel, getD_at hlt], by omega⟩⟩
            case measure => simp [intOf]; omega
        · have dl : decide ((k : Int) < (x.clients.length : Int)) = false := by simpa using hlt
          have HD := Lib.hid (drop_all (l := x.clients) (k := k) (by omega))
          go_wp2_with fail
          go_ret
          exact ⟨by rw [HC.out, HV.out, HD.out]; rfl, Hbl.out⟩
  · have d7 : (x.kind == 4) = false := by
      have h : x.kind = 1 := by simpa using b6
      rw [h]; rfl
    have h0 : x.clients.length = 0 := by have := of_decide_eq_false e6; omega
    have HL := Lib.hid (List.eq_nil_of_length_eq_zero h0)
    clear d6 e6
    rw [h0]
    go_enter Tryz.func68, Tryz.ntmps68
    go_wp2_with (fail)
    refine wp_loop_rounds 1 ?_
    rw [rounds_succ]
    go_wp2_with fail
    go_ret
    exact ⟨by rw [HC.out, HL.out]; rfl, by (repeat' (first | (with_reducible exact Below.refl _ _) | (with_reducible assumption) | (with_reducible refine Below.alloc ?_ ?_ _) | (with_reducible refine Below.setCell ?_ ?_ _) | (with_reducible refine Below.drew ?_) | (with_reducible refine below_drewN ?_ _) | (with_reducible refine below_via ?_ (by with_reducible assumption) ?_) | omega | (simp; done) | (simp; omega)))⟩
set_option maxRecDepth 100000 in
set_option maxHeartbeats 8000000 in
theorem ref15Units (x : Acct) (A : Option Addr) (c : Nat) (w : World) (hl : x.clients.length ≤ 1048576) (hr : Rd w A 1 (x.clients.map encI)) :
    Calls Tryz.prog 7 #[.agg #[.int .i64 x.id, .int .i64 x.member, .int .i64 x.kind, .slice A x.clients.length c]] w fun e w' => ∃ v, e = .returned v ∧ IsSl 2 encUn w' v (unitsA x) ∧ Below w.heap.size w w' := by
  have HR := Lib.hid hr
  clear hr
  by_cases hk1 : x.kind = 1
  · have b1 : (x.kind == 1) = true := by simpa using hk1
    have HU := Lib.hid (show unitsA x = [⟨x.id, 0⟩] from if_pos hk1)
    clear hk1
    go_enter Tryz.func7, Tryz.ntmps7
    go_wp2_with (first | (at_builtin; refine wpList_app rfl _ _ _ rfl elUn (w.heap.size + 1) _ _ rfl ((Own.nil _ _ _ _).alloc _) (some ⟨_, 0, none⟩) 1 1 rfl [encUn ⟨x.id, 0⟩] rfl (fun h => by cases h) (rd_oneN (by simp)) (rowsUn [⟨x.id, 0⟩]) (by unfold maxLen; first | (simp; done) | omega | (simp; omega)) (by first | (simp; done) | omega | (simp; omega)) (by first | omega | (simp; done) | (simp; omega)) ?_; intro v3 w3 hown3 hb3) | fail)
    go_ret
    refine ⟨_, rfl, ?_, by (repeat' (first | (with_reducible exact Below.refl _ _) | (with_reducible assumption) | (with_reducible refine Below.alloc ?_ ?_ _) | (with_reducible refine Below.setCell ?_ ?_ _) | (with_reducible refine Below.drew ?_) | (with_reducible refine below_drewN ?_ _) | (with_reducible refine below_via ?_ (by with_reducible assumption) ?_) | omega | (simp; done) | (simp; omega)))⟩
    rw [HU.out]
    exact hown3.isSl
  · have b1 : (x.kind == 1) = false := by simpa using hk1
    have HU := Lib.hid (show unitsA x = x.clients.map (fun c => ⟨x.id, c⟩) from if_neg hk1)
    clear hk1
    go_enter Tryz.func7, Tryz.ntmps7
    go_wp2_with (fail)
    go_loopw [3, 4] (fun v i wr => ∃ k : Nat, k ≤ x.clients.length ∧ i = .int .i64 k ∧ Own wr (w.heap.size + 1) 41 2 v (((x.clients.take k).map (fun c => (⟨x.id, c⟩ : Un))).map encUn) ∧ Below w.heap.size w wr ∧ w.heap.size < wr.heap.size ∧ (wr.cell? ⟨w.heap.size, 0, none⟩ = some (.int .i64 x.id) ∧ wr.cell? ⟨w.heap.size, 3, none⟩ = some (.slice A x.clients.length c))) (fun _ i _ => x.clients.length - (intOf i).toNat)
    case atStart => exact ⟨0, Nat.zero_le _, rfl, Own.nil _ _ _ _, by (repeat' (first | (with_reducible exact Below.refl _ _) | (with_reducible assumption) | (with_reducible refine Below.alloc ?_ ?_ _) | (with_reducible refine Below.setCell ?_ ?_ _) | (with_reducible refine Below.drew ?_) | (with_reducible refine below_drewN ?_ _) | (with_reducible refine below_via ?_ (by with_reducible assumption) ?_) | omega | (simp; done) | (simp; omega))), by simp, by simp [go_sem]⟩
    case round =>
      obtain ⟨k, hk, rfl, hown, hbl, hsz, h0, h3⟩ := hrel
      have Hown := Lib.hid hown
      have Hbl := Lib.hid hbl
      have hz := hbl.size
      clear hown hbl
      by_cases hlt : k < x.clients.length
      · have kl : (k : Int) < (x.clients.length : Int) := by omega
        have dl : decide ((k : Int) < (x.clients.length : Int)) = true := by simpa using hlt
        obtain ⟨b, o, rfl, hb, hc⟩ := HR.out k (encI x.clients[k]) (by simp [hlt])
        have e0 := (Hbl.out.cell (p := ⟨b, o + k * 1 + 0, none⟩) hb).trans (hc 0 _ rfl)
        simp only [Nat.add_zero, Nat.mul_one] at e0
        have HS := Lib.hid (map_snoc hlt (fun c => (⟨x.id, c⟩ : Un)))
        clear hc
        go_wp2_with fail
        go_region_held3 (fun w' => (w'.cell? ⟨w.heap.size, 0, none⟩ = some (.int .i64 x.id) ∧ w'.cell? ⟨w.heap.size, 3, none⟩ = some (.slice (some ⟨b, o, none⟩) x.clients.length c)) ∧ w'.cell? ⟨b, o + k, none⟩ = some (.int .i64 x.clients[k])) (first | (simp [go_sem]; done) | (repeat' (first | (with_reducible assumption) | (with_reducible refine And.intro ?_ ?_) | (with_reducible refine cell_drew ?_) | (with_reducible refine cell_via (by with_reducible assumption) ?_ ?_) | (simp [*]; done) | (simp [go_sem]; done) | (with_reducible refine cell_alloc ?_ ?_) | (with_reducible refine cell_set_far ?_ ?_) | omega | (simp; omega)))) (first | (refine step_app rfl _ _ _ rfl elUn (w.heap.size + 1) _ _ rfl (by first | exact Hown.out.drew.alloc _ | exact (Hown.out.alloc _).drew | exact Hown.out.alloc _) _ 1 1 rfl [encUn ⟨x.id, x.clients[k]⟩] rfl (fun h => by cases h) (by first | exact rd_one | exact rd_one.drew) (rowsUn [⟨x.id, x.clients[k]⟩]) (by unfold maxLen; simp; omega) (by simp; omega) (by first | omega | (simp; done) | (simp; omega)) ?_; intro v3 w3 hown3 hb3) | fail)
        go_wp2_with fail
        go_roundw
        case rel => exact ⟨k + 1, by omega, by go_num, by rw [HS.out, List.map_append]; exact hown3, by have hbl := Hbl.out; (repeat' (first | (with_reducible exact Below.refl _ _) | (with_reducible assumption) | (with_reducible refine Below.alloc ?_ ?_ _) | (with_reducible refine Below.setCell ?_ ?_ _) | (with_reducible refine Below.drew ?_) | (with_reducible refine below_drewN ?_ _) | (with_reducible refine below_via ?_ (by with_reducible assumption) ?_) | omega | (simp; done) | (simp; omega))), by have := hb3.size; simp at this; omega, by rw [hb3.cell (p := ⟨w.heap.size, 0, none⟩) (by simp)]; simp [go_sem, h0, hsz], by rw [hb3.cell (p := ⟨w.heap.size, 3, none⟩) (by simp)]; simp [go_sem, h3, hsz]⟩
        case measure => simp [intOf]; omega
      · have dl : decide ((k : Int) < (x.clients.length : Int)) = false := by simpa using hlt
        have HT := Lib.hid (show x.clients.take k = x.clients from List.take_of_length_le (by omega))
        go_wp2_with (fail)
        go_ret
        refine ⟨_, rfl, ?_, Hbl.out⟩
        rw [HU.out]
        have := Hown.out
        rw [HT.out] at this
        exact this.isSl
end Go.Proofs.YtalgfpegaobacaaGreat

/- Accounts: contracts of slices.Insert of a whole number, acct.Bind. -/
namespace Go.Proofs.YtalgfpegaobacaaGreat
open Go.RowKit
end Go.Proofs.YtalgfpegaobacaaGreat
