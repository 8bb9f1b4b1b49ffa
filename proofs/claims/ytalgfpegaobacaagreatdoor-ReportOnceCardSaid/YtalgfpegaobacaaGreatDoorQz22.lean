/- Joined. -/
import Derived.Test.YtalgfpegaobacaaGreatDoorQz12
import Derived.Test.YtalgfpegaobacaaGreatDoorQz20
namespace Go.Proofs.YtalgfpegaobacaaGreatDoor
set_option linter.all false
set_option maxHeartbeats 64000000
set_option maxRecDepth 100000
open Go.RowKit
open Lib (hid)
/- States handed in, and cut short: what they are. -/
structure RawSt (w : World) (s : StV) : Prop where
 side : RawS w (sideV s)
 day : In64 s.day
 lm : s.mem.val.length ≤ maxLen
 rm : Rd w s.mem.A 4 (s.mem.val.map encMb)
 om : ∀ m ∈ s.mem.val, okMb m
 lc : s.acs.val.length ≤ maxLen
 rc : Rd w s.acs.A 4 (s.acs.val.map encAcctV)
 gc : ∀ x ∈ s.acs.val, GoodA w x
 oc : ∀ x ∈ s.acs.val, In64 x.id ∧ In64 x.member ∧ In64 x.kind ∧ ∀ z ∈ x.clients.val, In64 z
 ls : s.sale.val.length ≤ maxLen
 rs : Rd w s.sale.A 3 (s.sale.val.map encPosV)
 gs : ∀ x ∈ s.sale.val, Rs w 2 (x.legs.val.map encLeg) x.legs.A x.legs.c
 ob : ∀ x ∈ s.bk.val, ∀ z ∈ x.legs.val, In64 z.inst ∧ In64 z.qty
 os : ∀ x ∈ s.sale.val, ∀ z ∈ x.legs.val, In64 z.inst ∧ In64 z.qty
 oh : ∀ x ∈ s.ho.val, ∀ z ∈ x.lots.val, In64 z.asset ∧ In64 z.tag ∧ In64 z.qty
 rch : Rs w 5 (s.cho.val.map encChoice) s.cho.A s.cho.c
 lg : s.grp.val.length ≤ maxLen
 rg : Rd w s.grp.A 6 (s.grp.val.map encGroup)
 og : ∀ x ∈ s.grp.val, okGroup x
 lv : s.giv.val.length ≤ maxLen
 rv : Rd w s.giv.A 11 (s.giv.val.map encGive)
 ov : ∀ x ∈ s.giv.val, okGive x
structure FewSt (w0 : World) (base : Nat) (w : World) (s : StV) : Prop where
 day : In64 s.day
 om : Own w base 49 4 (.slice s.mem.A s.mem.val.length s.mem.c) (s.mem.val.map encMb)
 lm : s.mem.val.length ≤ 100
 okm : ∀ m ∈ s.mem.val, okMb m
 oi : Own w base 58 5 (.slice s.ins.A s.ins.val.length s.ins.c) (s.ins.val.map encInstV)
 li : s.ins.val.length ≤ 1000
 gi : ∀ x ∈ s.ins.val, x.moves.val.length ≤ 1048576 ∧ GoodI w0 x
 oa : Own w base 51 3 (.slice s.ats.A s.ats.val.length s.ats.c) (s.ats.val.map encAsset)
 la : s.ats.val.length ≤ 1000
 oc : Own w base 54 4 (.slice s.acs.A s.acs.val.length s.acs.c) (s.acs.val.map encAcctV)
 lc : s.acs.val.length ≤ 60
 gc : ∀ x ∈ s.acs.val, x.clients.val.length ≤ 40 ∧ GoodA w0 x
 okc : ∀ x ∈ s.acs.val, In64 x.id ∧ In64 x.member ∧ In64 x.kind ∧ ∀ z ∈ x.clients.val, In64 z
 rch : Rs w0 5 (s.cho.val.map encChoice) s.cho.A s.cho.c
 lch : s.cho.val.length ≤ 20
 og : Own w base 62 6 (.slice s.grp.A s.grp.val.length s.grp.c) (s.grp.val.map encGroup)
 lg : s.grp.val.length ≤ 70
 okg : ∀ x ∈ s.grp.val, okGroup x
 ov : Own w base 66 11 (.slice s.giv.A s.giv.val.length s.giv.c) (s.giv.val.map encGive)
 lv : s.giv.val.length ≤ 70
 okv : ∀ x ∈ s.giv.val, okGive x
 ob : Own w base 82 3 (.slice s.bk.A s.bk.val.length s.bk.c) (s.bk.val.map encPosV)
 lb : s.bk.val.length ≤ 1000
 gb : ∀ x ∈ s.bk.val, GoodPosV w0 x
 lb40 : ∀ x ∈ s.bk.val, x.legs.val.length ≤ 40 ∧ ∀ z ∈ x.legs.val, In64 z.inst ∧ In64 z.qty
 os : Own w base 82 3 (.slice s.sale.A s.sale.val.length s.sale.c) (s.sale.val.map encPosV)
 ls : s.sale.val.length ≤ 1000
 gs : ∀ x ∈ s.sale.val, GoodPosV w0 x
 ls40 : ∀ x ∈ s.sale.val, x.legs.val.length ≤ 40 ∧ ∀ z ∈ x.legs.val, In64 z.inst ∧ In64 z.qty
 rp : Rs w0 3 (s.pu.val.map encFlow) s.pu.A s.pu.c
 lp : s.pu.val.length ≤ 20
 p64 : ∀ x ∈ s.pu.val, In64 x.amount
 oh : Own w base 75 3 (.slice s.ho.A s.ho.val.length s.ho.c) (s.ho.val.map encHoldV)
 lh : s.ho.val.length ≤ 10
 gh : ∀ x ∈ s.ho.val, GoodHoldV w0 x
 lh40 : ∀ x ∈ s.ho.val, x.lots.val.length ≤ 40 ∧ ∀ z ∈ x.lots.val, In64 z.asset ∧ In64 z.tag ∧ In64 z.qty
theorem FewSt.good {w0 w X : World} {base : Nat} {s : StV} (h : FewSt w0 base w s) (hok : ∀ a ∈ s.ats.val, okA a) (h0 : Below w0.heap.size w0 X) (hl : Late base w X) : GoodSt X s := by
 have hb := (h.ob.late hl (Nat.le_refl _)).good.rd
 have hs := (h.os.late hl (Nat.le_refl _)).good.rd
 refine ⟨⟨(h.oa.late hl (Nat.le_refl _)).good.rd, h.la, (h.oi.late hl (Nat.le_refl _)).good.rd, h.li, fun x hx => ⟨(h.gi x hx).1, (h.gi x hx).2.keep h0⟩, hb, h.lb, fun x hx => (h.gb x hx).keep h0, ?_, h.rp.keep h0, Nat.le_trans h.lp (by omega), h.p64, (h.oh.late hl (Nat.le_refl _)).good, Nat.le_trans h.lh (by omega), fun x hx => (h.gh x hx).keep h0, ?_⟩, hok, hs, h.ls, fun x hx => (h.gs x hx).keep h0, h.lb40, h.ls40, h.lh40, (h.om.late hl (Nat.le_refl _)).good.rd, h.lm, h.okm, (h.oc.late hl (Nat.le_refl _)).good, h.lc, fun x hx => ⟨(h.gc x hx).1, (h.gc x hx).2.keep h0⟩, h.okc, h.day⟩
 ·intro r hr z hz
  obtain ⟨x, hx, rfl⟩ := List.mem_map.1 hr
  exact ((h.lb40 x hx).2 z hz).2
 ·intro r hr
  obtain ⟨x, hx, rfl⟩ := List.mem_map.1 hr
  exact ⟨Nat.le_trans (h.lh40 x hx).1 (by omega), fun z hz => ((h.lh40 x hx).2 z hz).2.2⟩
def setL (w : World) (g : Nat) : Nat → List Value → World
 | _, [] => w
 | i, v :: t => setL (w.setCell ⟨g, i, none⟩ v) g (i + 1) t
theorem setL_only {g : Nat} {w : World} : ∀ (vs : List Value) (i : Nat) {a : World} (_ : Only g w a), Only g w (setL a g i vs)
 | [], _, _, h => h
 | v :: t, i, _, h => setL_only t (i + 1) (h.set (.inl rfl) v)
theorem setL_blk {g t : Nat} : ∀ (vs : List Value) (i : Nat) {w : World} {cs : Array Value} (_ : Blk w g t cs) (_ : i + vs.length = cs.size), Blk (setL w g i vs) g t (cs.toList.take i ++ vs).toArray
 | [], i, w, cs, h, hi => by
  rw [List.append_nil, List.take_of_length_le (by simp at hi; simp [hi])]
  exact h
 | v :: vs, i, w, cs, h, hi => by
  have h1 := setL_blk vs (i + 1) (h.set i v) (by simp at hi ⊢; omega)
  have h2 : (cs.setIfInBounds i v).toList.take (i + 1) = cs.toList.take i ++ [v] := by
   have hl : i < cs.size := by rw [List.length_cons] at hi; omega
   simp only [Array.toList_setIfInBounds]
   rw [List.take_succ_eq_append_getElem (by rw [List.length_set]; exact hl), List.getElem_set_self, List.take_set_of_le (Nat.le_refl _)]
  rw [h2, List.append_assoc] at h1
  exact h1
theorem late_only {base g : Nat} {w X : World} (h : Only g w X) (hg : g < base) : Late base w X := ⟨h.size, fun b h1 h2 => h.block b h2 (by omega)⟩
/- Twelve fields stored. -/
theorem set12_blk {w : World} {g t : Nat} {cs : Array Value} {v0 v1 v2 v3 v4 v5 v6 v7 v8 v9 v10 v11 : Value} (h : Blk w g t cs) (hs : cs.size = 12) : Blk ((((((((((((w.setCell ⟨g, 0, none⟩ v0).setCell ⟨g, 1, none⟩ v1).setCell ⟨g, 2, none⟩ v2).setCell ⟨g, 3, none⟩ v3).setCell ⟨g, 4, none⟩ v4).setCell ⟨g, 5, none⟩ v5).setCell ⟨g, 6, none⟩ v6).setCell ⟨g, 7, none⟩ v7).setCell ⟨g, 8, none⟩ v8).setCell ⟨g, 9, none⟩ v9).setCell ⟨g, 10, none⟩ v10).setCell ⟨g, 11, none⟩ v11) g t #[v0, v1, v2, v3, v4, v5, v6, v7, v8, v9, v10, v11] := setL_blk [v0, v1, v2, v3, v4, v5, v6, v7, v8, v9, v10, v11] 0 h (by simp [hs])
theorem set12_only {w : World} {g : Nat} {v0 v1 v2 v3 v4 v5 v6 v7 v8 v9 v10 v11 : Value} : Only g w ((((((((((((w.setCell ⟨g, 0, none⟩ v0).setCell ⟨g, 1, none⟩ v1).setCell ⟨g, 2, none⟩ v2).setCell ⟨g, 3, none⟩ v3).setCell ⟨g, 4, none⟩ v4).setCell ⟨g, 5, none⟩ v5).setCell ⟨g, 6, none⟩ v6).setCell ⟨g, 7, none⟩ v7).setCell ⟨g, 8, none⟩ v8).setCell ⟨g, 9, none⟩ v9).setCell ⟨g, 10, none⟩ v10).setCell ⟨g, 11, none⟩ v11) := setL_only [v0, v1, v2, v3, v4, v5, v6, v7, v8, v9, v10, v11] 0 (Only.refl _ _)
theorem set12_own {w : World} {g t base T k : Nat} {cs : Array Value} {v : Value} {rows : List (List Value)} {v0 v1 v2 v3 v4 v5 v6 v7 v8 v9 v10 v11 : Value} (h : Own w base T k v rows) (hb : Blk w g t cs) (ht : T ≠ t) : Own ((((((((((((w.setCell ⟨g, 0, none⟩ v0).setCell ⟨g, 1, none⟩ v1).setCell ⟨g, 2, none⟩ v2).setCell ⟨g, 3, none⟩ v3).setCell ⟨g, 4, none⟩ v4).setCell ⟨g, 5, none⟩ v5).setCell ⟨g, 6, none⟩ v6).setCell ⟨g, 7, none⟩ v7).setCell ⟨g, 8, none⟩ v8).setCell ⟨g, 9, none⟩ v9).setCell ⟨g, 10, none⟩ v10).setCell ⟨g, 11, none⟩ v11) base T k v rows := h.away (Away.only set12_only ⟨_, _, hb⟩) ht
/- The law's Few of a state (33): what its loops make, step by step. No call in sight. -/
def cut12 (x : InstV) : InstV := { x with moves := ⟨x.moves.A, x.moves.c, x.moves.val.take 12⟩ }
theorem good12 {w : World} {x : InstV} (h : GoodI w x) : GoodI w (cut12 x) ∧ (cut12 x).moves.val.length ≤ 12 := by
 refine ⟨?_, by simp [cut12]; omega⟩
 unfold GoodI at *
 have := h.take 12
 rw [← List.map_take] at this
 exact this
structure FewA (wr : World) (base g : Nat) (d v5 v8 v9 v10 v11 v1 v2 v3 v4 v6 v7 : Value) (M : List Mb) (I : List InstV) (T : List Asset) (C : List AcctV) (G : List Group) (V : List Give) : Prop where
 hbk : Blk wr g 33 #[d, v1, v2, v3, v4, v5, v6, v7, v8, v9, v10, v11]
 o1 : Own wr base 49 4 v1 (M.map encMb)
 o2 : Own wr base 58 5 v2 (I.map encInstV)
 o3 : Own wr base 51 3 v3 (T.map encAsset)
 o4 : Own wr base 54 4 v4 (C.map encAcctV)
 o6 : Own wr base 62 6 v6 (G.map encGroup)
 o7 : Own wr base 66 11 v7 (V.map encGive)
section
variable {wx wr w3 w4 : World} {base g : Nat} {d v5 v8 v9 v10 v11 v1 v2 v3 v4 v6 v7 v : Value} {M M' : List Mb} {I I' : List InstV} {T T' : List Asset} {C C' : List AcctV} {G G' : List Group} {V V' : List Give}
theorem blk_away {E t : TypeId} {cs : Array Value} (h : Blk wr g t cs) (ha : Away E wr w4) (hne : t ≠ E) : Blk w4 g t cs := by
 unfold Blk at h ⊢
 rw [ha.block g (Blk.lt h) (fun cs' r e => by
  rw [h] at e
  injection e with e
  injection e with _ e _
  exact hne e)]
 exact h
theorem away_step {E k : Nat} {rows : List (List Value)} (hb : Below wr.heap.size wr w3) (hown : Own w3 base E k v rows) (hg : w3.grownBy w4 v.ownBlock) : Away E wr w4 := (Away.below hb).trans (Away.grown hg hown.typed)
theorem FewA.put (i : Nat) (u : Value) {cs : Array Value} (hbk : Blk w4 g 33 cs) : Blk (w4.setCell ⟨g, i, none⟩ u) g 33 (cs.setIfInBounds i u) ∧ ∀ {E k : Nat} {x : Value} {rows : List (List Value)} (_ : Own w4 base E k x rows) (_ : E ≠ 33), Own (w4.setCell ⟨g, i, none⟩ u) base E k x rows :=
 ⟨hbk.set i u, fun h hne => h.away (Away.set w4 u ⟨_, _, hbk⟩) hne⟩
theorem FewA.mem (h : FewA wr base g d v5 v8 v9 v10 v11 v1 v2 v3 v4 v6 v7 M I T C G V) (hb : Below wr.heap.size wr w3) (hg : w3.grownBy w4 v1.ownBlock) (ho : Own w4 base 49 4 v ((M').map encMb)) : FewA (w4.setCell ⟨g, 1, none⟩ v) base g d v5 v8 v9 v10 v11 v v2 v3 v4 v6 v7 M' I T C G V := by
 have ha := away_step hb (h.o1.keep hb) hg
 obtain ⟨p1, p2⟩ := FewA.put (base := base) 1 v (blk_away h.hbk ha (by decide))
 exact ⟨p1, p2 ho (by decide), (p2 (h.o2.away ha (by decide)) (by decide)), (p2 (h.o3.away ha (by decide)) (by decide)), (p2 (h.o4.away ha (by decide)) (by decide)), (p2 (h.o6.away ha (by decide)) (by decide)), (p2 (h.o7.away ha (by decide)) (by decide))⟩
theorem FewA.ins (h : FewA wr base g d v5 v8 v9 v10 v11 v1 v2 v3 v4 v6 v7 M I T C G V) (hb : Below wr.heap.size wr w3) (hg : w3.grownBy w4 v2.ownBlock) (ho : Own w4 base 58 5 v ((I').map encInstV)) : FewA (w4.setCell ⟨g, 2, none⟩ v) base g d v5 v8 v9 v10 v11 v1 v v3 v4 v6 v7 M I' T C G V := by
 have ha := away_step hb (h.o2.keep hb) hg
 obtain ⟨p1, p2⟩ := FewA.put (base := base) 2 v (blk_away h.hbk ha (by decide))
 exact ⟨p1, (p2 (h.o1.away ha (by decide)) (by decide)), p2 ho (by decide), (p2 (h.o3.away ha (by decide)) (by decide)), (p2 (h.o4.away ha (by decide)) (by decide)), (p2 (h.o6.away ha (by decide)) (by decide)), (p2 (h.o7.away ha (by decide)) (by decide))⟩
theorem FewA.ats (h : FewA wr base g d v5 v8 v9 v10 v11 v1 v2 v3 v4 v6 v7 M I T C G V) (hb : Below wr.heap.size wr w3) (hg : w3.grownBy w4 v3.ownBlock) (ho : Own w4 base 51 3 v ((T').map encAsset)) : FewA (w4.setCell ⟨g, 3, none⟩ v) base g d v5 v8 v9 v10 v11 v1 v2 v v4 v6 v7 M I T' C G V := by
 have ha := away_step hb (h.o3.keep hb) hg
 obtain ⟨p1, p2⟩ := FewA.put (base := base) 3 v (blk_away h.hbk ha (by decide))
 exact ⟨p1, (p2 (h.o1.away ha (by decide)) (by decide)), (p2 (h.o2.away ha (by decide)) (by decide)), p2 ho (by decide), (p2 (h.o4.away ha (by decide)) (by decide)), (p2 (h.o6.away ha (by decide)) (by decide)), (p2 (h.o7.away ha (by decide)) (by decide))⟩
theorem FewA.acs (h : FewA wr base g d v5 v8 v9 v10 v11 v1 v2 v3 v4 v6 v7 M I T C G V) (hb : Below wr.heap.size wr w3) (hg : w3.grownBy w4 v4.ownBlock) (ho : Own w4 base 54 4 v ((C').map encAcctV)) : FewA (w4.setCell ⟨g, 4, none⟩ v) base g d v5 v8 v9 v10 v11 v1 v2 v3 v v6 v7 M I T C' G V := by
 have ha := away_step hb (h.o4.keep hb) hg
 obtain ⟨p1, p2⟩ := FewA.put (base := base) 4 v (blk_away h.hbk ha (by decide))
 exact ⟨p1, (p2 (h.o1.away ha (by decide)) (by decide)), (p2 (h.o2.away ha (by decide)) (by decide)), (p2 (h.o3.away ha (by decide)) (by decide)), p2 ho (by decide), (p2 (h.o6.away ha (by decide)) (by decide)), (p2 (h.o7.away ha (by decide)) (by decide))⟩
theorem FewA.grp (h : FewA wr base g d v5 v8 v9 v10 v11 v1 v2 v3 v4 v6 v7 M I T C G V) (hb : Below wr.heap.size wr w3) (hg : w3.grownBy w4 v6.ownBlock) (ho : Own w4 base 62 6 v ((G').map encGroup)) : FewA (w4.setCell ⟨g, 6, none⟩ v) base g d v5 v8 v9 v10 v11 v1 v2 v3 v4 v v7 M I T C G' V := by
 have ha := away_step hb (h.o6.keep hb) hg
 obtain ⟨p1, p2⟩ := FewA.put (base := base) 6 v (blk_away h.hbk ha (by decide))
 exact ⟨p1, (p2 (h.o1.away ha (by decide)) (by decide)), (p2 (h.o2.away ha (by decide)) (by decide)), (p2 (h.o3.away ha (by decide)) (by decide)), (p2 (h.o4.away ha (by decide)) (by decide)), p2 ho (by decide), (p2 (h.o7.away ha (by decide)) (by decide))⟩
theorem FewA.giv (h : FewA wr base g d v5 v8 v9 v10 v11 v1 v2 v3 v4 v6 v7 M I T C G V) (hb : Below wr.heap.size wr w3) (hg : w3.grownBy w4 v7.ownBlock) (ho : Own w4 base 66 11 v ((V').map encGive)) : FewA (w4.setCell ⟨g, 7, none⟩ v) base g d v5 v8 v9 v10 v11 v1 v2 v3 v4 v6 v M I T C G V' := by
 have ha := away_step hb (h.o7.keep hb) hg
 obtain ⟨p1, p2⟩ := FewA.put (base := base) 7 v (blk_away h.hbk ha (by decide))
 exact ⟨p1, (p2 (h.o1.away ha (by decide)) (by decide)), (p2 (h.o2.away ha (by decide)) (by decide)), (p2 (h.o3.away ha (by decide)) (by decide)), (p2 (h.o4.away ha (by decide)) (by decide)), (p2 (h.o6.away ha (by decide)) (by decide)), p2 ho (by decide)⟩
theorem FewA.below (h : FewA wr base g d v5 v8 v9 v10 v11 v1 v2 v3 v4 v6 v7 M I T C G V) (hb : Below wr.heap.size wr w3) : FewA w3 base g d v5 v8 v9 v10 v11 v1 v2 v3 v4 v6 v7 M I T C G V :=
 ⟨h.hbk.below hb h.hbk.lt, h.o1.keep hb, h.o2.keep hb, h.o3.keep hb, h.o4.keep hb, h.o6.keep hb, h.o7.keep hb⟩
theorem only_step {E k : Nat} {rows : List (List Value)} (hon : Only g wx wr) (hb : Below wr.heap.size wr w3) (hown : Own w3 wx.heap.size E k v1 rows) (hg : w3.grownBy w4 v1.ownBlock) (i : Nat) (u : Value) : Only g wx (w4.setCell ⟨g, i, none⟩ u) := by
 have h1 := hon.via hb
 refine Only.set (p := ⟨g, i, none⟩) (show Only g wx w4 from ⟨hg.os.trans h1.os, hg.tape.trans h1.tape, hg.output.trans h1.output, Nat.le_trans h1.size hg.size, fun b hb' hne => ?_⟩) (.inl rfl) u
 exact (hg.block b (Nat.lt_of_lt_of_le hb' h1.size) (fun e => by have := (hown.block b e.symm).1; omega)).trans (h1.block b hb' hne)
theorem only_cell (hon : Only g wx wr) {p : Addr} (hp : p.block < wx.heap.size) (hne : p.block ≠ g) : wr.cell? p = wx.cell? p := by
 have := hon.block p.block hp hne
 unfold World.cell?
 rw [this]
end
theorem own_slice {w : World} {base E k : Nat} {v : Value} {rows : List (List Value)} (h : Own w base E k v rows) : ∃ A n c, v = .slice A n c := by
 obtain ⟨A, c, hv, _⟩ := h.rs
 exact ⟨A, _, c, hv⟩
def FewL (wx wr : World) (g : Nat) (d v5 v8 v9 v10 v11 : Value) (M : List Mb) (I : List InstV) (T : List Asset) (C : List AcctV) (G : List Group) (V : List Give) : Prop :=
 Only g wx wr ∧ ∃ v1 v2 v3 v4 v6 v7, FewA wr wx.heap.size g d v5 v8 v9 v10 v11 v1 v2 v3 v4 v6 v7 M I T C G V
theorem FewL.start {wx : World} {g : Nat} {d v5 v8 v9 v10 v11 : Value} (h : Blk wx g 33 #[d, .slice none 0 0, .slice none 0 0, .slice none 0 0, .slice none 0 0, v5, .slice none 0 0, .slice none 0 0, v8, v9, v10, v11]) : FewL wx wx g d v5 v8 v9 v10 v11 [] [] [] [] [] [] :=
 ⟨Only.refl _ _, _, _, _, _, _, _, h, Own.nil _ _ _ _, Own.nil _ _ _ _, Own.nil _ _ _ _, Own.nil _ _ _ _, Own.nil _ _ _ _, Own.nil _ _ _ _⟩
theorem okC_short {x : AcctV} (h : In64 x.id ∧ In64 x.member ∧ In64 x.kind ∧ ∀ z ∈ x.clients.val, In64 z) : In64 (shortN x).id ∧ In64 (shortN x).member ∧ In64 (shortN x).kind ∧ ∀ z ∈ (shortN x).clients.val, In64 z :=
 ⟨h.1, h.2.1, h.2.2.1, fun z hz => h.2.2.2 z (List.mem_of_mem_take hz)⟩
theorem few_of {w0 wr w' : World} {base b : Nat} {s : StV} {A1 A2 A3 A4 A6 A7 A8 A9 A11 : Option Addr} {c1 c2 c3 c4 c6 c7 c8 c9 c11 : Nat} {cs : Array Value} (hs : RawSt w0 s) {v0 u1 u2 u3 u4 u5 u6 u7 u8 u9 u10 u11 : Value}
  (hw : w' = ((((((((((((wr.setCell ⟨b, 0, none⟩ v0).setCell ⟨b, 1, none⟩ u1).setCell ⟨b, 2, none⟩ u2).setCell ⟨b, 3, none⟩ u3).setCell ⟨b, 4, none⟩ u4).setCell ⟨b, 5, none⟩ u5).setCell ⟨b, 6, none⟩ u6).setCell ⟨b, 7, none⟩ u7).setCell ⟨b, 8, none⟩ u8).setCell ⟨b, 9, none⟩ u9).setCell ⟨b, 10, none⟩ u10).setCell ⟨b, 11, none⟩ u11))
  (hb : Blk wr b 33 cs)
  (o1 : Own wr base 49 4 (.slice A1 (s.mem.val.take 20).length c1) ((s.mem.val.take 20).map encMb))
  (o2 : Own wr base 58 5 (.slice A2 ((s.ins.val.take 20).map cut12).length c2) (((s.ins.val.take 20).map cut12).map encInstV))
  (o3 : Own wr base 51 3 (.slice A3 (s.ats.val.take 20).length c3) ((s.ats.val.take 20).map encAsset))
  (o4 : Own wr base 54 4 (.slice A4 ((s.acs.val.take 20).map shortN).length c4) (((s.acs.val.take 20).map shortN).map encAcctV))
  (o6 : Own wr base 62 6 (.slice A6 (s.grp.val.take 70).length c6) ((s.grp.val.take 70).map encGroup))
  (o7 : Own wr base 66 11 (.slice A7 (s.giv.val.take 70).length c7) ((s.giv.val.take 70).map encGive))
  (o8 : Own wr base 82 3 (.slice A8 ((s.bk.val.take 12).map fewPosV).length c8) (((s.bk.val.take 12).map fewPosV).map encPosV))
  (o9 : Own wr base 82 3 (.slice A9 ((s.sale.val.take 12).map fewPosV).length c9) (((s.sale.val.take 12).map fewPosV).map encPosV))
  (o11 : Own wr base 75 3 (.slice A11 ((s.ho.val.take 10).map fewHoldV).length c11) (((s.ho.val.take 10).map fewHoldV).map encHoldV)) :
  FewSt w0 base w' ⟨s.day, ⟨A1, c1, s.mem.val.take 20⟩, ⟨A2, c2, (s.ins.val.take 20).map cut12⟩, ⟨A3, c3, s.ats.val.take 20⟩, ⟨A4, c4, (s.acs.val.take 20).map shortN⟩, ⟨s.cho.A, s.cho.c, s.cho.val.take 20⟩, ⟨A6, c6, s.grp.val.take 70⟩, ⟨A7, c7, s.giv.val.take 70⟩, ⟨A8, c8, (s.bk.val.take 12).map fewPosV⟩, ⟨A9, c9, (s.sale.val.take 12).map fewPosV⟩, ⟨s.pu.A, s.pu.c, s.pu.val.take 20⟩, ⟨A11, c11, (s.ho.val.take 10).map fewHoldV⟩⟩ := by
 have K : ∀ {E k : Nat} {v : Value} {rows : List (List Value)}, Own wr base E k v rows → E ≠ 33 → Own w' base E k v rows := fun h hne => by rw [hw]; exact set12_own h hb hne
 exact {
  day := hs.day
  om := K o1 (by decide)
  lm := by show (s.mem.val.take 20).length ≤ 100; rw [List.length_take]; omega
  okm := fun m hm => hs.om m (List.mem_of_mem_take hm)
  oi := K o2 (by decide)
  li := by show ((s.ins.val.take 20).map cut12).length ≤ 1000; rw [List.length_map, List.length_take]; omega
  gi := fun x hx => by
   obtain ⟨y, hy, rfl⟩ := List.mem_map.1 hx
   have := good12 (hs.side.gi y (List.mem_of_mem_take hy))
   exact ⟨by have := this.2; omega, this.1⟩
  oa := K o3 (by decide)
  la := by show (s.ats.val.take 20).length ≤ 1000; rw [List.length_take]; omega
  oc := K o4 (by decide)
  lc := by show ((s.acs.val.take 20).map shortN).length ≤ 60; rw [List.length_map, List.length_take]; omega
  gc := fun x hx => by
   obtain ⟨y, hy, rfl⟩ := List.mem_map.1 hx
   have := good_shortN (hs.gc y (List.mem_of_mem_take hy))
   exact ⟨by have := this.2; omega, this.1⟩
  okc := fun x hx => by
   obtain ⟨y, hy, rfl⟩ := List.mem_map.1 hx
   exact okC_short (hs.oc y (List.mem_of_mem_take hy))
  rch := by have h := hs.rch.take 20; rw [← List.map_take] at h; exact h
  lch := by show (s.cho.val.take 20).length ≤ 20; rw [List.length_take]; omega
  og := K o6 (by decide)
  lg := by show (s.grp.val.take 70).length ≤ 70; rw [List.length_take]; omega
  okg := fun x hx => hs.og x (List.mem_of_mem_take hx)
  ov := K o7 (by decide)
  lv := by show (s.giv.val.take 70).length ≤ 70; rw [List.length_take]; omega
  okv := fun x hx => hs.ov x (List.mem_of_mem_take hx)
  ob := K o8 (by decide)
  lb := by show ((s.bk.val.take 12).map fewPosV).length ≤ 1000; rw [List.length_map, List.length_take]; omega
  gb := fun x hx => by
   obtain ⟨y, hy, rfl⟩ := List.mem_map.1 hx
   exact (fewPosV_good (hs.side.gb y (List.mem_of_mem_take hy))).1
  lb40 := fun x hx => by
   obtain ⟨y, hy, rfl⟩ := List.mem_map.1 hx
   exact ⟨by have := (fewPosV_good (hs.side.gb y (List.mem_of_mem_take hy))).2; omega, fun z hz => hs.ob y (List.mem_of_mem_take hy) z (List.mem_of_mem_take hz)⟩
  os := K o9 (by decide)
  ls := by show ((s.sale.val.take 12).map fewPosV).length ≤ 1000; rw [List.length_map, List.length_take]; omega
  gs := fun x hx => by
   obtain ⟨y, hy, rfl⟩ := List.mem_map.1 hx
   exact (fewPosV_good (hs.gs y (List.mem_of_mem_take hy))).1
  ls40 := fun x hx => by
   obtain ⟨y, hy, rfl⟩ := List.mem_map.1 hx
   exact ⟨by have := (fewPosV_good (hs.gs y (List.mem_of_mem_take hy))).2; omega, fun z hz => hs.os y (List.mem_of_mem_take hy) z (List.mem_of_mem_take hz)⟩
  rp := by have h := hs.side.rp.take 20; rw [← List.map_take] at h; exact h
  lp := by show (s.pu.val.take 20).length ≤ 20; rw [List.length_take]; omega
  p64 := fun x hx => hs.side.p64 x (List.mem_of_mem_take hx)
  oh := K o11 (by decide)
  lh := by show ((s.ho.val.take 10).map fewHoldV).length ≤ 10; rw [List.length_map, List.length_take]; omega
  gh := fun x hx => by
   obtain ⟨y, hy, rfl⟩ := List.mem_map.1 hx
   exact (fewHoldV_good (hs.side.gh y (List.mem_of_mem_take hy))).1
  lh40 := fun x hx => by
   obtain ⟨y, hy, rfl⟩ := List.mem_map.1 hx
   exact ⟨by have := (fewHoldV_good (hs.side.gh y (List.mem_of_mem_take hy))).2; omega, fun z hz => hs.oh y (List.mem_of_mem_take hy) z (List.mem_of_mem_take hz)⟩ }
/- A ledger (33), as the reference reads it: contracts of Units, Has, inst, owner. -/
structure LedSt (w : World) (s : StV) : Prop where
 side : GoodS w (sideV s)
 rs : Rd w s.sale.A 3 (s.sale.val.map encPosV)
 ls : s.sale.val.length ≤ 1000
 gs : ∀ x ∈ s.sale.val, GoodPosV w x
 lb : ∀ x ∈ s.bk.val, x.legs.val.length ≤ 40 ∧ ∀ z ∈ x.legs.val, In64 z.inst ∧ In64 z.qty
 lsl : ∀ x ∈ s.sale.val, x.legs.val.length ≤ 40 ∧ ∀ z ∈ x.legs.val, In64 z.inst ∧ In64 z.qty
 lh : ∀ x ∈ s.ho.val, x.lots.val.length ≤ 40 ∧ ∀ z ∈ x.lots.val, In64 z.asset ∧ In64 z.tag ∧ In64 z.qty
 rm : Rd w s.mem.A 4 (s.mem.val.map encMb)
 lm : s.mem.val.length ≤ 100
 om : ∀ m ∈ s.mem.val, okMb m
 rc : Rs w 4 (s.acs.val.map encAcctV) s.acs.A s.acs.c
 lc : s.acs.val.length ≤ 60
 gc : ∀ x ∈ s.acs.val, x.clients.val.length ≤ 40 ∧ GoodA w x
 oc : ∀ x ∈ s.acs.val, In64 x.id ∧ In64 x.member ∧ In64 x.kind ∧ ∀ z ∈ x.clients.val, In64 z
 day : In64 s.day
 rch : Rs w 5 (s.cho.val.map encChoice) s.cho.A s.cho.c
 lch : s.cho.val.length ≤ 20
 rg : Rd w s.grp.A 6 (s.grp.val.map encGroup)
 lg : s.grp.val.length ≤ 70
 og : ∀ x ∈ s.grp.val, okGroup x
 rv : Rd w s.giv.A 11 (s.giv.val.map encGive)
 lv : s.giv.val.length ≤ 70
 ov : ∀ x ∈ s.giv.val, okGive x
theorem LedSt.keep {w w' : World} {s : StV} (h : LedSt w s) (hb : Below w.heap.size w w') : LedSt w' s :=
 ⟨h.side.keep hb, h.rs.keep hb, h.ls, fun x hx => (h.gs x hx).keep hb, h.lb, h.lsl, h.lh, h.rm.keep hb, h.lm, h.om, h.rc.keep hb, h.lc, fun x hx => ⟨(h.gc x hx).1, (h.gc x hx).2.keep hb⟩, h.oc, h.day, h.rch.keep hb, h.lch, h.rg.keep hb, h.lg, h.og, h.rv.keep hb, h.lv, h.ov⟩
theorem LedSt.good {w : World} {s : StV} (h : LedSt w s) (hok : ∀ a ∈ s.ats.val, okA a) : GoodSt w s :=
 ⟨h.side, hok, h.rs, h.ls, h.gs, h.lb, h.lsl, h.lh, h.rm, h.lm, h.om, h.rc, h.lc, h.gc, h.oc, h.day⟩
theorem FewSt.led {w0 w X : World} {base : Nat} {s : StV} (h : FewSt w0 base w s) (h0 : Below w0.heap.size w0 X) (hl : Late base w X) : LedSt X s := by
 have hb := (h.ob.late hl (Nat.le_refl _)).good.rd
 have hs := (h.os.late hl (Nat.le_refl _)).good.rd
 refine ⟨⟨(h.oa.late hl (Nat.le_refl _)).good.rd, h.la, (h.oi.late hl (Nat.le_refl _)).good.rd, h.li, fun x hx => ⟨(h.gi x hx).1, (h.gi x hx).2.keep h0⟩, hb, h.lb, fun x hx => (h.gb x hx).keep h0, ?_, h.rp.keep h0, Nat.le_trans h.lp (by omega), h.p64, (h.oh.late hl (Nat.le_refl _)).good, Nat.le_trans h.lh (by omega), fun x hx => (h.gh x hx).keep h0, ?_⟩, hs, h.ls, fun x hx => (h.gs x hx).keep h0, h.lb40, h.ls40, h.lh40, (h.om.late hl (Nat.le_refl _)).good.rd, h.lm, h.okm, (h.oc.late hl (Nat.le_refl _)).good, h.lc, fun x hx => ⟨(h.gc x hx).1, (h.gc x hx).2.keep h0⟩, h.okc, h.day, h.rch.keep h0, h.lch, (h.og.late hl (Nat.le_refl _)).good.rd, h.lg, h.okg, (h.ov.late hl (Nat.le_refl _)).good.rd, h.lv, h.okv⟩
 ·intro r hr z hz
  obtain ⟨x, hx, rfl⟩ := List.mem_map.1 hr
  exact ((h.lb40 x hx).2 z hz).2
 ·intro r hr
  obtain ⟨x, hx, rfl⟩ := List.mem_map.1 hr
  exact ⟨Nat.le_trans (h.lh40 x hx).1 (by omega), fun z hz => ((h.lh40 x hx).2 z hz).2.2⟩
/- Units in rows of their own: contracts of acct.Units, need.Units, acct.Of, report.side. -/
theorem own_lit2 {w : World} {base g : Nat} {E : TypeId} {u v : Value} (hg : base ≤ g) (h : Blk w g E #[u, v]) : Own w base E 2 (.slice (some ⟨g, 0, none⟩) 1 1) [[u, v]] :=
 ⟨by simp, by simp, .inr ⟨g, 1, #[u, v], rfl, hg, h, Nat.le_refl _, by unfold maxLen; omega, by simp, by simp⟩⟩
theorem acctUnitsO (x : AcctV) (w : World) (hl : x.clients.val.length ≤ 1048576) (hr : GoodA w x) :
  Calls Tryz.prog 112 #[.agg #[.int .i64 x.id, .int .i64 x.member, .int .i64 x.kind, .slice x.clients.A x.clients.val.length x.clients.c]] w fun e w' => ∃ v, e = .returned v ∧ Own w' w.heap.size 60 2 v ((unitsA (lgA x)).map encUn) ∧ Below w.heap.size w w' := by
 have HR := hid hr.rd
 clear hr
 by_cases hk1 : x.kind = 1
 ·have b1 : (x.kind == 1) = true := by simpa using hk1
  have HU := hid (show unitsA (lgA x) = [⟨x.id, 0⟩] from if_pos hk1)
  clear hk1
  go_enter Tryz.func112, Tryz.ntmps112
  go_wp2_with (fail)
  go_ret
  rw [HU.out]
  exact ⟨_, rfl, own_lit2 (by omega) tL, tB⟩
 ·have b1 : (x.kind == 1) = false := by simpa using hk1
  have HU := hid (show unitsA (lgA x) = x.clients.val.map (fun c => ⟨x.id, c⟩) from if_neg hk1)
  clear hk1
  go_enter Tryz.func112, Tryz.ntmps112
  go_wp2_with (fail)
  go_loopw [3, 16] (fun v i wr => ∃ k : Nat, k ≤ x.clients.val.length ∧ i = .int .i64 k ∧ Own wr (w.heap.size + 1) 60 2 v (((x.clients.val.take k).map (fun c => (⟨x.id, c⟩ : Un))).map encUn) ∧ Below w.heap.size w wr ∧ w.heap.size < wr.heap.size ∧ wr.cell? ⟨w.heap.size, 0, none⟩ = some (.int .i64 x.id)) (fun _ i _ => x.clients.val.length - (intOf i).toNat)
  case atStart => exact ⟨0, Nat.zero_le _, rfl, Own.nil _ _ _ _, tB, by simp, by simp [go_sem]⟩
  case round =>
   obtain ⟨k, hk, rfl, hown, hbl, hsz, h0⟩ := hrel
   have Hown := hid hown
   have Hbl := hid hbl
   have hz := hbl.size
   clear hown hbl
   by_cases hlt : k < x.clients.val.length
   ·have kl : (k : Int) < (x.clients.val.length : Int) := by omega
    have dl : decide ((k : Int) < (x.clients.val.length : Int)) = true := by simpa using hlt
    obtain ⟨b, o, hA, hb, hc⟩ := HR.out k (encI x.clients.val[k]) (by simp [hlt])
    have e0 := tC Hbl hb (hc 0 _ rfl)
    simp only [Nat.add_zero, Nat.mul_one] at e0
    have HS := hid (map_snoc hlt (fun c => (⟨x.id, c⟩ : Un)))
    clear hc
    rw [hA]
    go_wp2_with (first | (at_builtin; refine wpList_app rfl _ _ _ rfl elUn (w.heap.size + 1) _ _ rfl (Hown.out.alloc _) (some ⟨_, 0, none⟩) 1 1 rfl [encUn ⟨x.id, x.clients.val[k]⟩] rfl (fun h => by cases h) (rd_oneN (by simp)) (rowsUn [⟨x.id, x.clients.val[k]⟩]) (by unfold maxLen; exact tE) tE tZ ?_; intro v3 w3 hown3 hb3) | fail)
    go_roundw
    case rel => exact ⟨k + 1, by omega, by go_num, by rw [HS.out, List.map_append]; exact hown3, (Hbl.out.alloc hz _).trans (hb3.mono (by omega)), by have := hb3.size; simp at this; omega, by rw [hb3.cell (p := ⟨w.heap.size, 0, none⟩) (by simp)]; simp [go_sem, h0, hsz, ↓IntWalk.iteOmega]⟩
    case measure => simp [intOf]; omega
   ·have dl : decide ((k : Int) < (x.clients.val.length : Int)) = false := by simpa using hlt
    have HT := hid (show x.clients.val.take k = x.clients.val from List.take_of_length_le (by omega))
    go_wp2_with (fail)
    go_ret
    have := Hown.out
    rw [HT.out] at this
    exact ⟨_, rfl, by rw [HU.out]; exact this.mono (by omega), Hbl.out⟩
theorem needUnitsO (x : AcctV) (w : World) (hl : x.clients.val.length ≤ 1000000) (hg : GoodA w x) :
  Calls Tryz.prog 108 #[.agg #[.int .i64 x.id, .int .i64 x.member, .int .i64 x.kind, .slice x.clients.A x.clients.val.length x.clients.c]] w fun e w' => ∃ v, e = .returned v ∧ Own w' w.heap.size 60 2 v ((unitsN (lgA x)).map encUn) ∧ Below w.heap.size w w' := by
 have HG := hid hg
 clear hg
 by_cases hk : x.kind = 2
 ·have b1 : (x.kind == 2) = true := by simpa using hk
  have HU := hid (show unitsN (lgA x) = [⟨x.id, 0⟩] from if_pos hk)
  rw [HU.out]
  clear hk
  go_enter Tryz.func108, Tryz.ntmps108
  go_wp2_with (first | (go_at_call 138; (with_reducible refine cM (needWhole x _) fun w1 hb1 fc1 fg1 hc1 hf1 hz1 => ?_); (try simp at hz1)) | fail)
  go_ret
  exact ⟨_, rfl, own_lit2 (by omega) tL, tB⟩
 ·have b1 : (x.kind == 2) = false := by simpa using hk
  have HU := hid (show unitsN (lgA x) = unitsA (lgA x) from if_neg hk)
  rw [HU.out]
  have CU := hid (fun W (h : GoodA W x) => acctUnitsO x W (by omega) h)
  clear hk
  go_enter Tryz.func108, Tryz.ntmps108
  go_wp2_with (first | (go_at_call 112; (with_reducible refine (CU.out _ (HG.out.keep tB)).mono ?_); rintro e w1 ⟨v1, rfl, hown1, hb1⟩; have HO1 := hid hown1; clear hown1; obtain ⟨fc1, fg1, hc1, hf1, hz1⟩ := bget hb1; (try simp at hz1)) | fail)
  go_ret
  exact ⟨_, rfl, HO1.out.mono (by simp), tB⟩
theorem repSide (s : StV) (w : World) :
  Calls Tryz.prog 111 #[.agg #[.int .i64 (s).day, .slice (s).mem.A (s).mem.val.length (s).mem.c, .slice (s).ins.A (s).ins.val.length (s).ins.c, .slice (s).ats.A (s).ats.val.length (s).ats.c, .slice (s).acs.A (s).acs.val.length (s).acs.c, .slice (s).cho.A (s).cho.val.length (s).cho.c, .slice (s).grp.A (s).grp.val.length (s).grp.c, .slice (s).giv.A (s).giv.val.length (s).giv.c, .slice (s).bk.A (s).bk.val.length (s).bk.c, .slice (s).sale.A (s).sale.val.length (s).sale.c, .slice (s).pu.A (s).pu.val.length (s).pu.c, .slice (s).ho.A (s).ho.val.length (s).ho.c]] w fun e w' => e = .returned (.agg #[.slice (s).ats.A (s).ats.val.length (s).ats.c, .slice (s).ins.A (s).ins.val.length (s).ins.c, .slice (s).bk.A (s).bk.val.length (s).bk.c, .slice (s).pu.A (s).pu.val.length (s).pu.c, .slice (s).ho.A (s).ho.val.length (s).ho.c]) ∧ Below w.heap.size w w' := by
 go_enter Tryz.func111, Tryz.ntmps111
 go_wp2_with fail
 refine bodyPost_ret (by simp [results, Tryz.results111, go_sem, ]; try rfl) rfl ⟨rfl, ?_⟩
 exact tB
def AcctPost2 (w : World) (L : List Acct) (e : Ending) (w' : World) : Prop :=
 ∃ (v : Value) (ys : List AcctV), e = .returned v ∧ ys.map lgA = L ∧ Own w' w.heap.size 54 4 v (ys.map encAcctV) ∧ (∀ y ∈ ys, Own w' w.heap.size 3 1 (.slice y.clients.A y.clients.val.length y.clients.c) (y.clients.val.map encI)) ∧ Below w.heap.size w w'
theorem acctOfO (l : List AcctV) (mem : Int) (A : Option Addr) (c : Nat) (w : World) (hl : l.length ≤ 900000) (hr : Rs w 4 (l.map encAcctV) A c) (hg : ∀ x ∈ l, x.clients.val.length ≤ 1048576 ∧ GoodA w x) :
  Calls Tryz.prog 70 #[.slice A l.length c, .int .i64 mem] w (AcctPost2 w ((ofA l mem).map lgA)) := by
 have HR := hid hr
 have HG := hid (fun W (h : Below w.heap.size w W) => acctCopied l A c W (by omega) (HR.out.rd.keep h) (fun x hx => ⟨(hg x hx).1, (hg x hx).2.keep h⟩))
 clear hr hg
 go_enter Tryz.func70, Tryz.ntmps70
 go_wp2_with (first | (go_at_call 105; (with_reducible refine (HG.out _ tB).mono ?_); rintro e w3 ⟨v3, ys, rfl, hlg3, hown3, hys3, hb3⟩; have HYL := hid (show ys.length = l.length from by have := congrArg List.length hlg3; simpa using this); have HL3 := hid hlg3; have HO3 := hid hown3; have HY3 := hid hys3; clear hown3 hlg3 hys3; obtain ⟨fc3, fg3, hc3, hf3, hz3⟩ := bget hb3; (try simp at hz3)) | (go_at_call 104; (with_reducible refine (acctOfDel ys mem v3 (w.heap.size + 1) w.heap.size _ (by rw [HYL.out]; omega) (by omega) ?_ (cap1Ac ?_ ?_) (by omega)).mono ?_); (focus (exact HO3.out.mono (by simp))); (focus (first | omega | (simp; done) | (simp; omega))); (focus (simp [hc3, go_sem]; done)); rintro e w4 ⟨v4, rfl, hown4, hb4, haw4⟩; have HO4 := hid hown4; have HA4 := hid haw4; clear hown4 haw4; have Hb4 := hid hb4; clear hb4) | fail)
 go_ret
 refine ⟨_, ys.filter (fun x => !(x.member != mem)), rfl, filter_lg HL3.out mem, HO4.out.mono (by omega), fun y hy => ?_, ?_⟩
 ·exact ((HY3.out y (List.mem_filter.1 hy).1).away HA4.out (by decide)).mono (by simp)
 ·have hb4 := Hb4.out
  exact tB
/- A ledger (33): contract of tables. -/
def AscK {α : Type} (ok : α → Bool) (id : α → Int) (l : List α) (k : Nat) : Prop := ∀ j (h : j < l.length), j < k → ok l[j] = true ∧ ∀ (h0 : 0 < j), id (l[j - 1]'(by omega)) < id l[j]
theorem AscK.zero {α : Type} {ok : α → Bool} {id : α → Int} {l : List α} : AscK ok id l 0 := fun j _ h => by omega
theorem AscK.step {α : Type} {ok : α → Bool} {id : α → Int} {l : List α} {k : Nat} (h : AscK ok id l k) (hk : k < l.length) (h1 : ok l[k] = true) (h2 : ∀ (h0 : 0 < k), id (l[k - 1]'(by omega)) < id l[k]) : AscK ok id l (k + 1) := by
 intro j hj hlt
 by_cases he : j = k
 ·subst he
  exact ⟨h1, h2⟩
 ·exact h j hj (by omega)
theorem AscK.lt {α : Type} {ok : α → Bool} {id : α → Int} {l : List α} (h : AscK ok id l l.length) : ∀ (b : Nat) (hb : b < l.length) (a : Nat) (hab : a < b), id (l[a]'(by omega)) < id l[b]
 | 0, _, _, hab => by omega
 | b + 1, hb, a, hab => by
  have h1 := (h (b + 1) hb hb).2 (by omega)
  have h1 : id (l[b]'(by omega)) < id l[b + 1] := h1
  by_cases he : a = b
  ·subst he; exact h1
  ·have := AscK.lt h b (by omega) a (by omega); omega
theorem AscK.all {α : Type} {ok : α → Bool} {id : α → Int} {l : List α} (h : AscK ok id l l.length) : l.Pairwise (fun a b => id a < id b) ∧ ∀ x ∈ l, ok x = true := by
 refine ⟨?_, fun x hx => ?_⟩
 ·rw [List.pairwise_iff_getElem]
  intro i j hi hj hij
  exact h.lt j hj i hij
 ·obtain ⟨i, hi, rfl⟩ := List.mem_iff_getElem.1 hx
  exact (h i hi hi).1
/- A ledger (33): contract of Is. -/
structure LedOk (s : StV) : Prop where
 mem : AscK (fun x => decide (okMbr x)) (fun x => x.id) s.mem.val s.mem.val.length
 ats : AscK (fun x => decide (okA x)) (fun x => x.id) s.ats.val s.ats.val.length
 acs : AscK (fun x => okAV x && (findMb s.mem.val x.member).2) (fun x => x.id) s.acs.val s.acs.val.length
 bk : isPosV s.bk.val = true
 sale : isPosV s.sale.val = true
 ho : isHoldV s.ho.val = true
end Go.Proofs.YtalgfpegaobacaaGreatDoor
