/- Joined: Cv9, Frame, Open, AssetOpen, IntsOpen. -/
import Derived.Test.YtalgfpegaobacaaGreatKz24
import Derived.Test.YtalgfpegaobacaaGreatKz26
import Derived.Test.YtalgfpegaobacaaGreatKz1
import Derived.Test.YtalgfpegaobacaaGreatKz5
import Derived.Test.YtalgfpegaobacaaGreatChecked
import Derived.ProofKit
import Derived.Lib.SmallJoins
import Derived.Deep.Slices
/- Layer 27's laws: CoverMore's walk. -/
namespace Go.Proofs.YtalgfpegaobacaaGreat
open Go.RowKit
theorem GoodS.withPu {w : World} {s : SideV} (h : GoodS w s) {A : Option Addr} {c : Nat} {l : List Flow} (hr : Rs w 3 (l.map encFlow) A c) (hl : l.length ≤ 300) (h64 : ∀ x ∈ l, In64 x.amount) : GoodS w ⟨s.ats, s.ins, s.bk, ⟨A, c, l⟩, s.ho⟩ :=
  ⟨h.ra, h.la, h.ri, h.li, h.gi, h.rb, h.lb, h.gb, h.b64, hr, hl, h64, h.rh, h.lh, h.gh, h.hq⟩
theorem GoodS.withHo {w : World} {s : SideV} (h : GoodS w s) {A : Option Addr} {c : Nat} {l : List HoldV} (hr : Rs w 3 (l.map encHoldV) A c) (hl : l.length ≤ 1000) (hg : ∀ x ∈ l, GoodHoldV w x) (hq : LQ (l.map lgHoldV)) : GoodS w ⟨s.ats, s.ins, s.bk, s.pu, ⟨A, c, l⟩⟩ :=
  ⟨h.ra, h.la, h.ri, h.li, h.gi, h.rb, h.lb, h.gb, h.b64, h.rp, h.lp, h.p64, hr, hl, hg, hq⟩
theorem ref15UnitsX9 (x : AcctV) (w : World) (hl : x.clients.val.length ≤ 1048576) (hg : GoodA w x) :
    Calls Tryz.prog 7 #[.agg #[.int .i64 x.id, .int .i64 x.member, .int .i64 x.kind, .slice x.clients.A x.clients.val.length x.clients.c]] w fun e w' => ∃ A c, e = .returned (.slice A (unitsA (lgA x)).length c) ∧ Rs w' 2 ((unitsA (lgA x)).map encUn) A c ∧ Below w.heap.size w w' :=
  (ref15Units (lgA x) x.clients.A x.clients.c w hl hg.rd).mono fun e w' ⟨v, h1, ⟨A, c, h2, h3⟩, h4⟩ => ⟨A, c, by rw [h1, h2], h3, h4⟩
theorem putLL_inX {l : List Lot} {x : Lot} (h : ∀ y ∈ l, In64 y.qty) (hx : In64 x.qty) : ∀ y ∈ putLL l x, In64 y.qty := by
  unfold putLL
  split
  · rename_i h0
    split
    · rename_i ht
      intro y hy
      rcases List.mem_or_eq_of_mem_set hy with hy | rfl
      · exact h y hy
      · unfold putLC at h0
        rw [ht] at h0
        simp only [if_true] at h0
        split at h0
        · split at h0
          · rename_i h64; exact in64_iff.1 h64
          · simp at h0
        · rename_i hc; exact absurd h0 hc
    · intro y hy
      rcases List.mem_append.1 hy with hy | hy
      · exact h y (List.mem_of_mem_take hy)
      · rcases List.mem_cons.1 hy with rfl | hy
        · exact hx
        · exact h y (List.mem_of_mem_drop hy)
  · simp
theorem putLL_len {l : List Lot} (x : Lot) (h : l.length ≤ 1000) : (putLL l x).length ≤ 1000 := by
  unfold putLL
  split
  · rename_i h0
    split
    · simpa using h
    · rename_i ht
      unfold putLC at h0
      split at h0
      · split at h0
        · omega
        · simp; omega
      · rename_i hc; exact absurd h0 hc
  · simp
theorem LQ.pt {L : List (Row Lot)} (h : LQ L) (u : Un) {x : Lot} (hx : In64 x.qty) : LQ (ptL L u x) := by
  unfold ptL
  split
  · have h1 := h.of u
    exact h.with u (putLL_len x h1.1) (putLL_inX h1.2 hx)
  · intro r hr; simp at hr
theorem pt_len (L : List (Row Lot)) (u : Un) (x : Lot) : (ptL L u x).length ≤ L.length + 1 := by
  unfold ptL
  split
  · exact with_len _ _ _
  · simp
theorem rs_lit3 {w : World} {b : Nat} {u v z : Value} (hb : b < w.heap.size) (h0 : w.cell? ⟨b, 0, none⟩ = some u) (h1 : w.cell? ⟨b, 1, none⟩ = some v) (h2 : w.cell? ⟨b, 2, none⟩ = some z) : Rs w 3 [[u, v, z]] (some ⟨b, 0, none⟩) 1 := by
  refine ⟨fun i r hr => ?_, by simp, by unfold maxLen; omega, fun h => by cases h⟩
  match i, hr with
  | 0, hr =>
    injection hr with hr
    subst hr
    refine ⟨b, 0, rfl, hb, fun j a ha => ?_⟩
    match j, ha with
    | 0, ha => injection ha with ha; subst ha; exact h0
    | 1, ha => injection ha with ha; subst ha; exact h1
    | 2, ha => injection ha with ha; subst ha; exact h2
set_option maxRecDepth 100000 in
set_option maxHeartbeats 64000000 in
theorem coverMoreW (s0 : SideV) (a0 : AcctV) (x : Lot) (cash : Int) (w : World) (hs : RawS w s0) (hga : GoodA w a0) (hx : In64 x.qty) (hc : In64 cash) :
    Calls Tryz.prog 3 #[.agg #[.slice (s0).ats.A (s0).ats.val.length (s0).ats.c, .slice (s0).ins.A (s0).ins.val.length (s0).ins.c, .slice (s0).bk.A (s0).bk.val.length (s0).bk.c, .slice (s0).pu.A (s0).pu.val.length (s0).pu.c, .slice (s0).ho.A (s0).ho.val.length (s0).ho.c], .agg #[.int .i64 a0.id, .int .i64 a0.member, .int .i64 a0.kind, .slice a0.clients.A a0.clients.val.length a0.clients.c], .agg #[.int .i64 x.asset, .int .i64 x.tag, .int .i64 x.qty], .int .i64 cash] w fun e w' => e = .returned (.bool true) ∧ Below w.heap.size w w' := by
  have CF := Lib.hid (fun W (h : Below w.heap.size w W) => law27FewT s0 w W hs h)
  have cs := fun W (h : Below w.heap.size w W) => law25Short a0 W (hga.keep h)
  have hgy := good_shortN hga
  generalize shortN a0 = y at *
  have CS := Lib.hid cs
  have HY := Lib.hid hgy.1
  have hyl := hgy.2
  clear hs hga hgy cs
  go_enter Tryz.func3, Tryz.ntmps3
  go_upto_region 1 with fail
  have h00 : ∃ W, W = (((w.alloc (.cells #[.slice s0.ats.A s0.ats.val.length s0.ats.c, .slice s0.ins.A s0.ins.val.length s0.ins.c, .slice s0.bk.A s0.bk.val.length s0.bk.c, .slice s0.pu.A s0.pu.val.length s0.pu.c, .slice s0.ho.A s0.ho.val.length s0.ho.c] 28)).alloc (.cells #[.int .i64 a0.id, .int .i64 a0.member, .int .i64 a0.kind, .slice a0.clients.A a0.clients.val.length a0.clients.c] 31)).alloc (.cells #[.int .i64 x.asset, .int .i64 x.tag, .int .i64 x.qty] 33)) ∧ W.heap.size = w.heap.size + 3 ∧ Below w.heap.size w W ∧ (W.cell? ⟨w.heap.size, 0, none⟩ = some (.slice s0.ats.A s0.ats.val.length s0.ats.c) ∧ W.cell? ⟨w.heap.size, 1, none⟩ = some (.slice s0.ins.A s0.ins.val.length s0.ins.c) ∧ W.cell? ⟨w.heap.size, 2, none⟩ = some (.slice s0.bk.A s0.bk.val.length s0.bk.c) ∧ W.cell? ⟨w.heap.size, 3, none⟩ = some (.slice s0.pu.A s0.pu.val.length s0.pu.c) ∧ W.cell? ⟨w.heap.size, 4, none⟩ = some (.slice s0.ho.A s0.ho.val.length s0.ho.c) ∧ W.cell? ⟨w.heap.size + 1, 0, none⟩ = some (.int .i64 a0.id) ∧ W.cell? ⟨w.heap.size + 1, 1, none⟩ = some (.int .i64 a0.member) ∧ W.cell? ⟨w.heap.size + 1, 2, none⟩ = some (.int .i64 a0.kind) ∧ W.cell? ⟨w.heap.size + 1, 3, none⟩ = some (.slice a0.clients.A a0.clients.val.length a0.clients.c) ∧ W.cell? ⟨w.heap.size + 2, 0, none⟩ = some (.int .i64 x.asset) ∧ W.cell? ⟨w.heap.size + 2, 1, none⟩ = some (.int .i64 x.tag) ∧ W.cell? ⟨w.heap.size + 2, 2, none⟩ = some (.int .i64 x.qty) ∧ W.frozen? ⟨w.heap.size + 1, 0, none⟩ = false ∧ W.frozen? ⟨w.heap.size + 1, 1, none⟩ = false ∧ W.frozen? ⟨w.heap.size + 1, 2, none⟩ = false ∧ W.frozen? ⟨w.heap.size + 1, 3, none⟩ = false) := by
    refine ⟨_, rfl, by simp, by (repeat' (first | (with_reducible exact Below.refl _ _) | (with_reducible assumption) | (with_reducible refine Below.alloc ?_ ?_ _) | (with_reducible refine Below.setCell ?_ ?_ _) | (with_reducible refine Below.drew ?_) | (with_reducible refine below_drewN ?_ _) | (with_reducible refine below_via ?_ (by with_reducible assumption) ?_) | omega | (simp; done) | (simp; omega))), ?_, ?_, ?_, ?_, ?_, ?_, ?_, ?_, ?_, ?_, ?_, ?_, ?_, ?_, ?_, ?_⟩ <;> simp [go_sem]
  obtain ⟨w0, hw0, z0, hb0, x0, x1, x2, x3, x4, x5, x6, x7, x8, x9, x10, x11, x12, x13, x14, x15⟩ := h00
  rw [← hw0]
  have HW0 := Lib.hid hb0
  clear hw0 hb0
  go_cut [9] from 22 to 25 (fun p wx => ∃ (g : Nat) (s : SideV), p = .pointer (some ⟨g, 0, none⟩) ∧ (w.heap.size + 3 ≤ g ∧ g < wx.heap.size) ∧ (wx.cell? ⟨g, 0, none⟩ = some (.slice s.ats.A s.ats.val.length s.ats.c) ∧ wx.cell? ⟨g, 1, none⟩ = some (.slice s.ins.A s.ins.val.length s.ins.c) ∧ wx.cell? ⟨g, 2, none⟩ = some (.slice s.bk.A s.bk.val.length s.bk.c) ∧ wx.cell? ⟨g, 3, none⟩ = some (.slice s.pu.A s.pu.val.length s.pu.c) ∧ wx.cell? ⟨g, 4, none⟩ = some (.slice s.ho.A s.ho.val.length s.ho.c)) ∧ (wx.cell? ⟨w.heap.size + 1, 0, none⟩ = some (.int .i64 y.id) ∧ wx.cell? ⟨w.heap.size + 1, 1, none⟩ = some (.int .i64 y.member) ∧ wx.cell? ⟨w.heap.size + 1, 2, none⟩ = some (.int .i64 y.kind) ∧ wx.cell? ⟨w.heap.size + 1, 3, none⟩ = some (.slice y.clients.A y.clients.val.length y.clients.c)) ∧ (wx.cell? ⟨w.heap.size + 2, 0, none⟩ = some (.int .i64 x.asset) ∧ wx.cell? ⟨w.heap.size + 2, 1, none⟩ = some (.int .i64 x.tag) ∧ wx.cell? ⟨w.heap.size + 2, 2, none⟩ = some (.int .i64 x.qty)) ∧ FewS wx s ∧ Below w.heap.size w wx)
  case first =>
    go_region_with (first | (go_at_call 5; (with_reducible refine (CF.out _ (by have h1 := HW0.out; (repeat' (first | (with_reducible exact Below.refl _ _) | (with_reducible assumption) | (with_reducible refine Below.alloc ?_ ?_ _) | (with_reducible refine Below.setCell ?_ ?_ _) | (with_reducible refine Below.drew ?_) | (with_reducible refine below_drewN ?_ _) | (with_reducible refine below_via ?_ (by with_reducible assumption) ?_) | omega | (simp; done) | (simp; omega))))).mono ?_); rintro e w1 ⟨s, rfl, hft, hb1⟩; have HFT := Lib.hid hft; clear hft; obtain ⟨fc1, fg1, hc1, hf1, hz1⟩ := bget hb1; (try simp at hz1)) | (go_at_call 6; (with_reducible refine (CS.out _ (by have h1 := HW0.out; (repeat' (first | (with_reducible exact Below.refl _ _) | (with_reducible assumption) | (with_reducible refine Below.alloc ?_ ?_ _) | (with_reducible refine Below.setCell ?_ ?_ _) | (with_reducible refine Below.drew ?_) | (with_reducible refine below_drewN ?_ _) | (with_reducible refine below_via ?_ (by with_reducible assumption) ?_) | omega | (simp; done) | (simp; omega))))).mono ?_); rintro e w2 ⟨rfl, hb2⟩; obtain ⟨fc2, fg2, hc2, hf2, hz2⟩ := bget hb2; (try simp at hz2)) | fail)
    all_goals
      clear CF CS HY
      go_wp2_with fail
      go_meet
      refine ⟨_, s, rfl, ⟨(by first | omega | (simp; done) | (simp; omega)), (by first | omega | (simp; done) | (simp; omega))⟩, ?_, ?_, ?_, HFT.out.few (by have h1 := HW0.out; (repeat' (first | (with_reducible exact Below.refl _ _) | (with_reducible assumption) | (with_reducible refine Below.alloc ?_ ?_ _) | (with_reducible refine Below.setCell ?_ ?_ _) | (with_reducible refine Below.drew ?_) | (with_reducible refine below_drewN ?_ _) | (with_reducible refine below_via ?_ (by with_reducible assumption) ?_) | omega | (simp; done) | (simp; omega)))) (by (repeat (refine Late.set ?_ (by first | omega | (simp; omega) | (left; simp; omega) | (right; simp; omega) | (left; simp; done) | (right; simp; done)) _)); first | (focus (refine Late.below (Late.below (Late.below (Late.refl _ _) ?_) hb2) ?_; (focus ((repeat' (first | (with_reducible exact Below.refl _ _) | (with_reducible assumption) | (with_reducible refine Below.alloc ?_ ?_ _) | (with_reducible refine Below.setCell ?_ ?_ _) | (with_reducible refine Below.drew ?_) | (with_reducible refine below_drewN ?_ _) | (with_reducible refine below_via ?_ (by with_reducible assumption) ?_) | omega | (simp; done) | (simp; omega))); done)); (focus ((repeat' (first | (with_reducible exact Below.refl _ _) | (with_reducible assumption) | (with_reducible refine Below.alloc ?_ ?_ _) | (with_reducible refine Below.setCell ?_ ?_ _) | (with_reducible refine Below.drew ?_) | (with_reducible refine below_drewN ?_ _) | (with_reducible refine below_via ?_ (by with_reducible assumption) ?_) | omega | (simp; done) | (simp; omega))); done)))) | (focus (refine Late.below (Late.below (Late.refl _ _) ?_) hb2; (focus ((repeat' (first | (with_reducible exact Below.refl _ _) | (with_reducible assumption) | (with_reducible refine Below.alloc ?_ ?_ _) | (with_reducible refine Below.setCell ?_ ?_ _) | (with_reducible refine Below.drew ?_) | (with_reducible refine below_drewN ?_ _) | (with_reducible refine below_via ?_ (by with_reducible assumption) ?_) | omega | (simp; done) | (simp; omega))); done))))), by have h1 := HW0.out; (repeat' (first | (with_reducible exact Below.refl _ _) | (with_reducible assumption) | (with_reducible refine Below.alloc ?_ ?_ _) | (with_reducible refine Below.setCell ?_ ?_ _) | (with_reducible refine Below.drew ?_) | (with_reducible refine below_drewN ?_ _) | (with_reducible refine below_via ?_ (by with_reducible assumption) ?_) | omega | (simp; done) | (simp; omega)))⟩
      all_goals clear HFT HW0 hb1 hb2
      all_goals (first | (simp [go_sem, *]; done) | (simp [go_sem, *, ↓IntWalk.iteOmega]; done))
  case rest =>
    obtain ⟨g, s, rfl, ⟨hg0, hgw⟩, hB, hA, hX, hfs, hbc⟩ := hcut
    generalize wc = wa at *
    have hz0 := hbc.size
    have HB := Lib.hid hB
    have HA := Lib.hid hA
    have HX := Lib.hid hX
    have HFS := Lib.hid hfs
    have HW := Lib.hid hbc
    have CU := Lib.hid (fun W (h : GoodA W y) => ref15UnitsX9 y W (by omega) h)
    clear HW0 z0 x0 x1 x2 x3 x4 x5 x6 x7 x8 x9 x10 x11 x12 x13 x14 x15
    have a0' := hA.1
    have a1' := hA.2.1
    have a2' := hA.2.2.1
    have a3' := hA.2.2.2
    have hww : w.heap.size + 2 < wa.heap.size := by omega
    clear hB hA hX hfs hbc CF CS
    generalize unitsA (lgA y) = us at *
    have hD : (((us.length : Int) == 0) = true) ∨ (((us.length : Int) == 0) = false ∧ 0 < us.length ∧ decide (cash < 0) = true) ∨ (((us.length : Int) == 0) = false ∧ 0 < us.length ∧ decide (cash < 0) = false ∧ 0 ≤ cash) := by
      rcases Nat.eq_zero_or_pos us.length with h | h
      · exact .inl (by rw [h]; rfl)
      · refine .inr ?_
        rcases Int.lt_or_le cash 0 with h2 | h2
        · exact .inl ⟨beq_false_of_ne (by omega), h, by simpa using h2⟩
        · exact .inr ⟨beq_false_of_ne (by omega), h, by simpa using h2, h2⟩
    rcases hD with d0 | ⟨d0, hlt, d1⟩ | ⟨d0, hlt, d1, hc0⟩
    · go_wp2_with (first | (go_at_call 7; (with_reducible refine (CU.out _ (HY.out.keep (by have h1 := HW.out; (repeat' (first | (with_reducible exact Below.refl _ _) | (with_reducible assumption) | (with_reducible refine Below.alloc ?_ ?_ _) | (with_reducible refine Below.setCell ?_ ?_ _) | (with_reducible refine Below.drew ?_) | (with_reducible refine below_drewN ?_ _) | (with_reducible refine below_via ?_ (by with_reducible assumption) ?_) | omega | (simp; done) | (simp; omega)))))).mono ?_); rintro e w7 ⟨A7, c7, rfl, hrs7, hb7⟩; have H7 := Lib.hid hrs7.rd; clear hrs7; obtain ⟨fc7, fg7, hc7, hf7, hz7⟩ := bget hb7; (try simp at hz7)) | (go_at_call 8; (with_reducible refine (law27lives _).mono ?_); rintro e w20 ⟨rfl, hb20⟩; obtain ⟨fc20, fg20, hc20, hf20, hz20⟩ := bget hb20; (try simp at hz20)) | fail)
      go_ret
      exact ⟨rfl, by have h1 := HW.out; (repeat' (first | (with_reducible exact Below.refl _ _) | (with_reducible assumption) | (with_reducible refine Below.alloc ?_ ?_ _) | (with_reducible refine Below.setCell ?_ ?_ _) | (with_reducible refine Below.drew ?_) | (with_reducible refine below_drewN ?_ _) | (with_reducible refine below_via ?_ (by with_reducible assumption) ?_) | omega | (simp; done) | (simp; omega)))⟩
    · go_wp2_with (first | (go_at_call 7; (with_reducible refine (CU.out _ (HY.out.keep (by have h1 := HW.out; (repeat' (first | (with_reducible exact Below.refl _ _) | (with_reducible assumption) | (with_reducible refine Below.alloc ?_ ?_ _) | (with_reducible refine Below.setCell ?_ ?_ _) | (with_reducible refine Below.drew ?_) | (with_reducible refine below_drewN ?_ _) | (with_reducible refine below_via ?_ (by with_reducible assumption) ?_) | omega | (simp; done) | (simp; omega)))))).mono ?_); rintro e w7 ⟨A7, c7, rfl, hrs7, hb7⟩; have H7 := Lib.hid hrs7.rd; clear hrs7; obtain ⟨fc7, fg7, hc7, hf7, hz7⟩ := bget hb7; (try simp at hz7)) | (go_at_call 8; (with_reducible refine (law27lives _).mono ?_); rintro e w20 ⟨rfl, hb20⟩; obtain ⟨fc20, fg20, hc20, hf20, hz20⟩ := bget hb20; (try simp at hz20)) | fail)
      go_ret
      exact ⟨rfl, by have h1 := HW.out; (repeat' (first | (with_reducible exact Below.refl _ _) | (with_reducible assumption) | (with_reducible refine Below.alloc ?_ ?_ _) | (with_reducible refine Below.setCell ?_ ?_ _) | (with_reducible refine Below.drew ?_) | (with_reducible refine below_drewN ?_ _) | (with_reducible refine below_via ?_ (by with_reducible assumption) ?_) | omega | (simp; done) | (simp; omega)))⟩
    · go_upto_region 5 with (first | (go_at_call 7; (with_reducible refine (CU.out _ (HY.out.keep (by have h1 := HW.out; (repeat' (first | (with_reducible exact Below.refl _ _) | (with_reducible assumption) | (with_reducible refine Below.alloc ?_ ?_ _) | (with_reducible refine Below.setCell ?_ ?_ _) | (with_reducible refine Below.drew ?_) | (with_reducible refine below_drewN ?_ _) | (with_reducible refine below_via ?_ (by with_reducible assumption) ?_) | omega | (simp; done) | (simp; omega)))))).mono ?_); rintro e w7 ⟨A7, c7, rfl, hrs7, hb7⟩; have H7 := Lib.hid hrs7.rd; clear hrs7; obtain ⟨fc7, fg7, hc7, hf7, hz7⟩ := bget hb7; (try simp at hz7)) | fail)
      obtain ⟨b7, o7, rfl, hb7w, hc7r⟩ := H7.out 0 (encUn us[0]) (by simp [hlt])
      have f0 := hc7r 0 _ rfl
      have f1 := hc7r 1 _ rfl
      simp only [Nat.zero_mul, Nat.add_zero] at f0 f1
      generalize us[0] = u at *
      have H07 := Lib.hid (show Below wa.heap.size wa w7 by (repeat' (first | (with_reducible exact Below.refl _ _) | (with_reducible assumption) | (with_reducible refine Below.alloc ?_ ?_ _) | (with_reducible refine Below.setCell ?_ ?_ _) | (with_reducible refine Below.drew ?_) | (with_reducible refine below_drewN ?_ _) | (with_reducible refine below_via ?_ (by with_reducible assumption) ?_) | omega | (simp; done) | (simp; omega))))
      have hz7 := H07.out.size
      have q0 := (H07.out.cell (p := ⟨w.heap.size + 1, 0, none⟩) (by simp; omega)).trans a0'
      have q2 := (H07.out.cell (p := ⟨w.heap.size + 1, 2, none⟩) (by simp; omega)).trans a2'
      have hzz : w.heap.size + 1 < w7.heap.size := by omega
      clear hc7 hf7 hb7 hc7r a0' a1' a2' a3' H7 CU
      go_upto_if 42 with fail
      go_cut [12] from 43 to 45 (fun p wx => p = .pointer (some ⟨w7.heap.size + 1, 0, none⟩) ∧ (wx.cell? ⟨w7.heap.size, 0, none⟩ = some (.int .i64 u.acc) ∧ wx.cell? ⟨w7.heap.size, 1, none⟩ = some (.int .i64 u.cli)) ∧ (∃ h : Un, wx.cell? ⟨w7.heap.size + 1, 0, none⟩ = some (.int .i64 h.acc) ∧ wx.cell? ⟨w7.heap.size + 1, 1, none⟩ = some (.int .i64 h.cli)) ∧ w7.heap.size + 2 ≤ wx.heap.size ∧ Below w7.heap.size w7 wx)
      case first =>
        by_cases hk : y.kind = 2
        · have k2 : (y.kind == 2) = true := by simpa using hk
          go_wp2_with fail
          go_meet
          refine ⟨rfl, ⟨?_, ?_⟩, ⟨⟨y.id, 0⟩, ?_, ?_⟩, (by first | omega | (simp; done) | (simp; omega)), by (repeat' (first | (with_reducible exact Below.refl _ _) | (with_reducible assumption) | (with_reducible refine Below.alloc ?_ ?_ _) | (with_reducible refine Below.setCell ?_ ?_ _) | (with_reducible refine Below.drew ?_) | (with_reducible refine below_drewN ?_ _) | (with_reducible refine below_via ?_ (by with_reducible assumption) ?_) | omega | (simp; done) | (simp; omega)))⟩
          all_goals (first | (simp [go_sem]; done) | (simp [go_sem, *]; done))
        · have k2 : (y.kind == 2) = false := by simpa using hk
          go_wp2_with fail
          go_meet
          refine ⟨rfl, ⟨?_, ?_⟩, ⟨u, ?_, ?_⟩, (by first | omega | (simp; done) | (simp; omega)), by (repeat' (first | (with_reducible exact Below.refl _ _) | (with_reducible assumption) | (with_reducible refine Below.alloc ?_ ?_ _) | (with_reducible refine Below.setCell ?_ ?_ _) | (with_reducible refine Below.drew ?_) | (with_reducible refine below_drewN ?_ _) | (with_reducible refine below_via ?_ (by with_reducible assumption) ?_) | omega | (simp; done) | (simp; omega)))⟩
          all_goals (first | (simp [go_sem]; done) | (simp [go_sem, *]; done))
      case rest =>
        obtain ⟨rfl, ⟨u0, u1⟩, ⟨wh, v0, v1⟩, hz8, hb8⟩ := hcut
        generalize wc = wd at *
        have HWD := Lib.hid (H07.out.trans (hb8.mono hz7))
        have hzd := HWD.out.size
        have HWW := Lib.hid (HW.out.trans (HWD.out.mono hz0))
        have y0 := (HWD.out.cell (p := ⟨g, 0, none⟩) hgw).trans HB.out.1
        have y1 := (HWD.out.cell (p := ⟨g, 1, none⟩) hgw).trans HB.out.2.1
        have y2 := (HWD.out.cell (p := ⟨g, 2, none⟩) hgw).trans HB.out.2.2.1
        have y3 := (HWD.out.cell (p := ⟨g, 3, none⟩) hgw).trans HB.out.2.2.2.1
        have y4 := (HWD.out.cell (p := ⟨g, 4, none⟩) hgw).trans HB.out.2.2.2.2
        have e0 := (HWD.out.cell (p := ⟨w.heap.size + 1, 0, none⟩) (by simp; omega)).trans HA.out.1
        have e1 := (HWD.out.cell (p := ⟨w.heap.size + 1, 1, none⟩) (by simp; omega)).trans HA.out.2.1
        have e2 := (HWD.out.cell (p := ⟨w.heap.size + 1, 2, none⟩) (by simp; omega)).trans HA.out.2.2.1
        have e3 := (HWD.out.cell (p := ⟨w.heap.size + 1, 3, none⟩) (by simp; omega)).trans HA.out.2.2.2
        have x0 := (HWD.out.cell (p := ⟨w.heap.size + 2, 0, none⟩) hww).trans HX.out.1
        have x1 := (HWD.out.cell (p := ⟨w.heap.size + 2, 1, none⟩) hww).trans HX.out.2.1
        have x2 := (HWD.out.cell (p := ⟨w.heap.size + 2, 2, none⟩) hww).trans HX.out.2.2
        have HSD := Lib.hid (HFS.out.good.keep HWD.out)
        have HFM := Lib.hid HFS.out.form
        have HYD := Lib.hid (HY.out.keep HWW.out)
        have hgd : g < wd.heap.size := by omega
        have hwd2 : w.heap.size + 2 < wd.heap.size := by omega
        have hlp := HFS.out.lp
        have hlh := HFS.out.lh
        have ce := fun W (h : Below wd.heap.size wd W) => coverExcess s y wh W (HSD.out.keep h) (HYD.out.keep h) (by omega)
        have hmo := fun h k => more_ok (S := sideL s) (y := lgA y) (u := u) (w := wh) (x := x) hc0 h k
        have hxo := fun h => exc_ok (S := sideL s) (x := lgA y) (u := wh) h
        have hno := fun h => excN_no (S := sideL s) (x := lgA y) (u := wh) h
        have hM : moreS (sideL s) u x cash = ⟨s.ats.val, s.ins.val, s.bk.val.map lgPosV, if payC s.pu.val [⟨u, cash⟩] = 0 then payL s.pu.val [⟨u, cash⟩] else s.pu.val, if ptC (s.ho.val.map lgHoldV) u x = 0 then ptL (s.ho.val.map lgHoldV) u x else s.ho.val.map lgHoldV⟩ := rfl
        generalize moreS (sideL s) u x cash = M at *
        have HM := Lib.hid hM
        have cea := fun (s' : SideV) (he : sideL s' = M) W (h : GoodS W s') (h2 : GoodA W y) => (by have h3 := coverExcess s' y wh W h h2 (by omega); rw [he] at h3; exact h3 : Calls Tryz.prog 9 #[.agg #[.slice (s').ats.A (s').ats.val.length (s').ats.c, .slice (s').ins.A (s').ins.val.length (s').ins.c, .slice (s').bk.A (s').bk.val.length (s').bk.c, .slice (s').pu.A (s').pu.val.length (s').pu.c, .slice (s').ho.A (s').ho.val.length (s').ho.c], .agg #[.int .i64 y.id, .int .i64 y.member, .int .i64 y.kind, .slice y.clients.A y.clients.val.length y.clients.c], .agg #[.int .i64 wh.acc, .int .i64 wh.cli]] W fun e w' => e = .returned (.tuple #[.int .i64 (excN M (lgA y) wh), .int .i64 (excC M (lgA y) wh)]) ∧ Below W.heap.size W w')
        have cp := fun (hk : isK isL (s.ho.val.map lgHoldV) = true) W (h : Below wd.heap.size wd W) => ref26PutS (fun b => wd.heap.size ≤ b ∧ b < W.heap.size) s.ho.val u x s.ho.A s.ho.c W (fun b hb => ⟨hb.2, fun z hz => (HSD.out.gh z hz).off ((isK_facts hk).2 (lgHoldV z) (List.mem_map.2 ⟨z, hz, rfl⟩)).1 hb.1⟩) (by omega) HSD.out.hq hx (HSD.out.rh.keep h) HFM.out (fun z hz => (HSD.out.gh z hz).keep h)
        have cy : ∀ (W : World) (B : Nat), Below wd.heap.size wd W → B < W.heap.size → W.cell? ⟨B, 0, none⟩ = some (.int .i64 u.acc) → W.cell? ⟨B, 1, none⟩ = some (.int .i64 u.cli) → W.cell? ⟨B, 2, none⟩ = some (.int .i64 cash) → Calls Tryz.prog 11 #[.slice s.pu.A s.pu.val.length s.pu.c, .slice (some ⟨B, 0, none⟩) 1 1] W fun e w' => ∃ v, e = .returned (.tuple #[v, .int .i64 (payC s.pu.val [⟨u, cash⟩])]) ∧ Own w' W.heap.size 50 3 v ((payL s.pu.val [⟨u, cash⟩]).map encFlow) ∧ Below W.heap.size W w' := fun W B h hB h0 h1 h2 => ref17Pay s.pu.val [⟨u, cash⟩] s.pu.A (some ⟨B, 0, none⟩) s.pu.c 1 W (by omega) (by simp) (fun z hz => by
          rcases List.mem_append.1 hz with hz | hz
          · exact HSD.out.p64 z hz
          · rw [List.mem_singleton.1 hz]; exact hc) (HSD.out.rp.keep h) (rs_lit3 hB h0 h1 h2)
        have HLQ := Lib.hid (HSD.out.hq.pt u hx)
        have hpl := pt_len (s.ho.val.map lgHoldV) u x
        rw [List.length_map] at hpl
        have HPF := Lib.hid (fun h => pay_facts (L := s.pu.val) (fs := [⟨u, cash⟩]) h)
        generalize payL s.pu.val [⟨u, cash⟩] = pl at *
        generalize payC s.pu.val [⟨u, cash⟩] = pc at *
        generalize ptL (s.ho.val.map lgHoldV) u x = hl at *
        generalize ptC (s.ho.val.map lgHoldV) u x = hcd at *
        generalize excN (sideL s) (lgA y) wh = n at *
        generalize excC (sideL s) (lgA y) wh = code at *
        generalize excN M (lgA y) wh = m at *
        generalize excC M (lgA y) wh = mc at *
        clear hM H07 hb8 q0 q2 f0 f1 hb7w HB HA HX HFS hzz hz7 d0 hlt
        by_cases h0 : code = 0
        rotate_left
        · have n0 : (code != 0) = true := by simpa using h0
          rw [hno h0] at ce
          have CE := Lib.hid ce
          clear ce hmo hxo hno cea cp cy
          go_wp2_with (first | (go_at_call 9; (with_reducible refine (CE.out _ (by (repeat' (first | (with_reducible exact Below.refl _ _) | (with_reducible assumption) | (with_reducible refine Below.alloc ?_ ?_ _) | (with_reducible refine Below.setCell ?_ ?_ _) | (with_reducible refine Below.drew ?_) | (with_reducible refine below_drewN ?_ _) | (with_reducible refine below_via ?_ (by with_reducible assumption) ?_) | omega | (simp; done) | (simp; omega))))).mono ?_); rintro e w9 ⟨rfl, hb9⟩; obtain ⟨fc9, fg9, hc9, hf9, hz9⟩ := bget hb9; (try simp at hz9)) | (go_at_call 8; (with_reducible refine (law27lives _).mono ?_); rintro e w20 ⟨rfl, hb20⟩; obtain ⟨fc20, fg20, hc20, hf20, hz20⟩ := bget hb20; (try simp at hz20)) | fail)
          go_ret
          exact ⟨rfl, by have h1 := HWW.out; (repeat' (first | (with_reducible exact Below.refl _ _) | (with_reducible assumption) | (with_reducible refine Below.alloc ?_ ?_ _) | (with_reducible refine Below.setCell ?_ ?_ _) | (with_reducible refine Below.drew ?_) | (with_reducible refine below_drewN ?_ _) | (with_reducible refine below_via ?_ (by with_reducible assumption) ?_) | omega | (simp; done) | (simp; omega)))⟩
        subst h0
        have hri := (hxo rfl).1
        unfold rightS at hri
        simp only [Bool.and_eq_true] at hri
        have cp2 := cp hri.2.2
        have hmn := hmo rfl
        have CE := Lib.hid ce
        have CEA := Lib.hid cea
        have CP := Lib.hid cp2
        have CY := Lib.hid cy
        have hfin : (mc != 0) = true ∨ (mc = 0 ∧ n ≤ m) := by
          by_cases h : mc = 0
          · exact .inr ⟨h, hmn h⟩
          · exact .inl (by simpa using h)
        clear ce cea cp cp2 cy hxo hmo hno hmn hri
        by_cases hp : hcd = 0
        · subst hp
          by_cases hq : pc = 0
          · subst hq
            have HE := Lib.hid (show ∀ (ys : List HoldV) A5 c5 A6 c6, ys.map lgHoldV = hl → sideL ⟨s.ats, s.ins, s.bk, ⟨A6, c6, pl⟩, ⟨A5, c5, ys⟩⟩ = M from fun ys A5 c5 A6 c6 h => by rw [HM.out, if_pos rfl, if_pos rfl, ← h]; rfl)
            have hpf := (HPF.out rfl).2.2
            simp only [List.length_cons, List.length_nil] at hpf
            have HP64 := Lib.hid hpf.1
            have hpll := hpf.2
            clear hpf
            rcases hfin with hf | ⟨rfl, hle⟩
            rotate_left
            have g1 : decide (n ≤ m) = true := by simpa using hle
            rotate_left
            all_goals
              go_wp2_with (first | (go_at_call 9; (with_reducible refine (CE.out _ (by (repeat' (first | (with_reducible exact Below.refl _ _) | (with_reducible assumption) | (with_reducible refine Below.alloc ?_ ?_ _) | (with_reducible refine Below.setCell ?_ ?_ _) | (with_reducible refine Below.drew ?_) | (with_reducible refine below_drewN ?_ _) | (with_reducible refine below_via ?_ (by with_reducible assumption) ?_) | omega | (simp; done) | (simp; omega))))).mono ?_); rintro e w9 ⟨rfl, hb9⟩; obtain ⟨fc9, fg9, hc9, hf9, hz9⟩ := bget hb9; (try simp at hz9)) | (go_at_call 10; (with_reducible refine (CP.out _ (by (repeat' (first | (with_reducible exact Below.refl _ _) | (with_reducible assumption) | (with_reducible refine Below.alloc ?_ ?_ _) | (with_reducible refine Below.setCell ?_ ?_ _) | (with_reducible refine Below.drew ?_) | (with_reducible refine below_drewN ?_ _) | (with_reducible refine below_via ?_ (by with_reducible assumption) ?_) | omega | (simp; done) | (simp; omega))))).mono ?_); intro e w5 hp5; obtain ⟨ys, A5, c5, rfl, hlg5, hrs5, hfm5, hgd5, hof5, hao5, hb5⟩ := hold_rsS hp5; have HLG5 := Lib.hid hlg5; have hA9 : ∀ a, A5 = some a → a.block ≠ w9.heap.size := (fun a ha => by have h1 := hao5 a ha; simp at h1; omega); have HA9 := Lib.hid hA9; have H5 := Lib.hid (hrs5.setOff (g := w9.heap.size) (o := 4) (v := .slice A5 ys.length c5) hA9); have hO9 : ∀ z ∈ ys, OffB w9.heap.size z := (hof5 w9.heap.size ⟨by omega, by simp⟩); have HO9 := Lib.hid hO9; have HG5 := Lib.hid (fun z hz => (hgd5 z hz).setOff (g := w9.heap.size) (o := 4) (v := .slice A5 ys.length c5) (hO9 z hz)); clear hp5 hlg5 hrs5 hfm5 hgd5 hof5 hao5 hA9 hO9; obtain ⟨fc5, fg5, hc5, hf5, hz5⟩ := bget hb5; (try simp at hz5)) | (go_at_call 11; (with_reducible refine (CY.out _ _ (by (repeat' (first | (with_reducible exact Below.refl _ _) | (with_reducible assumption) | (with_reducible refine Below.alloc ?_ ?_ _) | (with_reducible refine Below.setCell ?_ ?_ _) | (with_reducible refine Below.drew ?_) | (with_reducible refine below_drewN ?_ _) | (with_reducible refine below_via ?_ (by with_reducible assumption) ?_) | omega | (simp; done) | (simp; omega)))) (by simp) (by simp [go_sem]) (by simp [go_sem]) (by simp [go_sem])).mono ?_); rintro e w6 ⟨v6, rfl, hown6, hb6⟩; obtain ⟨A6, c6, hv6, hrs6, _⟩ := hown6.rs; (rw [List.length_map] at hv6); subst hv6; have H6 := Lib.hid hown6; clear hrs6 hown6; obtain ⟨fc6, fg6, hc6, hf6, hz6⟩ := bget hb6; (try simp at hz6)) | (go_at_call 9; (with_reducible refine (CEA.out ⟨s.ats, s.ins, s.bk, ⟨A6, c6, pl⟩, ⟨A5, c5, ys⟩⟩ (HE.out ys A5 c5 A6 c6 HLG5.out) _ (by exact ((HSD.out.keep (by (repeat' (first | (with_reducible exact Below.refl _ _) | (with_reducible assumption) | (with_reducible refine Below.alloc ?_ ?_ _) | (with_reducible refine Below.setCell ?_ ?_ _) | (with_reducible refine Below.drew ?_) | (with_reducible refine below_drewN ?_ _) | (with_reducible refine below_via ?_ (by with_reducible assumption) ?_) | omega | (simp; done) | (simp; omega))))).withPu (by exact ((H6.out.farLow (p := ⟨w9.heap.size, 3, none⟩) (by first | omega | (simp; omega) | (simp; done)) _).good)) (by omega) HP64.out).withHo ((H5.out.keep (by (repeat' (first | (with_reducible exact Below.refl _ _) | (with_reducible assumption) | (with_reducible refine Below.alloc ?_ ?_ _) | (with_reducible refine Below.setCell ?_ ?_ _) | (with_reducible refine Below.drew ?_) | (with_reducible refine below_drewN ?_ _) | (with_reducible refine below_via ?_ (by with_reducible assumption) ?_) | omega | (simp; done) | (simp; omega))))).setOff HA9.out) (by have h1 := congrArg List.length HLG5.out; rw [List.length_map] at h1; omega) (fun z hz => ((HG5.out z hz).keep (by (repeat' (first | (with_reducible exact Below.refl _ _) | (with_reducible assumption) | (with_reducible refine Below.alloc ?_ ?_ _) | (with_reducible refine Below.setCell ?_ ?_ _) | (with_reducible refine Below.drew ?_) | (with_reducible refine below_drewN ?_ _) | (with_reducible refine below_via ?_ (by with_reducible assumption) ?_) | omega | (simp; done) | (simp; omega))))).setOff (HO9.out z hz)) (by rw [HLG5.out]; exact HLQ.out)) (HYD.out.keep (by (repeat' (first | (with_reducible exact Below.refl _ _) | (with_reducible assumption) | (with_reducible refine Below.alloc ?_ ?_ _) | (with_reducible refine Below.setCell ?_ ?_ _) | (with_reducible refine Below.drew ?_) | (with_reducible refine below_drewN ?_ _) | (with_reducible refine below_via ?_ (by with_reducible assumption) ?_) | omega | (simp; done) | (simp; omega)))))).mono ?_); rintro e w8 ⟨rfl, hb8⟩; obtain ⟨fc8, fg8, hc8, hf8, hz8⟩ := bget hb8; (try simp at hz8)) | (go_at_call 8; (with_reducible refine (law27lives _).mono ?_); rintro e w20 ⟨rfl, hb20⟩; obtain ⟨fc20, fg20, hc20, hf20, hz20⟩ := bget hb20; (try simp at hz20)) | fail)
              go_ret
              exact ⟨rfl, by have h1 := HWW.out; (repeat' (first | (with_reducible exact Below.refl _ _) | (with_reducible assumption) | (with_reducible refine Below.alloc ?_ ?_ _) | (with_reducible refine Below.setCell ?_ ?_ _) | (with_reducible refine Below.drew ?_) | (with_reducible refine below_drewN ?_ _) | (with_reducible refine below_via ?_ (by with_reducible assumption) ?_) | omega | (simp; done) | (simp; omega)))⟩
          · have q1 : (pc == 0) = false := by simpa using hq
            have HE := Lib.hid (show ∀ (ys : List HoldV) A5 c5, ys.map lgHoldV = hl → sideL ⟨s.ats, s.ins, s.bk, s.pu, ⟨A5, c5, ys⟩⟩ = M from fun ys A5 c5 h => by rw [HM.out, if_pos rfl, if_neg hq, ← h]; rfl)
            clear hq
            rcases hfin with hf | ⟨rfl, hle⟩
            rotate_left
            have g1 : decide (n ≤ m) = true := by simpa using hle
            rotate_left
            all_goals
              go_wp2_with (first | (go_at_call 9; (with_reducible refine (CE.out _ (by (repeat' (first | (with_reducible exact Below.refl _ _) | (with_reducible assumption) | (with_reducible refine Below.alloc ?_ ?_ _) | (with_reducible refine Below.setCell ?_ ?_ _) | (with_reducible refine Below.drew ?_) | (with_reducible refine below_drewN ?_ _) | (with_reducible refine below_via ?_ (by with_reducible assumption) ?_) | omega | (simp; done) | (simp; omega))))).mono ?_); rintro e w9 ⟨rfl, hb9⟩; obtain ⟨fc9, fg9, hc9, hf9, hz9⟩ := bget hb9; (try simp at hz9)) | (go_at_call 10; (with_reducible refine (CP.out _ (by (repeat' (first | (with_reducible exact Below.refl _ _) | (with_reducible assumption) | (with_reducible refine Below.alloc ?_ ?_ _) | (with_reducible refine Below.setCell ?_ ?_ _) | (with_reducible refine Below.drew ?_) | (with_reducible refine below_drewN ?_ _) | (with_reducible refine below_via ?_ (by with_reducible assumption) ?_) | omega | (simp; done) | (simp; omega))))).mono ?_); intro e w5 hp5; obtain ⟨ys, A5, c5, rfl, hlg5, hrs5, hfm5, hgd5, hof5, hao5, hb5⟩ := hold_rsS hp5; have HLG5 := Lib.hid hlg5; have hA9 : ∀ a, A5 = some a → a.block ≠ w9.heap.size := (fun a ha => by have h1 := hao5 a ha; simp at h1; omega); have HA9 := Lib.hid hA9; have H5 := Lib.hid (hrs5.setOff (g := w9.heap.size) (o := 4) (v := .slice A5 ys.length c5) hA9); have hO9 : ∀ z ∈ ys, OffB w9.heap.size z := (hof5 w9.heap.size ⟨by omega, by simp⟩); have HO9 := Lib.hid hO9; have HG5 := Lib.hid (fun z hz => (hgd5 z hz).setOff (g := w9.heap.size) (o := 4) (v := .slice A5 ys.length c5) (hO9 z hz)); clear hp5 hlg5 hrs5 hfm5 hgd5 hof5 hao5 hA9 hO9; obtain ⟨fc5, fg5, hc5, hf5, hz5⟩ := bget hb5; (try simp at hz5)) | (go_at_call 11; (with_reducible refine (CY.out _ _ (by (repeat' (first | (with_reducible exact Below.refl _ _) | (with_reducible assumption) | (with_reducible refine Below.alloc ?_ ?_ _) | (with_reducible refine Below.setCell ?_ ?_ _) | (with_reducible refine Below.drew ?_) | (with_reducible refine below_drewN ?_ _) | (with_reducible refine below_via ?_ (by with_reducible assumption) ?_) | omega | (simp; done) | (simp; omega)))) (by simp) (by simp [go_sem]) (by simp [go_sem]) (by simp [go_sem])).mono ?_); rintro e w6 ⟨v6, rfl, hown6, hb6⟩; obtain ⟨A6, c6, hv6, hrs6, _⟩ := hown6.rs; (rw [List.length_map] at hv6); subst hv6; have H6 := Lib.hid hown6; clear hrs6 hown6; obtain ⟨fc6, fg6, hc6, hf6, hz6⟩ := bget hb6; (try simp at hz6)) | (go_at_call 9; (with_reducible refine (CEA.out ⟨s.ats, s.ins, s.bk, s.pu, ⟨A5, c5, ys⟩⟩ (HE.out ys A5 c5 HLG5.out) _ (by exact (HSD.out.keep (by (repeat' (first | (with_reducible exact Below.refl _ _) | (with_reducible assumption) | (with_reducible refine Below.alloc ?_ ?_ _) | (with_reducible refine Below.setCell ?_ ?_ _) | (with_reducible refine Below.drew ?_) | (with_reducible refine below_drewN ?_ _) | (with_reducible refine below_via ?_ (by with_reducible assumption) ?_) | omega | (simp; done) | (simp; omega))))).withHo (H5.out.keep (by (repeat' (first | (with_reducible exact Below.refl _ _) | (with_reducible assumption) | (with_reducible refine Below.alloc ?_ ?_ _) | (with_reducible refine Below.setCell ?_ ?_ _) | (with_reducible refine Below.drew ?_) | (with_reducible refine below_drewN ?_ _) | (with_reducible refine below_via ?_ (by with_reducible assumption) ?_) | omega | (simp; done) | (simp; omega))))) (by have h1 := congrArg List.length HLG5.out; rw [List.length_map] at h1; omega) (fun z hz => (HG5.out z hz).keep (by (repeat' (first | (with_reducible exact Below.refl _ _) | (with_reducible assumption) | (with_reducible refine Below.alloc ?_ ?_ _) | (with_reducible refine Below.setCell ?_ ?_ _) | (with_reducible refine Below.drew ?_) | (with_reducible refine below_drewN ?_ _) | (with_reducible refine below_via ?_ (by with_reducible assumption) ?_) | omega | (simp; done) | (simp; omega))))) (by rw [HLG5.out]; exact HLQ.out)) (HYD.out.keep (by (repeat' (first | (with_reducible exact Below.refl _ _) | (with_reducible assumption) | (with_reducible refine Below.alloc ?_ ?_ _) | (with_reducible refine Below.setCell ?_ ?_ _) | (with_reducible refine Below.drew ?_) | (with_reducible refine below_drewN ?_ _) | (with_reducible refine below_via ?_ (by with_reducible assumption) ?_) | omega | (simp; done) | (simp; omega)))))).mono ?_); rintro e w8 ⟨rfl, hb8⟩; obtain ⟨fc8, fg8, hc8, hf8, hz8⟩ := bget hb8; (try simp at hz8)) | (go_at_call 8; (with_reducible refine (law27lives _).mono ?_); rintro e w20 ⟨rfl, hb20⟩; obtain ⟨fc20, fg20, hc20, hf20, hz20⟩ := bget hb20; (try simp at hz20)) | fail)
              go_ret
              exact ⟨rfl, by have h1 := HWW.out; (repeat' (first | (with_reducible exact Below.refl _ _) | (with_reducible assumption) | (with_reducible refine Below.alloc ?_ ?_ _) | (with_reducible refine Below.setCell ?_ ?_ _) | (with_reducible refine Below.drew ?_) | (with_reducible refine below_drewN ?_ _) | (with_reducible refine below_via ?_ (by with_reducible assumption) ?_) | omega | (simp; done) | (simp; omega)))⟩
        · have p1 : (hcd == 0) = false := by simpa using hp
          by_cases hq : pc = 0
          · subst hq
            have HE := Lib.hid (show ∀ A6 c6, sideL ⟨s.ats, s.ins, s.bk, ⟨A6, c6, pl⟩, s.ho⟩ = M from fun A6 c6 => by rw [HM.out, if_pos rfl, if_neg hp]; rfl)
            have hpf := (HPF.out rfl).2.2
            simp only [List.length_cons, List.length_nil] at hpf
            have HP64 := Lib.hid hpf.1
            have hpll := hpf.2
            clear hpf hp
            rcases hfin with hf | ⟨rfl, hle⟩
            rotate_left
            have g1 : decide (n ≤ m) = true := by simpa using hle
            rotate_left
            all_goals
              go_wp2_with (first | (go_at_call 9; (with_reducible refine (CE.out _ (by (repeat' (first | (with_reducible exact Below.refl _ _) | (with_reducible assumption) | (with_reducible refine Below.alloc ?_ ?_ _) | (with_reducible refine Below.setCell ?_ ?_ _) | (with_reducible refine Below.drew ?_) | (with_reducible refine below_drewN ?_ _) | (with_reducible refine below_via ?_ (by with_reducible assumption) ?_) | omega | (simp; done) | (simp; omega))))).mono ?_); rintro e w9 ⟨rfl, hb9⟩; obtain ⟨fc9, fg9, hc9, hf9, hz9⟩ := bget hb9; (try simp at hz9)) | (go_at_call 10; (with_reducible refine (CP.out _ (by (repeat' (first | (with_reducible exact Below.refl _ _) | (with_reducible assumption) | (with_reducible refine Below.alloc ?_ ?_ _) | (with_reducible refine Below.setCell ?_ ?_ _) | (with_reducible refine Below.drew ?_) | (with_reducible refine below_drewN ?_ _) | (with_reducible refine below_via ?_ (by with_reducible assumption) ?_) | omega | (simp; done) | (simp; omega))))).mono ?_); intro e w5 hp5; obtain ⟨ys, A5, c5, rfl, hlg5, hrs5, hfm5, hgd5, hof5, hao5, hb5⟩ := hold_rsS hp5; have HLG5 := Lib.hid hlg5; have hA9 : ∀ a, A5 = some a → a.block ≠ w9.heap.size := (fun a ha => by have h1 := hao5 a ha; simp at h1; omega); have HA9 := Lib.hid hA9; have H5 := Lib.hid (hrs5.setOff (g := w9.heap.size) (o := 4) (v := .slice A5 ys.length c5) hA9); have hO9 : ∀ z ∈ ys, OffB w9.heap.size z := (hof5 w9.heap.size ⟨by omega, by simp⟩); have HO9 := Lib.hid hO9; have HG5 := Lib.hid (fun z hz => (hgd5 z hz).setOff (g := w9.heap.size) (o := 4) (v := .slice A5 ys.length c5) (hO9 z hz)); clear hp5 hlg5 hrs5 hfm5 hgd5 hof5 hao5 hA9 hO9; obtain ⟨fc5, fg5, hc5, hf5, hz5⟩ := bget hb5; (try simp at hz5)) | (go_at_call 11; (with_reducible refine (CY.out _ _ (by (repeat' (first | (with_reducible exact Below.refl _ _) | (with_reducible assumption) | (with_reducible refine Below.alloc ?_ ?_ _) | (with_reducible refine Below.setCell ?_ ?_ _) | (with_reducible refine Below.drew ?_) | (with_reducible refine below_drewN ?_ _) | (with_reducible refine below_via ?_ (by with_reducible assumption) ?_) | omega | (simp; done) | (simp; omega)))) (by simp) (by simp [go_sem]) (by simp [go_sem]) (by simp [go_sem])).mono ?_); rintro e w6 ⟨v6, rfl, hown6, hb6⟩; obtain ⟨A6, c6, hv6, hrs6, _⟩ := hown6.rs; (rw [List.length_map] at hv6); subst hv6; have H6 := Lib.hid hown6; clear hrs6 hown6; obtain ⟨fc6, fg6, hc6, hf6, hz6⟩ := bget hb6; (try simp at hz6)) | (go_at_call 9; (with_reducible refine (CEA.out ⟨s.ats, s.ins, s.bk, ⟨A6, c6, pl⟩, s.ho⟩ (HE.out A6 c6) _ (by exact (HSD.out.keep (by (repeat' (first | (with_reducible exact Below.refl _ _) | (with_reducible assumption) | (with_reducible refine Below.alloc ?_ ?_ _) | (with_reducible refine Below.setCell ?_ ?_ _) | (with_reducible refine Below.drew ?_) | (with_reducible refine below_drewN ?_ _) | (with_reducible refine below_via ?_ (by with_reducible assumption) ?_) | omega | (simp; done) | (simp; omega))))).withPu (by exact ((H6.out.farLow (p := ⟨w9.heap.size, 3, none⟩) (by first | omega | (simp; omega) | (simp; done)) _).good)) (by omega) HP64.out) (HYD.out.keep (by (repeat' (first | (with_reducible exact Below.refl _ _) | (with_reducible assumption) | (with_reducible refine Below.alloc ?_ ?_ _) | (with_reducible refine Below.setCell ?_ ?_ _) | (with_reducible refine Below.drew ?_) | (with_reducible refine below_drewN ?_ _) | (with_reducible refine below_via ?_ (by with_reducible assumption) ?_) | omega | (simp; done) | (simp; omega)))))).mono ?_); rintro e w8 ⟨rfl, hb8⟩; obtain ⟨fc8, fg8, hc8, hf8, hz8⟩ := bget hb8; (try simp at hz8)) | (go_at_call 8; (with_reducible refine (law27lives _).mono ?_); rintro e w20 ⟨rfl, hb20⟩; obtain ⟨fc20, fg20, hc20, hf20, hz20⟩ := bget hb20; (try simp at hz20)) | fail)
              go_ret
              exact ⟨rfl, by have h1 := HWW.out; (repeat' (first | (with_reducible exact Below.refl _ _) | (with_reducible assumption) | (with_reducible refine Below.alloc ?_ ?_ _) | (with_reducible refine Below.setCell ?_ ?_ _) | (with_reducible refine Below.drew ?_) | (with_reducible refine below_drewN ?_ _) | (with_reducible refine below_via ?_ (by with_reducible assumption) ?_) | omega | (simp; done) | (simp; omega)))⟩
          · have q1 : (pc == 0) = false := by simpa using hq
            clear hfin hp hq
            go_wp2_with (first | (go_at_call 9; (with_reducible refine (CE.out _ (by (repeat' (first | (with_reducible exact Below.refl _ _) | (with_reducible assumption) | (with_reducible refine Below.alloc ?_ ?_ _) | (with_reducible refine Below.setCell ?_ ?_ _) | (with_reducible refine Below.drew ?_) | (with_reducible refine below_drewN ?_ _) | (with_reducible refine below_via ?_ (by with_reducible assumption) ?_) | omega | (simp; done) | (simp; omega))))).mono ?_); rintro e w9 ⟨rfl, hb9⟩; obtain ⟨fc9, fg9, hc9, hf9, hz9⟩ := bget hb9; (try simp at hz9)) | (go_at_call 10; (with_reducible refine (CP.out _ (by (repeat' (first | (with_reducible exact Below.refl _ _) | (with_reducible assumption) | (with_reducible refine Below.alloc ?_ ?_ _) | (with_reducible refine Below.setCell ?_ ?_ _) | (with_reducible refine Below.drew ?_) | (with_reducible refine below_drewN ?_ _) | (with_reducible refine below_via ?_ (by with_reducible assumption) ?_) | omega | (simp; done) | (simp; omega))))).mono ?_); intro e w5 hp5; obtain ⟨ys, A5, c5, rfl, hlg5, hrs5, hfm5, hgd5, hof5, hao5, hb5⟩ := hold_rsS hp5; have HLG5 := Lib.hid hlg5; have hA9 : ∀ a, A5 = some a → a.block ≠ w9.heap.size := (fun a ha => by have h1 := hao5 a ha; simp at h1; omega); have HA9 := Lib.hid hA9; have H5 := Lib.hid (hrs5.setOff (g := w9.heap.size) (o := 4) (v := .slice A5 ys.length c5) hA9); have hO9 : ∀ z ∈ ys, OffB w9.heap.size z := (hof5 w9.heap.size ⟨by omega, by simp⟩); have HO9 := Lib.hid hO9; have HG5 := Lib.hid (fun z hz => (hgd5 z hz).setOff (g := w9.heap.size) (o := 4) (v := .slice A5 ys.length c5) (hO9 z hz)); clear hp5 hlg5 hrs5 hfm5 hgd5 hof5 hao5 hA9 hO9; obtain ⟨fc5, fg5, hc5, hf5, hz5⟩ := bget hb5; (try simp at hz5)) | (go_at_call 11; (with_reducible refine (CY.out _ _ (by (repeat' (first | (with_reducible exact Below.refl _ _) | (with_reducible assumption) | (with_reducible refine Below.alloc ?_ ?_ _) | (with_reducible refine Below.setCell ?_ ?_ _) | (with_reducible refine Below.drew ?_) | (with_reducible refine below_drewN ?_ _) | (with_reducible refine below_via ?_ (by with_reducible assumption) ?_) | omega | (simp; done) | (simp; omega)))) (by simp) (by simp [go_sem]) (by simp [go_sem]) (by simp [go_sem])).mono ?_); rintro e w6 ⟨v6, rfl, hown6, hb6⟩; obtain ⟨A6, c6, hv6, hrs6, _⟩ := hown6.rs; (rw [List.length_map] at hv6); subst hv6; have H6 := Lib.hid hown6; clear hrs6 hown6; obtain ⟨fc6, fg6, hc6, hf6, hz6⟩ := bget hb6; (try simp at hz6)) | (go_at_call 8; (with_reducible refine (law27lives _).mono ?_); rintro e w20 ⟨rfl, hb20⟩; obtain ⟨fc20, fg20, hc20, hf20, hz20⟩ := bget hb20; (try simp at hz20)) | fail)
            go_ret
            exact ⟨rfl, by have h1 := HWW.out; (repeat' (first | (with_reducible exact Below.refl _ _) | (with_reducible assumption) | (with_reducible refine Below.alloc ?_ ?_ _) | (with_reducible refine Below.setCell ?_ ?_ _) | (with_reducible refine Below.drew ?_) | (with_reducible refine below_drewN ?_ _) | (with_reducible refine below_via ?_ (by with_reducible assumption) ?_) | omega | (simp; done) | (simp; omega)))⟩
end Go.Proofs.YtalgfpegaobacaaGreat

/- What every law's row asks of the call's end: the arguments read on as they did, where nothing below the heap's old size has turned. -/
namespace Go.Proofs.YtalgfpegaobacaaGreat
open Go.ChangeShapes Go.WideShapes Go.ChangeAt Go.RowKit Go.Joins
theorem Tryz.own : ownKnob Tryz.prog.godebug = none := by kernel_rfl
theorem Tryz.laidOut : laidOutB Tryz.prog = true := by kernel_rfl
theorem in64_of_wf {x : Int} (h : (Lit.int .i64 x).wf = true) : In64 x := by
  simp [Lit.wf, IntKind.min, IntKind.max, IntKind.signed, IntKind.bits] at h
  exact ⟨by omega, by omega⟩
theorem reads_on {H : Type} {enc : TypeId × Value → H} {W W' : World} (hb : Below W.heap.size W W') : ∀ {ts : List TypeId} {vs : List Value} {ds : List (DataW H)} {ps : List MemPlace},
    (∀ t ∈ ts, Tryz.prog.readableRec t = true ∧ t < Tryz.prog.types.size) → DataW.TrodAll enc Tryz.prog W 0 (fun _ => true) true ts vs ds ps → (∀ x ∈ ps, x.block < W.heap.size) →
    DataW.TrodAll enc Tryz.prog W' 0 (fun b => decide (b < W.heap.size)) true ts vs ds ps
  | [], _, _, _, _, h, _ => by
    obtain ⟨rfl, rfl, rfl⟩ := trodAll_nil h
    exact trodAll_mk0
  | t :: ts, _, _, _, ht, h, hl => by
    obtain ⟨v, vs, d, ds, p, q, rfl, rfl, rfl, h1, h2⟩ := trodAll_cons h
    have h3 := ht t (by simp)
    exact ⟨p, q, Below.trod Tryz.laidOut h3.1 h3.2 h1 hb (fun x hx => hl x (by simp [hx])), reads_on hb (fun t ht' => ht t (by simp [ht'])) h2 (fun x hx => hl x (by simp [hx])), rfl⟩
theorem law_ends {H : Type} {enc : TypeId × Value → H} {f : Func} {s : ChangeSpec} {W W' : World} {args : Array Value} {ds gs : List (DataW H)} {before : List MemPlace}
    (hW : DataW.Whole enc Tryz.prog f.params.toList s.vars false W args.toList ds gs before) (hvars : s.vars = []) (hts : ∀ t ∈ f.params.toList, Tryz.prog.readableRec t = true ∧ t < Tryz.prog.types.size)
    (hrt : f.resultTypes = #[4]) (hr : (s.fn H (ds ++ gs)).results = [.lit (.bool true)]) (ha : (s.fn H (ds ++ gs)).args = ds) (hv : (s.fn H (ds ++ gs)).vars = []) (hb : Below W.heap.size W W') :
    s.post enc Tryz.prog f false true false false W args (.bool true) W' := by
  have hW' := hW
  obtain ⟨p, q, hA, hV, rfl, hfz, hnd⟩ := hW
  rw [hvars] at hV
  obtain ⟨rfl, rfl⟩ := trodVars_none hV
  refine ⟨ds, [], _, [], p, [], hW', ?_, ?_, ?_, hb.frame _, fun h => by cases h⟩
  · rw [hrt, hr]; exact trodAll_mk1 (shut_bool Tryz.underlying4 _)
  · rw [ha]; exact reads_on hb hts hA (fun x hx => by simpa using hW'.lt x (by simp [hx]))
  · rw [hv, hvars]; rfl
end Go.Proofs.YtalgfpegaobacaaGreat

/- A slice, handed in: the list that it reads as. -/
namespace Go.Proofs.YtalgfpegaobacaaGreat
open Go.ChangeShapes Go.WideShapes Go.ChangeAt Go.RowKit Go.Joins Go.Deep
theorem block_lt {w : World} {a : Addr} {v : Value} (h : w.cell? a = some v) : a.block < w.heap.size := by
  rcases Nat.lt_or_ge a.block w.heap.size with h1 | h1
  · exact h1
  · unfold World.cell? at h
    rw [Array.getElem?_eq_none h1] at h
    split at h <;> simp_all
theorem list_choose {α : Type} {n : Nat} {p : Nat → α → Prop} (h : ∀ i, i < n → ∃ x, p i x) : ∃ l : List α, l.length = n ∧ ∀ i (hi : i < l.length), p i l[i] := by
  induction n with
  | zero => exact ⟨[], rfl, fun i hi => absurd hi (by simp)⟩
  | succ n ih =>
    obtain ⟨l, hl, hp⟩ := ih (fun i hi => h i (by omega))
    obtain ⟨x, hx⟩ := h n (by omega)
    refine ⟨l ++ [x], by simp [hl], fun i hi => ?_⟩
    simp at hi
    rcases Nat.lt_or_ge i l.length with h1 | h1
    · rw [List.getElem_append_left h1]; exact hp i h1
    · obtain rfl : i = l.length := by omega
      simp [hl]; exact hx
theorem slice_open0 {H : Type} {enc : TypeId × Value → H} {P : Program} {w : World} {spare : Nat → Bool} {held : Bool} {t e : TypeId} {k : Nat} {α : Type} {ok : α → Prop} {enc1 : α → List Value} {fuel : Nat} {cs0 : List Value} {y0 : DataW H × List MemPlace}
    (ht : P.underlying t = some (.slice e)) (ce : P.cellsOf e = k) (helem : ∀ (cs : List Value) (n : Nat) y, cs.length = k → DataW.trod enc P w 0 spare held n e cs = some y → ∃ x : α, ok x ∧ cs = enc1 x)
    (hk : ∀ x, ok x → (enc1 x).length = k) (hk0 : 0 < k) (hf : DataW.trod enc P w 0 spare held fuel t cs0 = some y0) :
    ∃ (l : List α) (A : Option Addr) (c : Nat), cs0 = [.slice A l.length c] ∧ (∀ x ∈ l, ok x) ∧ l.length ≤ c ∧ c ≤ maxLen ∧ (A = none → c = 0) ∧ Rd w A k (l.map enc1) := by
  rcases open_slice ht hf with ⟨hcs, _⟩ | ⟨a, len, cap, m, n, D, Pl, hcs, _, hl, hm, hmm, _, hall⟩
  · subst hcs
    exact ⟨[], none, 0, rfl, by simp, by simp, by simp, fun _ => rfl, fun i r hr => by simp at hr⟩
  · subst hcs
    have each : ∀ i, i < len → ∃ x : α, ok x ∧ ∀ j v, (enc1 x)[j]? = some v → w.cell? ((a.add (i * k)).add j) = some v := by
      intro i hi
      obtain ⟨cs, h1, h2⟩ := hall i (by rw [hmm]; split <;> omega)
      rw [ce] at h1
      obtain ⟨_, hlen, hcell⟩ := World.cells?_some h1
      obtain ⟨x, hx, rfl⟩ := helem cs n _ hlen h2
      refine ⟨x, hx, fun j v hv => ?_⟩
      have hj : j < k := by
        rw [← hlen]
        rcases Nat.lt_or_ge j (enc1 x).length with h3 | h3
        · exact h3
        · rw [List.getElem?_eq_none h3] at hv; cases hv
      rw [hcell j hj, hv]
    obtain ⟨l, hll, hp⟩ := list_choose each
    subst hll
    refine ⟨l, some a, cap, rfl, fun x hx => ?_, hl, hm, (fun h => by cases h), fun i r hr => ?_⟩
    · obtain ⟨i, hi, rfl⟩ := List.mem_iff_getElem.1 hx
      exact (hp i hi).1
    · rw [List.getElem?_map] at hr
      cases hli : l[i]? with
      | none => rw [hli] at hr; cases hr
      | some x =>
        rw [hli] at hr
        simp at hr
        subst hr
        obtain ⟨hi, rfl⟩ := List.getElem?_eq_some_iff.1 hli
        have hp2 := (hp i hi).2
        have hlk := hk _ (hp i hi).1
        obtain ⟨u, hu⟩ : ∃ u, (enc1 l[i])[0]? = some u := ⟨(enc1 l[i])[0], List.getElem?_eq_getElem (by omega)⟩
        have h0 := hp2 0 u hu
        obtain ⟨b, off, spot⟩ := a
        have hb : b < w.heap.size := by
          have := block_lt h0
          unfold Addr.add at this
          split at this <;> split at this <;> exact this
        by_cases hi0 : i = 0
        · subst hi0
          have hspot : spot = none := by simpa [Addr.add] using World.cell?_spot h0
          subst hspot
          refine ⟨b, off, rfl, hb, fun j v hv => ?_⟩
          have := hp2 j v hv
          rwa [add_plain, add_plain] at this
        · have hl0 : 0 < l.length := by omega
          have hlk0 := hk _ (hp 0 hl0).1
          obtain ⟨u0, hu0⟩ : ∃ u, (enc1 l[0])[0]? = some u := ⟨(enc1 l[0])[0], List.getElem?_eq_getElem (by omega)⟩
          have h00 := (hp 0 hl0).2 0 u0 hu0
          have hspot : spot = none := by simpa [Addr.add] using World.cell?_spot h00
          subst hspot
          refine ⟨b, off, rfl, hb, fun j v hv => ?_⟩
          have := hp2 j v hv
          rwa [add_plain, add_plain] at this
/-- A slice handed in, read row by row by a relation. -/
theorem slice_rel {H : Type} {enc : TypeId × Value → H} {P : Program} {w : World} {spare : Nat → Bool} {held : Bool} {t e : TypeId} {k : Nat} {α : Type} {R : List Value → α → Prop} {fuel : Nat} {cs0 : List Value} {y0 : DataW H × List MemPlace}
    (ht : P.underlying t = some (.slice e)) (ce : P.cellsOf e = k) (helem : ∀ (cs : List Value) (n : Nat) y, cs.length = k → DataW.trod enc P w 0 spare held n e cs = some y → ∃ x : α, R cs x ∧ cs.length = k)
    (hk0 : 0 < k) (hf : DataW.trod enc P w 0 spare held fuel t cs0 = some y0) :
    ∃ (l : List α) (rows : List (List Value)) (A : Option Addr) (c : Nat), cs0 = [.slice A l.length c] ∧ Each R rows l ∧ Rs w k rows A c := by
  obtain ⟨rows, A, c, h1, h2, h3, h4, h5, h6⟩ := slice_open0 (α := List Value) (ok := fun r => (∃ x, R r x) ∧ r.length = k) (enc1 := fun r => r) ht ce (fun cs n y hl hy => by
    obtain ⟨x, hx, hlen⟩ := helem cs n y hl hy
    exact ⟨cs, ⟨⟨x, hx⟩, hlen⟩, rfl⟩) (fun r h => h.2) hk0 hf
  obtain ⟨l, hl, hp⟩ := list_choose (n := rows.length) (p := fun i x => ∃ r, rows[i]? = some r ∧ R r x) (fun i hi => by
    obtain ⟨⟨x, hx⟩, _⟩ := h2 rows[i] (List.getElem_mem hi)
    exact ⟨x, rows[i], List.getElem?_eq_getElem hi, hx⟩)
  rw [List.map_id'] at h6
  refine ⟨l, rows, A, c, by rw [hl]; exact h1, ⟨hl.symm, fun i a b ha hb => ?_⟩, ⟨h6, h3, h4, h5⟩⟩
  obtain ⟨hi, rfl⟩ := List.getElem?_eq_some_iff.1 hb
  obtain ⟨r, hr, hx⟩ := hp i hi
  rw [ha] at hr
  injection hr with hr
  subst hr
  exact hx
end Go.Proofs.YtalgfpegaobacaaGreat

/- Assets handed in. -/
namespace Go.Proofs.YtalgfpegaobacaaGreat
open Go.ChangeShapes Go.WideShapes Go.ChangeAt Go.RowKit Go.Joins
set_option maxRecDepth 100000 in
theorem Asset_cells {H : Type} {enc : TypeId × Value → H} {W : World} {spare : Nat → Bool} {held : Bool} (cs : List Value) (n : Nat) (y : DataW H × List MemPlace) (hlen : cs.length = 3) (h : DataW.trod enc Tryz.prog W 0 spare held n 63 cs = some y) : ∃ x : Asset, okAsset x ∧ cs = encAsset x := by
  obtain ⟨xs, n, _, rfl, _, hxs, hf⟩ := DataW.trod_struct Tryz.underlying63 h
  match cs, hlen, xs, hxs with
  | [c0, c1, c2], _, [y0, y1, y2], _ =>
    have h0 : DataW.trod enc Tryz.prog W 0 spare held n 3 (([c0, c1, c2].drop 0).take (Tryz.prog.cellsOf 3)) = some y0 := hf 0 _ rfl
    have h1 : DataW.trod enc Tryz.prog W 0 spare held n 2 (([c0, c1, c2].drop 1).take (Tryz.prog.cellsOf 2)) = some y1 := hf 1 _ rfl
    have h2 : DataW.trod enc Tryz.prog W 0 spare held n 2 (([c0, c1, c2].drop 2).take (Tryz.prog.cellsOf 2)) = some y2 := hf 2 _ rfl
    obtain ⟨x0, e0, _, w0⟩ := DataW.trod_int (k := .i64) (by kernel_rfl) h0
    rw [show Tryz.prog.cellsOf _ = 1 from by kernel_rfl] at e0
    simp at e0
    subst e0
    obtain ⟨x1, e1, _, w1⟩ := DataW.trod_int (k := .i64) (by kernel_rfl) h1
    rw [show Tryz.prog.cellsOf _ = 1 from by kernel_rfl] at e1
    simp at e1
    subst e1
    obtain ⟨x2, e2, _, w2⟩ := DataW.trod_int (k := .i64) (by kernel_rfl) h2
    rw [show Tryz.prog.cellsOf _ = 1 from by kernel_rfl] at e2
    simp at e2
    subst e2
    exact ⟨⟨x0, x1, x2⟩, ⟨in64_of_wf w0, in64_of_wf w1, in64_of_wf w2⟩, rfl⟩
end Go.Proofs.YtalgfpegaobacaaGreat

/- Rows of whole numbers handed in. -/
namespace Go.Proofs.YtalgfpegaobacaaGreat
open Go.ChangeShapes Go.WideShapes Go.ChangeAt Go.RowKit Go.Joins
set_option maxRecDepth 100000 in
theorem J_cells {H : Type} {enc : TypeId × Value → H} {W : World} {spare : Nat → Bool} {held : Bool} {t : TypeId} (ht : (t = 2 ∨ t = 3)) (cs : List Value) (n : Nat) (y : DataW H × List MemPlace) (_hlen : cs.length = 1) (h : DataW.trod enc Tryz.prog W 0 spare held n t cs = some y) : ∃ x : Int, In64 x ∧ cs = encI x := by
  rcases ht with rfl | rfl
  · obtain ⟨x0, e0, _, w0⟩ := DataW.trod_int (k := .i64) (by kernel_rfl) h
    exact ⟨x0, in64_of_wf w0, e0⟩
  · obtain ⟨x0, e0, _, w0⟩ := DataW.trod_int (k := .i64) (by kernel_rfl) h
    exact ⟨x0, in64_of_wf w0, e0⟩
/-- The cell of a slice of whole numbers. -/
structure IntsC (W : World) (cs : List Value) (l : List Int) (A : Option Addr) (c : Nat) : Prop where
  eq : cs = [.slice A l.length c]
  ok : ∀ x ∈ l, In64 x
  rs : Rs W 1 (l.map encI) A c
set_option maxRecDepth 100000 in
theorem ints_cells {H : Type} {enc : TypeId × Value → H} {W : World} {spare : Nat → Bool} {held : Bool} {n : Nat} {cs : List Value} {y : DataW H × List MemPlace} (h : DataW.trod enc Tryz.prog W 0 spare held n 68 cs = some y) : ∃ l A c, IntsC W cs l A c := by
  obtain ⟨l, A, c, h1, h2, h3, h4, h5, h6⟩ := slice_open0 (enc1 := encI) Tryz.underlying68 (by kernel_rfl) (fun cs n y => J_cells (.inl rfl) cs n y) (fun _ _ => rfl) (by omega) h
  exact ⟨l, A, c, h1, h2, h6, by rw [List.length_map]; exact h3, h4, h5⟩
set_option maxRecDepth 100000 in
theorem nats_cells {H : Type} {enc : TypeId × Value → H} {W : World} {spare : Nat → Bool} {held : Bool} {n : Nat} {cs : List Value} {y : DataW H × List MemPlace} (h : DataW.trod enc Tryz.prog W 0 spare held n 29 cs = some y) : ∃ l A c, IntsC W cs l A c := by
  obtain ⟨l, A, c, h1, h2, h3, h4, h5, h6⟩ := slice_open0 (enc1 := encI) Tryz.underlying29 (by kernel_rfl) (fun cs n y => J_cells (.inr rfl) cs n y) (fun _ _ => rfl) (by omega) h
  exact ⟨l, A, c, h1, h2, h6, by rw [List.length_map]; exact h3, h4, h5⟩
end Go.Proofs.YtalgfpegaobacaaGreat
