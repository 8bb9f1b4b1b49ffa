/- Joined: Grd1, CvM0, Cv7, CvL, HoOff. -/
import Derived.Test.YtalgfpegaobacaaGreatKz10
import Derived.Test.YtalgfpegaobacaaGreatKz7
import Derived.Test.YtalgfpegaobacaaGreatKz23
import Derived.Test.YtalgfpegaobacaaGreatKz13
/- Layer 20's Insts: a table of instruments that may be, of any. -/
namespace Go.Proofs.YtalgfpegaobacaaGreat
open Go.RowKit
def short9 (x : InstV) : InstV := { x with moves := ⟨x.moves.A, x.moves.c, x.moves.val.take 9⟩ }
theorem good9 {w : World} {x : InstV} (h : GoodI w x) : GoodI w (short9 x) ∧ (short9 x).moves.val.length ≤ 9 := by
  refine ⟨?_, by simp [short9]; omega⟩
  unfold GoodI at *
  have := h.take 9
  rw [← List.map_take] at this
  exact this
def insts10 (l : List InstV) : List InstV := tabInstVN okV ((l.take 10).map short9) 10
theorem put_mem20 {ob : Bool} {t : List InstV} {m x : InstV} (h : x ∈ putInstVL ob t m) : x ∈ t ∨ x = m := by
  unfold putInstVL at h
  split at h
  · unfold insInstV at h
    rcases List.mem_append.1 h with h | h
    · exact .inl ((List.takeWhile_sublist _).subset h)
    · rcases List.mem_cons.1 h with h | h
      · exact .inr h
      · exact .inl ((List.dropWhile_sublist _).subset h)
  · cases h
theorem tab_mem20 (okf : InstV → Bool) (l : List InstV) : ∀ k, ∀ x ∈ tabInstVN okf l k, x ∈ l
  | 0, x, h => by simp [tabInstVN] at h
  | k + 1, x, h => by
    rcases Nat.lt_or_ge k l.length with hk | hk
    · rw [tabInstVN_succ hk] at h
      unfold stepInstV at h
      split at h
      · rcases put_mem20 h with h | h
        · exact tab_mem20 okf l k x h
        · subst h; exact List.getElem_mem hk
      · exact tab_mem20 okf l k x h
    · have e : tabInstVN okf l (k + 1) = tabInstVN okf l k := by unfold tabInstVN; rw [List.take_of_length_le (by omega), List.take_of_length_le hk]
      rw [e] at h
      exact tab_mem20 okf l k x h
theorem insts_good {w : World} {l : List InstV} (h : ∀ x ∈ l, GoodI w x) : ∀ x ∈ insts10 l, x.moves.val.length ≤ 9 ∧ GoodI w x := by
  intro x hx
  have h1 := tab_mem20 _ _ _ x hx
  obtain ⟨y, hy, rfl⟩ := List.mem_map.1 h1
  have := good9 (h y (List.mem_of_mem_take hy))
  exact ⟨this.2, this.1⟩
theorem insts_len (l : List InstV) : (insts10 l).length ≤ 10 := tabInstVN_len _ _ _
theorem row5 (a b c d : Int) (A : Option Addr) (n m : Nat) : ∀ r ∈ [[Value.int .i64 a, .int .i64 b, .int .i64 c, .int .i64 d, .slice A n m]], r.length = 5 ∧ ∀ u ∈ r, u.oneCell' = true := by
  intro r hr
  simp only [List.mem_singleton] at hr
  subst hr
  refine ⟨rfl, ?_⟩
  simp only [List.mem_cons, List.not_mem_nil, or_false, forall_eq_or_imp, forall_eq]
  exact ⟨rfl, rfl, rfl, rfl, rfl⟩
set_option maxRecDepth 100000 in
set_option maxHeartbeats 8000000 in
theorem law20Insts (l : List InstV) (A : Option Addr) (c : Nat) (w : World) (hl : l.length ≤ maxLen) (hr : Rd w A 5 (l.map encInstV)) (hg : ∀ x ∈ l, GoodI w x) :
    Calls Tryz.prog 15 #[.slice A l.length c] w fun e w' => ∃ v, e = .returned v ∧ Own w' w.heap.size 91 5 v ((insts10 l).map encInstV) ∧ Below w.heap.size w w' := by
  have HR := Lib.hid hr
  have HG := Lib.hid hg
  have hml : (l.length : Int) ≤ 9223372036854775807 := by unfold maxLen at hl; omega
  have htb := fun (W : World) (A : Option Addr) (c : Nat) (hb : Below w.heap.size w W) (hrs : Rs W 5 (((l.take 10).map short9).map encInstV) A c) => ref13Table okV ((l.take 10).map short9) A c W (by rw [List.length_map, List.length_take]; unfold maxLen; omega) hrs.rd (fun m hm W' hW' => ref13IsV m W' (by
    obtain ⟨y, hy, rfl⟩ := List.mem_map.1 hm
    have := (good9 (hg y (List.mem_of_mem_take hy))).2; omega) (by
    obtain ⟨y, hy, rfl⟩ := List.mem_map.1 hm
    exact (good9 (hg y (List.mem_of_mem_take hy))).1.keep (hb.trans (hW'.mono hb.size))))
  obtain ⟨fl, hfl⟩ : ∃ fl, fl = (l.take 10).map short9 := ⟨_, rfl⟩
  have hin : insts10 l = tabInstVN okV fl 10 := by unfold insts10; rw [hfl]
  rw [← hfl] at htb
  rw [hin]
  have HFL := Lib.hid hfl
  have HTB := Lib.hid htb
  clear hr hg hl htb hfl hin
  go_enter Tryz.func15, Tryz.ntmps15
  go_wp2_with fail
  go_loopw [3, 4] (fun v i wr => ∃ q : Nat, q ≤ l.length ∧ q ≤ 10 ∧ i = .int .i64 q ∧ Own wr w.heap.size 91 5 v (((l.take q).map short9).map encInstV) ∧ Below w.heap.size w wr) (fun _ i _ => l.length - (intOf i).toNat)
  case atStart => exact ⟨0, Nat.zero_le _, Nat.zero_le _, rfl, Own.nil _ _ _ _, by (repeat' (first | (with_reducible exact Below.refl _ _) | (with_reducible assumption) | (with_reducible refine Below.alloc ?_ ?_ _) | (with_reducible refine Below.setCell ?_ ?_ _) | (with_reducible refine Below.drew ?_) | (with_reducible refine below_drewN ?_ _) | (with_reducible refine below_via ?_ (by with_reducible assumption) ?_) | omega | (simp; done) | (simp; omega)))⟩
  case round =>
    obtain ⟨q, hq, hq10, rfl, hown, hbl⟩ := hrel
    have Hown := Lib.hid hown
    have Hbl := Lib.hid hbl
    have hz := hbl.size
    clear hown hbl
    by_cases hgo : q < l.length ∧ q < 10
    · obtain ⟨hlt, h10⟩ := hgo
      have hqi : (q : Int) < (l.length : Int) := by omega
      have dl : decide ((q : Int) < (l.length : Int)) = true := by simpa using hlt
      have d10 : decide ((q : Int) < 10) = true := by simp; omega
      have hx := HG.out l[q] (List.getElem_mem hlt)
      have hlen : ((l.take q).map short9).length ≤ 10 := by simp; omega
      obtain ⟨b, o, rfl, hb, hc⟩ := HR.out q (encInstV l[q]) (by simp [hlt])
      have e0 := (Hbl.out.cell (p := ⟨b, o + q * 5 + 0, none⟩) hb).trans (hc 0 _ rfl)
      have e1 := (Hbl.out.cell (p := ⟨b, o + q * 5 + 1, none⟩) hb).trans (hc 1 _ rfl)
      have e2 := (Hbl.out.cell (p := ⟨b, o + q * 5 + 2, none⟩) hb).trans (hc 2 _ rfl)
      have e3 := (Hbl.out.cell (p := ⟨b, o + q * 5 + 3, none⟩) hb).trans (hc 3 _ rfl)
      have e4 := (Hbl.out.cell (p := ⟨b, o + q * 5 + 4, none⟩) hb).trans (hc 4 _ rfl)
      simp only [Nat.add_zero] at e0
      clear hc
      have hcap := hx.cap
      have hroom := hx.room
      rw [List.length_map] at hcap
      unfold maxLen at hroom
      by_cases h9 : 9 < l[q].moves.val.length
      · have d9 : decide (9 < (l[q].moves.val.length : Int)) = true := by simp; omega
        obtain ⟨bm, om, hA, hbm, _⟩ := hx.rd 0 (encI (l[q].moves.val[0]'(by omega))) (by rw [List.getElem?_map, List.getElem?_eq_getElem (by omega)]; rfl)
        rw [hA] at e4
        have HS : Hid (((l.take (q + 1)).map short9).map encInstV = ((l.take q).map short9).map encInstV ++ [[.int .i64 l[q].id, .int .i64 l[q].mult, .int .i64 l[q].price, .int .i64 l[q].next, .slice (some ⟨bm, om, none⟩) 9 l[q].moves.c]]) := by
          unfold Hid
          rw [map_snoc hlt short9, List.map_append]
          congr 1
          simp [encInstV, short9, hA]
          omega
        clear hx hA
        have n9 : 9 ≤ l[q].moves.c := by omega
        have n9i : (9 : Int) ≤ (l[q].moves.c : Int) := by omega
        go_wp2_with (at_builtin; refine wpList_app rfl _ _ _ rfl elInstV w.heap.size _ _ rfl (Hown.out.keep (by (repeat' (first | (with_reducible exact Below.refl _ _) | (with_reducible assumption) | (with_reducible refine Below.alloc ?_ ?_ _) | (with_reducible refine Below.setCell ?_ ?_ _) | (with_reducible refine Below.drew ?_) | (with_reducible refine below_drewN ?_ _) | (with_reducible refine below_via ?_ (by with_reducible assumption) ?_) | omega | (simp; done) | (simp; omega))))) (some ⟨_, 0, none⟩) 1 1 rfl [[.int .i64 l[q].id, .int .i64 l[q].mult, .int .i64 l[q].price, .int .i64 l[q].next, .slice (some ⟨bm, om, none⟩) 9 l[q].moves.c]] rfl (fun h => by cases h) (rd_oneN (by simp)) (row5 _ _ _ _ _ _ _) (by unfold maxLen; simp; omega) (by simp; omega) (by first | omega | (simp; done) | (simp; omega)) ?_; intro v3 w3 hown3 hb3)
        go_roundw
        case rel => exact ⟨q + 1, by omega, by omega, by go_num, by rw [HS.out]; exact hown3, by have hbl := Hbl.out; (repeat' (first | (with_reducible exact Below.refl _ _) | (with_reducible assumption) | (with_reducible refine Below.alloc ?_ ?_ _) | (with_reducible refine Below.setCell ?_ ?_ _) | (with_reducible refine Below.drew ?_) | (with_reducible refine below_drewN ?_ _) | (with_reducible refine below_via ?_ (by with_reducible assumption) ?_) | omega | (simp; done) | (simp; omega)))⟩
        case measure => simp [intOf]; omega
      · have d9 : decide (9 < (l[q].moves.val.length : Int)) = false := by simp; omega
        have HS : Hid (((l.take (q + 1)).map short9).map encInstV = ((l.take q).map short9).map encInstV ++ [[.int .i64 l[q].id, .int .i64 l[q].mult, .int .i64 l[q].price, .int .i64 l[q].next, .slice l[q].moves.A l[q].moves.val.length l[q].moves.c]]) := by
          unfold Hid
          rw [map_snoc hlt short9, List.map_append]
          congr 1
          simp [encInstV, short9]
          omega
        clear hx
        go_wp2_with (at_builtin; refine wpList_app rfl _ _ _ rfl elInstV w.heap.size _ _ rfl (Hown.out.keep (by (repeat' (first | (with_reducible exact Below.refl _ _) | (with_reducible assumption) | (with_reducible refine Below.alloc ?_ ?_ _) | (with_reducible refine Below.setCell ?_ ?_ _) | (with_reducible refine Below.drew ?_) | (with_reducible refine below_drewN ?_ _) | (with_reducible refine below_via ?_ (by with_reducible assumption) ?_) | omega | (simp; done) | (simp; omega))))) (some ⟨_, 0, none⟩) 1 1 rfl [[.int .i64 l[q].id, .int .i64 l[q].mult, .int .i64 l[q].price, .int .i64 l[q].next, .slice l[q].moves.A l[q].moves.val.length l[q].moves.c]] rfl (fun h => by cases h) (rd_oneN (by simp)) (row5 _ _ _ _ _ _ _) (by unfold maxLen; simp; omega) (by simp; omega) (by first | omega | (simp; done) | (simp; omega)) ?_; intro v3 w3 hown3 hb3)
        go_roundw
        case rel => exact ⟨q + 1, by omega, by omega, by go_num, by rw [HS.out]; exact hown3, by have hbl := Hbl.out; (repeat' (first | (with_reducible exact Below.refl _ _) | (with_reducible assumption) | (with_reducible refine Below.alloc ?_ ?_ _) | (with_reducible refine Below.setCell ?_ ?_ _) | (with_reducible refine Below.drew ?_) | (with_reducible refine below_drewN ?_ _) | (with_reducible refine below_via ?_ (by with_reducible assumption) ?_) | omega | (simp; done) | (simp; omega)))⟩
        case measure => simp [intOf]; omega
    · have HT := Lib.hid (show (l.take q).map short9 = fl from by
        rw [HFL.out]
        congr 1
        rcases Nat.lt_or_ge q 10 with h | h
        · rw [List.take_of_length_le (by omega), List.take_of_length_le (by omega)]
        · rw [show q = 10 by omega])
      have hown := Hown.out
      rw [HT.out] at hown
      obtain ⟨A4, c4, rfl, hrs4, _⟩ := own_formInstV hown
      have HRS := Lib.hid hrs4
      clear hown hrs4
      by_cases hlt : q < l.length
      · have dl : decide ((q : Int) < (l.length : Int)) = true := by simpa using hlt
        have d10 : decide ((q : Int) < 10) = false := by simp; omega
        go_wp2_with (go_at_call 40; (with_reducible refine (HTB.out _ _ _ (by have hbl := Hbl.out; (repeat' (first | (with_reducible exact Below.refl _ _) | (with_reducible assumption) | (with_reducible refine Below.alloc ?_ ?_ _) | (with_reducible refine Below.setCell ?_ ?_ _) | (with_reducible refine Below.drew ?_) | (with_reducible refine below_drewN ?_ _) | (with_reducible refine below_via ?_ (by with_reducible assumption) ?_) | omega | (simp; done) | (simp; omega)))) (by have h1 := HRS.out; exact h1)).mono ?_); rintro e w5 ⟨v5, rfl, hown5, hb5⟩; obtain ⟨fc5, fg5, hc5, hf5, hz5⟩ := bget hb5; (try simp at hz5))
        go_ret
        exact ⟨_, rfl, hown5.mono (by omega), by have hbl := Hbl.out; (repeat' (first | (with_reducible exact Below.refl _ _) | (with_reducible assumption) | (with_reducible refine Below.alloc ?_ ?_ _) | (with_reducible refine Below.setCell ?_ ?_ _) | (with_reducible refine Below.drew ?_) | (with_reducible refine below_drewN ?_ _) | (with_reducible refine below_via ?_ (by with_reducible assumption) ?_) | omega | (simp; done) | (simp; omega)))⟩
      · have dl : decide ((q : Int) < (l.length : Int)) = false := by simpa using hlt
        go_wp2_with (go_at_call 40; (with_reducible refine (HTB.out _ _ _ (by have hbl := Hbl.out; (repeat' (first | (with_reducible exact Below.refl _ _) | (with_reducible assumption) | (with_reducible refine Below.alloc ?_ ?_ _) | (with_reducible refine Below.setCell ?_ ?_ _) | (with_reducible refine Below.drew ?_) | (with_reducible refine below_drewN ?_ _) | (with_reducible refine below_via ?_ (by with_reducible assumption) ?_) | omega | (simp; done) | (simp; omega)))) (by have h1 := HRS.out; exact h1)).mono ?_); rintro e w5 ⟨v5, rfl, hown5, hb5⟩; obtain ⟨fc5, fg5, hc5, hf5, hz5⟩ := bget hb5; (try simp at hz5))
        go_ret
        exact ⟨_, rfl, hown5.mono (by omega), by have hbl := Hbl.out; (repeat' (first | (with_reducible exact Below.refl _ _) | (with_reducible assumption) | (with_reducible refine Below.alloc ?_ ?_ _) | (with_reducible refine Below.setCell ?_ ?_ _) | (with_reducible refine Below.drew ?_) | (with_reducible refine below_drewN ?_ _) | (with_reducible refine below_via ?_ (by with_reducible assumption) ?_) | omega | (simp; done) | (simp; omega)))⟩
end Go.Proofs.YtalgfpegaobacaaGreat

/- Tables of assets hold such as may be. No program in sight. -/
namespace Go.Proofs.YtalgfpegaobacaaGreat
open Go.RowKit
theorem put_memAs {ob : Bool} {t : List Asset} {m x : Asset} (h : x ∈ putAssetL ob t m) : x ∈ t ∨ (x = m ∧ ob = true) := by
  unfold putAssetL at h
  split at h
  · rename_i hc
    unfold insAsset at h
    rcases List.mem_append.1 h with h | h
    · exact .inl (List.takeWhile_prefix _ |>.subset h)
    · rcases List.mem_cons.1 h with h | h
      · exact .inr ⟨h, hc.1⟩
      · exact .inl ((List.dropWhile_suffix _).subset h)
  · simp at h
theorem tab_okAs (l : List Asset) : ∀ k, ∀ x ∈ tabAssetN (fun x => decide (okA x)) l k, okA x := by
  intro k
  induction k with
  | zero => intro x hx; simp [tabAssetN] at hx
  | succ k ih =>
    intro x hx
    rcases Nat.lt_or_ge k l.length with h | h
    · rw [tabAssetN_succ h] at hx
      unfold stepAsset at hx
      split at hx
      · rcases put_memAs hx with h1 | ⟨h1, h2⟩
        · exact ih x h1
        · rw [h1]; exact of_decide_eq_true h2
      · exact ih x hx
    · rw [show tabAssetN (fun x => decide (okA x)) l (k + 1) = tabAssetN (fun x => decide (okA x)) l k from by unfold tabAssetN; rw [List.take_of_length_le (by omega), List.take_of_length_le h]] at hx
      exact ih x hx
end Go.Proofs.YtalgfpegaobacaaGreat

/- Layer 27's laws: Few. -/
namespace Go.Proofs.YtalgfpegaobacaaGreat
open Go.RowKit
/-- A side handed in. -/
structure RawS (w : World) (s : SideV) : Prop where
  la : s.ats.val.length ≤ maxLen
  ra : Rd w s.ats.A 3 (s.ats.val.map encAsset)
  li : s.ins.val.length ≤ maxLen
  ri : Rd w s.ins.A 5 (s.ins.val.map encInstV)
  gi : ∀ x ∈ s.ins.val, GoodI w x
  lb : s.bk.val.length ≤ maxLen
  rb : Rd w s.bk.A 3 (s.bk.val.map encPosV)
  gb : ∀ x ∈ s.bk.val, Rs w 2 (x.legs.val.map encLeg) x.legs.A x.legs.c
  b64 : ∀ x ∈ s.bk.val, Legs64 x.legs.val
  rp : Rs w 3 (s.pu.val.map encFlow) s.pu.A s.pu.c
  p64 : ∀ x ∈ s.pu.val, In64 x.amount
  lh : s.ho.val.length ≤ maxLen
  rh : Rd w s.ho.A 3 (s.ho.val.map encHoldV)
  gh : ∀ x ∈ s.ho.val, Rs w 3 (x.lots.val.map encLot) x.lots.A x.lots.c
  h64 : ∀ x ∈ s.ho.val, ∀ z ∈ x.lots.val, In64 z.qty
/-- What a side is, as the laws take it. -/
structure FewS (w : World) (s : SideV) : Prop where
  good : GoodS w s
  ok : ∀ a ∈ s.ats.val, okA a
  lp : s.pu.val.length ≤ 20
  lh : s.ho.val.length ≤ 10
  form : (s.ho.A = none ∧ s.ho.val = [] ∧ s.ho.c = 0) ∨ ∃ b o, s.ho.A = some ⟨b, o, none⟩
theorem FewS.keep {w w' : World} {s : SideV} (h : FewS w s) (hb : Below w.heap.size w w') : FewS w' s := ⟨h.good.keep hb, h.ok, h.lp, h.lh, h.form⟩
/-- All blocks from base on are as they were. -/
structure Late (base : Nat) (w X : World) : Prop where
  size : w.heap.size ≤ X.heap.size
  block : ∀ b, base ≤ b → b < w.heap.size → X.heap[b]? = w.heap[b]?
theorem Late.refl (base : Nat) (w : World) : Late base w w := ⟨Nat.le_refl _, fun _ _ _ => rfl⟩
theorem Late.below {base : Nat} {w X Y : World} (h : Late base w X) (hb : Below X.heap.size X Y) : Late base w Y :=
  ⟨Nat.le_trans h.size hb.size, fun b h1 h2 => (hb.block b (Nat.lt_of_lt_of_le h2 h.size)).trans (h.block b h1 h2)⟩
theorem Late.set {base : Nat} {w X : World} (h : Late base w X) {p : Addr} (hp : p.block < base ∨ w.heap.size ≤ p.block) (v : Value) : Late base w (X.setCell p v) :=
  ⟨by simpa [World.setCell] using h.size, fun b h1 h2 => (Below.heap_setCell X p v b (by omega)).trans (h.block b h1 h2)⟩
theorem Own.late {base b0 E k : Nat} {v : Value} {rows : List (List Value)} {w X : World} (h : Own w b0 E k v rows) (hl : Late base w X) (hb : base ≤ b0) : Own X b0 E k v rows := by
  refine ⟨h.1, h.2.1, ?_⟩
  rcases h.2.2 with h2 | ⟨g, cap, cur, hv, hg, hh, r⟩
  · exact .inl h2
  · exact .inr ⟨g, cap, cur, hv, hg, (hl.block g (Nat.le_trans hb hg) (Array.getElem?_eq_some_iff.1 hh).1).trans hh, r⟩
/-- What the laws make of a side: what is new lies from base on, the rest in the elder world. -/
structure FewT (w0 : World) (base : Nat) (w : World) (t : SideV) : Prop where
  oa : Own w base 63 3 (.slice t.ats.A t.ats.val.length t.ats.c) (t.ats.val.map encAsset)
  la : t.ats.val.length ≤ 1000
  oi : Own w base 91 5 (.slice t.ins.A t.ins.val.length t.ins.c) (t.ins.val.map encInstV)
  li : t.ins.val.length ≤ 1000
  gi : ∀ x ∈ t.ins.val, x.moves.val.length ≤ 1048576 ∧ GoodI w0 x
  ob : Own w base 94 3 (.slice t.bk.A t.bk.val.length t.bk.c) (t.bk.val.map encPosV)
  lb : t.bk.val.length ≤ 1000
  gb : ∀ x ∈ t.bk.val, GoodPosV w0 x
  b64 : L64 (t.bk.val.map lgPosV)
  rp : Rs w0 3 (t.pu.val.map encFlow) t.pu.A t.pu.c
  lp : t.pu.val.length ≤ 20
  p64 : ∀ x ∈ t.pu.val, In64 x.amount
  oh : Own w base 97 3 (.slice t.ho.A t.ho.val.length t.ho.c) (t.ho.val.map encHoldV)
  lh : t.ho.val.length ≤ 10
  gh : ∀ x ∈ t.ho.val, GoodHoldV w0 x
  hq : LQ (t.ho.val.map lgHoldV)
  ok : ∀ a ∈ t.ats.val, okA a
theorem FewT.few {w0 w X : World} {base : Nat} {t : SideV} (h : FewT w0 base w t) (h0 : Below w0.heap.size w0 X) (hl : Late base w X) : FewS X t :=
  ⟨⟨(h.oa.late hl (Nat.le_refl _)).good.rd, h.la, (h.oi.late hl (Nat.le_refl _)).good.rd, h.li, fun x hx => ⟨(h.gi x hx).1, (h.gi x hx).2.keep h0⟩, (h.ob.late hl (Nat.le_refl _)).good.rd, h.lb, fun x hx => (h.gb x hx).keep h0, h.b64, h.rp.keep h0, Nat.le_trans h.lp (by omega), h.p64, (h.oh.late hl (Nat.le_refl _)).good, Nat.le_trans h.lh (by omega), fun x hx => (h.gh x hx).keep h0, h.hq⟩, h.ok, h.lp, h.lh, by
    obtain ⟨A', c', hv, _, hf⟩ := h.oh.rs
    injection hv with e1 e2 e3
    rcases hf with ⟨k1, k2, k3⟩ | ⟨g, k1, _⟩
    · exact .inl ⟨e1.trans k1, List.map_eq_nil_iff.1 k2, e3.trans k3⟩
    · exact .inr ⟨g, 0, e1.trans k1⟩⟩
set_option maxRecDepth 100000 in
set_option maxHeartbeats 32000000 in
theorem law27FewT (s : SideV) (w0 w : World) (hs : RawS w0 s) (h0 : Below w0.heap.size w0 w) :
    Calls Tryz.prog 5 #[.agg #[.slice (s).ats.A (s).ats.val.length (s).ats.c, .slice (s).ins.A (s).ins.val.length (s).ins.c, .slice (s).bk.A (s).bk.val.length (s).bk.c, .slice (s).pu.A (s).pu.val.length (s).pu.c, .slice (s).ho.A (s).ho.val.length (s).ho.c]] w fun e w' => ∃ t : SideV, e = .returned (.agg #[.slice (t).ats.A (t).ats.val.length (t).ats.c, .slice (t).ins.A (t).ins.val.length (t).ins.c, .slice (t).bk.A (t).bk.val.length (t).bk.c, .slice (t).pu.A (t).pu.val.length (t).pu.c, .slice (t).ho.A (t).ho.val.length (t).ho.c]) ∧ FewT w0 w.heap.size w' t ∧ Below w.heap.size w w' := by
  have K : ∀ {W : World}, Below w.heap.size w W → Below w0.heap.size w0 W := fun h => h0.trans (h.mono h0.size)
  have c1 := fun W (h : Below w.heap.size w W) => ref12Table (fun x => decide (okA x)) s.ats.val s.ats.A s.ats.c W hs.la (hs.ra.keep (K h)) (fun x _ W _ => ref12Is x W)
  have c2 := fun W (h : Below w.heap.size w W) => law20Insts s.ins.val s.ins.A s.ins.c W hs.li (hs.ri.keep (K h)) (fun x hx => (hs.gi x hx).keep (K h))
  have c3 := fun W (h : Below w.heap.size w W) => law19Few s.bk.val s.bk.A s.bk.c W hs.lb (hs.rb.keep (K h)) (fun x hx => (hs.gb x hx).keep (K h))
  have c4 := fun W (h : Below w.heap.size w W) => law17Few s.pu.val s.pu.A s.pu.c W (hs.rp.keep (K h))
  have c5 := fun W (h : Below w.heap.size w W) => law26Few s.ho.val s.ho.A s.ho.c W hs.lh (hs.rh.keep (K h)) (fun x hx => (hs.gh x hx).keep (K h))
  have T1 := Lib.hid (And.intro (tab_okAs s.ats.val 8) (tabAssetN_len (fun x => decide (okA x)) s.ats.val 8))
  have T2 := Lib.hid (And.intro (insts_good hs.gi) (insts_len s.ins.val))
  have T3 := Lib.hid (show (∀ x ∈ (s.bk.val.take 12).map fewPosV, GoodPosV w0 x ∧ Legs64 x.legs.val) ∧ ((s.bk.val.take 12).map fewPosV).length ≤ 12 from ⟨fun x hx => by
    obtain ⟨y, hy, rfl⟩ := List.mem_map.1 hx
    exact ⟨(fewPosV_good (hs.gb y (List.mem_of_mem_take hy))).1, fun z hz => hs.b64 y (List.mem_of_mem_take hy) z (List.mem_of_mem_take hz)⟩, by rw [List.length_map, List.length_take]; omega⟩)
  have T4 := Lib.hid (show Rs w0 3 ((s.pu.val.take 20).map encFlow) s.pu.A s.pu.c ∧ (∀ x ∈ s.pu.val.take 20, In64 x.amount) ∧ (s.pu.val.take 20).length ≤ 20 from ⟨by have h := hs.rp.take 20; rw [← List.map_take] at h; exact h, fun x hx => hs.p64 x (List.mem_of_mem_take hx), by rw [List.length_take]; omega⟩)
  have T5 := Lib.hid (show (∀ x ∈ (s.ho.val.take 10).map fewHoldV, GoodHoldV w0 x ∧ x.lots.val.length ≤ 20 ∧ ∀ z ∈ x.lots.val, In64 z.qty) ∧ ((s.ho.val.take 10).map fewHoldV).length ≤ 10 from ⟨fun x hx => by
    obtain ⟨y, hy, rfl⟩ := List.mem_map.1 hx
    have h1 := fewHoldV_good (hs.gh y (List.mem_of_mem_take hy))
    exact ⟨h1.1, h1.2, fun z hz => hs.h64 y (List.mem_of_mem_take hy) z (List.mem_of_mem_take hz)⟩, by rw [List.length_map, List.length_take]; omega⟩)
  clear hs h0 K
  generalize tabAssetN (fun x => decide (okA x)) s.ats.val 8 = t1 at *
  generalize insts10 s.ins.val = t2 at *
  generalize (s.bk.val.take 12).map fewPosV = t3 at *
  generalize s.pu.val.take 20 = t4 at *
  generalize (s.ho.val.take 10).map fewHoldV = t5 at *
  have C1 := Lib.hid c1
  have C2 := Lib.hid c2
  have C3 := Lib.hid c3
  have C4 := Lib.hid c4
  have C5 := Lib.hid c5
  clear c1 c2 c3 c4 c5
  generalize s.ats.val.length = n1 at *
  generalize s.ins.val.length = n2 at *
  generalize s.bk.val.length = n3 at *
  generalize s.pu.val.length = n4 at *
  generalize s.ho.val.length = n5 at *
  go_enter Tryz.func5, Tryz.ntmps5
  go_wp2_with fail
  go_region_held3 (fun w' => w'.cell? ⟨w.heap.size, 0, none⟩ = some (.slice s.ats.A n1 s.ats.c) ∧ w'.cell? ⟨w.heap.size, 1, none⟩ = some (.slice s.ins.A n2 s.ins.c) ∧ w'.cell? ⟨w.heap.size, 2, none⟩ = some (.slice s.bk.A n3 s.bk.c) ∧ w'.cell? ⟨w.heap.size, 3, none⟩ = some (.slice s.pu.A n4 s.pu.c) ∧ w'.cell? ⟨w.heap.size, 4, none⟩ = some (.slice s.ho.A n5 s.ho.c)) (first | (simp [go_sem]; done) | (repeat' (first | (with_reducible assumption) | (with_reducible refine And.intro ?_ ?_) | (with_reducible refine cell_drew ?_) | (with_reducible refine cell_via (by with_reducible assumption) ?_ ?_) | (simp [*]; done) | (simp [go_sem]; done) | (with_reducible refine cell_alloc ?_ ?_) | (with_reducible refine cell_set_far ?_ ?_) | omega | (simp; omega)))) (first | (go_at_call 14; (with_reducible refine (C1.out _ (by (repeat' (first | (with_reducible exact Below.refl _ _) | (with_reducible assumption) | (with_reducible refine Below.alloc ?_ ?_ _) | (with_reducible refine Below.setCell ?_ ?_ _) | (with_reducible refine Below.drew ?_) | (with_reducible refine below_drewN ?_ _) | (with_reducible refine below_via ?_ (by with_reducible assumption) ?_) | omega | (simp; done) | (simp; omega))))).mono ?_); rintro e w1 ⟨v1, rfl, hown1, hb1⟩; obtain ⟨A1, c1, hv1, hrs1, _⟩ := hown1.rs; (rw [List.length_map] at hv1); subst hv1; have H1 := Lib.hid hown1; clear hown1 hrs1; obtain ⟨fc1, fg1, hc1, hf1, hz1⟩ := bget hb1; (try simp at hz1)) | (go_at_call 15; (with_reducible refine (C2.out _ (by (repeat' (first | (with_reducible exact Below.refl _ _) | (with_reducible assumption) | (with_reducible refine Below.alloc ?_ ?_ _) | (with_reducible refine Below.setCell ?_ ?_ _) | (with_reducible refine Below.drew ?_) | (with_reducible refine below_drewN ?_ _) | (with_reducible refine below_via ?_ (by with_reducible assumption) ?_) | omega | (simp; done) | (simp; omega))))).mono ?_); rintro e w2 ⟨v2, rfl, hown2, hb2⟩; obtain ⟨A2, c2, hv2, hrs2, _⟩ := hown2.rs; (rw [List.length_map] at hv2); subst hv2; have H2 := Lib.hid hown2; clear hown2 hrs2; obtain ⟨fc2, fg2, hc2, hf2, hz2⟩ := bget hb2; (try simp at hz2)) | (go_at_call 16; (with_reducible refine (C3.out _ (by (repeat' (first | (with_reducible exact Below.refl _ _) | (with_reducible assumption) | (with_reducible refine Below.alloc ?_ ?_ _) | (with_reducible refine Below.setCell ?_ ?_ _) | (with_reducible refine Below.drew ?_) | (with_reducible refine below_drewN ?_ _) | (with_reducible refine below_via ?_ (by with_reducible assumption) ?_) | omega | (simp; done) | (simp; omega))))).mono ?_); rintro e w3 ⟨v3, rfl, hown3, hb3⟩; obtain ⟨A3, c3, hv3, hrs3, _⟩ := hown3.rs; (rw [List.length_map] at hv3); subst hv3; have H3 := Lib.hid hown3; clear hown3 hrs3; obtain ⟨fc3, fg3, hc3, hf3, hz3⟩ := bget hb3; (try simp at hz3)) | (go_at_call 17; (with_reducible refine (C4.out _ (by (repeat' (first | (with_reducible exact Below.refl _ _) | (with_reducible assumption) | (with_reducible refine Below.alloc ?_ ?_ _) | (with_reducible refine Below.setCell ?_ ?_ _) | (with_reducible refine Below.drew ?_) | (with_reducible refine below_drewN ?_ _) | (with_reducible refine below_via ?_ (by with_reducible assumption) ?_) | omega | (simp; done) | (simp; omega))))).mono ?_); rintro e w4 ⟨rfl, hb4⟩; obtain ⟨fc4, fg4, hc4, hf4, hz4⟩ := bget hb4; (try simp at hz4)) | (go_at_call 18; (with_reducible refine (C5.out _ (by (repeat' (first | (with_reducible exact Below.refl _ _) | (with_reducible assumption) | (with_reducible refine Below.alloc ?_ ?_ _) | (with_reducible refine Below.setCell ?_ ?_ _) | (with_reducible refine Below.drew ?_) | (with_reducible refine below_drewN ?_ _) | (with_reducible refine below_via ?_ (by with_reducible assumption) ?_) | omega | (simp; done) | (simp; omega))))).mono ?_); rintro e w5 ⟨v5, rfl, hown5, hb5⟩; obtain ⟨A5, c5, hv5, hrs5, hfm5⟩ := hown5.rs; (rw [List.length_map] at hv5); subst hv5; have H5 := Lib.hid hown5; have F5 := Lib.hid hfm5; clear hown5 hrs5 hfm5; obtain ⟨fc5, fg5, hc5, hf5, hz5⟩ := bget hb5; (try simp at hz5)) | fail)
  go_wp2_with fail
  refine bodyPost_ret (v := .agg #[.slice A1 t1.length c1, .slice A2 t2.length c2, .slice A3 t3.length c3, .slice s.pu.A t4.length s.pu.c, .slice A5 t5.length c5]) (by simp [results, Tryz.results5, go_sem, hc5, hc4, hc3, hc2, hc1, ↓IntWalk.iteOmega]; try rfl) rfl ⟨⟨⟨A1, c1, t1⟩, ⟨A2, c2, t2⟩, ⟨A3, c3, t3⟩, ⟨s.pu.A, s.pu.c, t4⟩, ⟨A5, c5, t5⟩⟩, rfl, ?_, ?_⟩
  · have r1 : Own (((((w5.setCell ⟨w.heap.size + 1, 0, none⟩ (.slice A1 t1.length c1)).setCell ⟨w.heap.size + 1, 1, none⟩ (.slice A2 t2.length c2)).setCell ⟨w.heap.size + 1, 2, none⟩ (.slice A3 t3.length c3)).setCell ⟨w.heap.size + 1, 3, none⟩ (.slice s.pu.A t4.length s.pu.c)).setCell ⟨w.heap.size + 1, 4, none⟩ (.slice A5 t5.length c5)) w.heap.size 63 3 (.slice A1 t1.length c1) (t1.map encAsset) := by (refine Own.mono (b := w.heap.size) (base := w.heap.size + 2) ?_ (by omega); refine Own.farLow (Own.farLow (Own.farLow (Own.farLow (Own.farLow ?_ ?_ _) ?_ _) ?_ _) ?_ _) ?_ _; (focus ((refine (H1.out.mono ?_).keep ?_); (focus (first | omega | (simp; done) | (simp; omega))); (focus ((repeat' (first | (with_reducible exact Below.refl _ _) | (with_reducible assumption) | (with_reducible refine Below.alloc ?_ ?_ _) | (with_reducible refine Below.setCell ?_ ?_ _) | (with_reducible refine Below.drew ?_) | (with_reducible refine below_drewN ?_ _) | (with_reducible refine below_via ?_ (by with_reducible assumption) ?_) | omega | (simp; done) | (simp; omega))); done)))); all_goals (focus (simp; done)))
    have r2 : Own (((((w5.setCell ⟨w.heap.size + 1, 0, none⟩ (.slice A1 t1.length c1)).setCell ⟨w.heap.size + 1, 1, none⟩ (.slice A2 t2.length c2)).setCell ⟨w.heap.size + 1, 2, none⟩ (.slice A3 t3.length c3)).setCell ⟨w.heap.size + 1, 3, none⟩ (.slice s.pu.A t4.length s.pu.c)).setCell ⟨w.heap.size + 1, 4, none⟩ (.slice A5 t5.length c5)) w.heap.size 91 5 (.slice A2 t2.length c2) (t2.map encInstV) := by (refine Own.mono (b := w.heap.size) (base := w.heap.size + 2) ?_ (by omega); refine Own.farLow (Own.farLow (Own.farLow (Own.farLow (Own.farLow ?_ ?_ _) ?_ _) ?_ _) ?_ _) ?_ _; (focus ((refine (H2.out.mono ?_).keep ?_); (focus (first | omega | (simp; done) | (simp; omega))); (focus ((repeat' (first | (with_reducible exact Below.refl _ _) | (with_reducible assumption) | (with_reducible refine Below.alloc ?_ ?_ _) | (with_reducible refine Below.setCell ?_ ?_ _) | (with_reducible refine Below.drew ?_) | (with_reducible refine below_drewN ?_ _) | (with_reducible refine below_via ?_ (by with_reducible assumption) ?_) | omega | (simp; done) | (simp; omega))); done)))); all_goals (focus (simp; done)))
    have r3 : Own (((((w5.setCell ⟨w.heap.size + 1, 0, none⟩ (.slice A1 t1.length c1)).setCell ⟨w.heap.size + 1, 1, none⟩ (.slice A2 t2.length c2)).setCell ⟨w.heap.size + 1, 2, none⟩ (.slice A3 t3.length c3)).setCell ⟨w.heap.size + 1, 3, none⟩ (.slice s.pu.A t4.length s.pu.c)).setCell ⟨w.heap.size + 1, 4, none⟩ (.slice A5 t5.length c5)) w.heap.size 94 3 (.slice A3 t3.length c3) (t3.map encPosV) := by (refine Own.mono (b := w.heap.size) (base := w.heap.size + 2) ?_ (by omega); refine Own.farLow (Own.farLow (Own.farLow (Own.farLow (Own.farLow ?_ ?_ _) ?_ _) ?_ _) ?_ _) ?_ _; (focus ((refine (H3.out.mono ?_).keep ?_); (focus (first | omega | (simp; done) | (simp; omega))); (focus ((repeat' (first | (with_reducible exact Below.refl _ _) | (with_reducible assumption) | (with_reducible refine Below.alloc ?_ ?_ _) | (with_reducible refine Below.setCell ?_ ?_ _) | (with_reducible refine Below.drew ?_) | (with_reducible refine below_drewN ?_ _) | (with_reducible refine below_via ?_ (by with_reducible assumption) ?_) | omega | (simp; done) | (simp; omega))); done)))); all_goals (focus (simp; done)))
    have r5 : Own (((((w5.setCell ⟨w.heap.size + 1, 0, none⟩ (.slice A1 t1.length c1)).setCell ⟨w.heap.size + 1, 1, none⟩ (.slice A2 t2.length c2)).setCell ⟨w.heap.size + 1, 2, none⟩ (.slice A3 t3.length c3)).setCell ⟨w.heap.size + 1, 3, none⟩ (.slice s.pu.A t4.length s.pu.c)).setCell ⟨w.heap.size + 1, 4, none⟩ (.slice A5 t5.length c5)) w.heap.size 97 3 (.slice A5 t5.length c5) (t5.map encHoldV) := by (refine Own.mono (b := w.heap.size) (base := w.heap.size + 2) ?_ (by omega); refine Own.farLow (Own.farLow (Own.farLow (Own.farLow (Own.farLow ?_ ?_ _) ?_ _) ?_ _) ?_ _) ?_ _; (focus ((refine (H5.out.mono ?_).keep ?_); (focus (first | omega | (simp; done) | (simp; omega))); (focus ((repeat' (first | (with_reducible exact Below.refl _ _) | (with_reducible assumption) | (with_reducible refine Below.alloc ?_ ?_ _) | (with_reducible refine Below.setCell ?_ ?_ _) | (with_reducible refine Below.drew ?_) | (with_reducible refine below_drewN ?_ _) | (with_reducible refine below_via ?_ (by with_reducible assumption) ?_) | omega | (simp; done) | (simp; omega))); done)))); all_goals (focus (simp; done)))
    generalize (((((w5.setCell ⟨w.heap.size + 1, 0, none⟩ (.slice A1 t1.length c1)).setCell ⟨w.heap.size + 1, 1, none⟩ (.slice A2 t2.length c2)).setCell ⟨w.heap.size + 1, 2, none⟩ (.slice A3 t3.length c3)).setCell ⟨w.heap.size + 1, 3, none⟩ (.slice s.pu.A t4.length s.pu.c)).setCell ⟨w.heap.size + 1, 4, none⟩ (.slice A5 t5.length c5)) = wf at *
    exact ⟨r1, Nat.le_trans T1.out.2 (by omega), r2, Nat.le_trans T2.out.2 (by omega), fun x hx => ⟨by have := (T2.out.1 x hx).1; omega, (T2.out.1 x hx).2⟩, r3, Nat.le_trans T3.out.2 (by omega), fun x hx => (T3.out.1 x hx).1, fun r hr => by
      obtain ⟨x, hx, rfl⟩ := List.mem_map.1 hr
      exact (T3.out.1 x hx).2, T4.out.1, T4.out.2.2, T4.out.2.1, r5, T5.out.2, fun x hx => (T5.out.1 x hx).1, fun r hr => by
      obtain ⟨x, hx, rfl⟩ := List.mem_map.1 hr
      exact ⟨by have := (T5.out.1 x hx).2.1; show x.lots.val.length ≤ 1000; omega, (T5.out.1 x hx).2.2⟩, T1.out.1⟩
  · (repeat' (first | (with_reducible exact Below.refl _ _) | (with_reducible assumption) | (with_reducible refine Below.alloc ?_ ?_ _) | (with_reducible refine Below.setCell ?_ ?_ _) | (with_reducible refine Below.drew ?_) | (with_reducible refine below_drewN ?_ _) | (with_reducible refine below_via ?_ (by with_reducible assumption) ?_) | omega | (simp; done) | (simp; omega)))
end Go.Proofs.YtalgfpegaobacaaGreat

/- Layer 27's laws: lives. -/
namespace Go.Proofs.YtalgfpegaobacaaGreat
open Go.RowKit
theorem rd_three {w : World} {b : Nat} {u v z : Value} (hb : b < w.heap.size) (h0 : w.cell? ⟨b, 0, none⟩ = some u) (h1 : w.cell? ⟨b, 1, none⟩ = some v) (h2 : w.cell? ⟨b, 2, none⟩ = some z) : Rd w (some ⟨b, 0, none⟩) 3 [[u, v, z]] := by
  intro i r hr
  match i, hr with
  | 0, hr =>
    simp at hr; subst hr
    refine ⟨b, 0, rfl, hb, fun j z hz => ?_⟩
    match j with
    | 0 => simp at hz; subst hz; simpa using h0
    | 1 => simp at hz; subst hz; simpa using h1
    | 2 => simp at hz; subst hz; simpa using h2
    | j + 3 => simp at hz
theorem live_cv : valN [⟨1, 3, 1000⟩] [⟨1, 0, 10⟩] 50 = 77 ∧ valC [⟨1, 3, 1000⟩] [⟨1, 0, 10⟩] 50 = 0 ∧ worN [⟨1, 3, 1000⟩] [⟨1, 0, 10⟩] = 30 ∧ worC [⟨1, 3, 1000⟩] [⟨1, 0, 10⟩] = 0 := by
  refine ⟨by kernel_rfl, by kernel_rfl, by kernel_rfl, by kernel_rfl⟩
set_option maxRecDepth 100000 in
set_option maxHeartbeats 16000000 in
theorem law27lives (w : World) : Calls Tryz.prog 8 #[] w fun e w' => e = .returned (.bool true) ∧ Below w.heap.size w w' := by
  have c1 := fun W a b (h1 : Rd W (some ⟨a, 0, none⟩) 3 ([(⟨1, 3, 1000⟩ : Asset)].map encAsset)) (h2 : Rd W (some ⟨b, 0, none⟩) 3 ([(⟨1, 0, 10⟩ : Lot)].map encLot)) => coverValue [⟨1, 3, 1000⟩] [⟨1, 0, 10⟩] 50 (some ⟨a, 0, none⟩) (some ⟨b, 0, none⟩) 1 1 W (by simp) (by simp) (by unfold In64; omega) (by intro y hy; simp at hy; subst hy; simp [In64]) h1 h2
  have c2 := fun W a b (h1 : Rd W (some ⟨a, 0, none⟩) 3 ([(⟨1, 3, 1000⟩ : Asset)].map encAsset)) (h2 : Rd W (some ⟨b, 0, none⟩) 3 ([(⟨1, 0, 10⟩ : Lot)].map encLot)) => coverWorth [⟨1, 3, 1000⟩] [⟨1, 0, 10⟩] (some ⟨a, 0, none⟩) (some ⟨b, 0, none⟩) 1 1 W (by simp) (by simp) (by intro y hy; simp at hy; subst hy; simp [In64]) h1 h2
  rw [live_cv.1, live_cv.2.1] at c1
  rw [live_cv.2.2.1, live_cv.2.2.2] at c2
  simp only [List.length_cons, List.length_nil, Nat.zero_add] at c1 c2
  have C1 := Lib.hid c1
  have C2 := Lib.hid c2
  clear c1 c2
  go_enter Tryz.func8, Tryz.ntmps8
  go_wp2_with (first | (go_at_call 19; (with_reducible refine (C1.out _ _ _ ?_ ?_).mono ?_); (focus (refine rd_three ?_ ?_ ?_ ?_; (focus (first | omega | (simp; done) | (simp; omega))); (focus (first | (simp [go_sem]; done) | (simp [go_sem, go_sem, ↓IntWalk.iteOmega]; done))); (focus (first | (simp [go_sem]; done) | (simp [go_sem, go_sem, ↓IntWalk.iteOmega]; done))); (focus (first | (simp [go_sem]; done) | (simp [go_sem, go_sem, ↓IntWalk.iteOmega]; done))))); (focus (refine rd_three ?_ ?_ ?_ ?_; (focus (first | omega | (simp; done) | (simp; omega))); (focus (first | (simp [go_sem]; done) | (simp [go_sem, go_sem, ↓IntWalk.iteOmega]; done))); (focus (first | (simp [go_sem]; done) | (simp [go_sem, go_sem, ↓IntWalk.iteOmega]; done))); (focus (first | (simp [go_sem]; done) | (simp [go_sem, go_sem, ↓IntWalk.iteOmega]; done))))); rintro e w1 ⟨rfl, hb1⟩; obtain ⟨fc1, fg1, hc1, hf1, hz1⟩ := bget hb1; (try simp at hz1)) | (go_at_call 20; (with_reducible refine (C2.out _ _ _ ?_ ?_).mono ?_); (focus (refine rd_three ?_ ?_ ?_ ?_; (focus (first | omega | (simp; done) | (simp; omega))); (focus (first | (simp [go_sem]; done) | (simp [go_sem, hc1, ↓IntWalk.iteOmega]; done))); (focus (first | (simp [go_sem]; done) | (simp [go_sem, hc1, ↓IntWalk.iteOmega]; done))); (focus (first | (simp [go_sem]; done) | (simp [go_sem, hc1, ↓IntWalk.iteOmega]; done))))); (focus (refine rd_three ?_ ?_ ?_ ?_; (focus (first | omega | (simp; done) | (simp; omega))); (focus (first | (simp [go_sem]; done) | (simp [go_sem, hc1, ↓IntWalk.iteOmega]; done))); (focus (first | (simp [go_sem]; done) | (simp [go_sem, hc1, ↓IntWalk.iteOmega]; done))); (focus (first | (simp [go_sem]; done) | (simp [go_sem, hc1, ↓IntWalk.iteOmega]; done))))); rintro e w2 ⟨rfl, hb2⟩; obtain ⟨fc2, fg2, hc2, hf2, hz2⟩ := bget hb2; (try simp at hz2)) | fail)
  go_ret
  exact ⟨rfl, by (repeat' (first | (with_reducible exact Below.refl _ _) | (with_reducible assumption) | (with_reducible refine Below.alloc ?_ ?_ _) | (with_reducible refine Below.setCell ?_ ?_ _) | (with_reducible refine Below.drew ?_) | (with_reducible refine below_drewN ?_ _) | (with_reducible refine below_via ?_ (by with_reducible assumption) ?_) | omega | (simp; done) | (simp; omega)))⟩
end Go.Proofs.YtalgfpegaobacaaGreat

/- Holds: where lists lie. -/
namespace Go.Proofs.YtalgfpegaobacaaGreat
open Go.RowKit
/-- Nothing, or the head of a block. -/
abbrev FormA {α : Type} (l : List α) (A : Option Addr) (c : Nat) : Prop := (A = none ∧ l = [] ∧ c = 0) ∨ ∃ b o, A = some ⟨b, o, none⟩
/-- A list in the world's memory lies in no block that is made after. -/
theorem GoodHoldV.off {w : World} {x : HoldV} (h : GoodHoldV w x) (hn : x.lots.val ≠ []) {g : Nat} (hg : w.heap.size ≤ g) : OffB g x := by
  intro a ha
  obtain ⟨b, o, hA, hlt, _⟩ := h.2.rd 0 (encLot (x.lots.val[0]'(List.length_pos_iff.2 hn))) (by rw [List.getElem?_map, List.getElem?_eq_getElem (List.length_pos_iff.2 hn)]; rfl)
  rw [ha] at hA
  injection hA with hA
  subst hA
  dsimp only at *
  omega
theorem Rd.setOff {w : World} {A : Option Addr} {k : Nat} {rows : List (List Value)} (h : Rd w A k rows) {g o : Nat} {v : Value} (hA : ∀ a, A = some a → a.block ≠ g) : Rd (w.setCell ⟨g, o, none⟩ v) A k rows := by
  intro i r hr
  obtain ⟨b, o', e, hlt, hc⟩ := h i r hr
  refine ⟨b, o', e, by simpa using hlt, fun j z hz => ?_⟩
  rw [World.cell?_setCell_other _ _ _ _ (by intro h; injection h with h1 _ _; exact hA _ e h1.symm)]
  exact hc j z hz
theorem Rs.setOff {w : World} {A : Option Addr} {k c : Nat} {rows : List (List Value)} (h : Rs w k rows A c) {g o : Nat} {v : Value} (hA : ∀ a, A = some a → a.block ≠ g) : Rs (w.setCell ⟨g, o, none⟩ v) k rows A c := ⟨h.rd.setOff hA, h.cap, h.room, h.nil⟩
theorem GoodHoldV.setOff {w : World} {x : HoldV} (h : GoodHoldV w x) {g o : Nat} {v : Value} (hA : OffB g x) : GoodHoldV (w.setCell ⟨g, o, none⟩ v) x := ⟨h.1, h.2.setOff hA⟩
theorem hold_rsS {w : World} {S : Nat → Prop} {L : List (Row Lot)} {code : Int} {e : Ending} {w' : World} (h : HoldPostS w S L code e w') : ∃ (ys : List HoldV) (A : Option Addr) (c : Nat), e = .returned (.tuple #[.slice A ys.length c, .int .i64 code]) ∧ ys.map lgHoldV = L ∧ Rs w' 3 (ys.map encHoldV) A c ∧ FormA ys A c ∧ (∀ y ∈ ys, GoodHoldV w' y) ∧ (∀ g, S g → ∀ y ∈ ys, OffB g y) ∧ (∀ a, A = some a → w.heap.size ≤ a.block) ∧ Below w.heap.size w w' := by
  obtain ⟨v, ys, rfl, hl, hown, hg, hof, hb⟩ := h
  obtain ⟨A, c, hv, hrs, hf⟩ := hown.rs
  rw [List.length_map] at hv
  subst hv
  refine ⟨ys, A, c, rfl, hl, hrs, ?_, hg, hof, own_off hown (Nat.le_refl _), hb⟩
  rcases hf with ⟨h1, h2, h3⟩ | ⟨g, h1, _⟩
  · exact .inl ⟨h1, List.map_eq_nil_iff.1 h2, h3⟩
  · exact .inr ⟨g, 0, h1⟩
theorem LQ.with {L : List (Row Lot)} (h : LQ L) (u : Un) {now : List Lot} (h1 : now.length ≤ 1000) (h2 : ∀ y ∈ now, In64 y.qty) : LQ (withK L u now) := by
  intro r hr
  rcases with_mem hr with ⟨hm, _⟩ | ⟨rfl, _⟩
  · exact h r hm
  · exact ⟨h1, h2⟩
end Go.Proofs.YtalgfpegaobacaaGreat
