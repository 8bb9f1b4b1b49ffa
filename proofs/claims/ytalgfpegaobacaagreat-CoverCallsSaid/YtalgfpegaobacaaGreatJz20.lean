/- Joined: Cv8, Frame, Open, AssetOpen, IntsOpen, InstOpen. -/
import Derived.Test.YtalgfpegaobacaaGreatJz18
import Derived.Test.YtalgfpegaobacaaGreatJz19
import Derived.Test.YtalgfpegaobacaaGreatJz1
import Derived.Test.YtalgfpegaobacaaGreatJz4
import Derived.Test.YtalgfpegaobacaaGreatJz6
import Derived.Test.YtalgfpegaobacaaGreatChecked
import Derived.ProofKit
import Derived.Lib.SmallJoins
import Derived.Deep.Slices
/- Layer 27's laws: CoverCalls' walk. -/
namespace Go.Proofs.YtalgfpegaobacaaGreat
open Go.RowKit
theorem put_memAv {ob : Bool} {t : List AcctV} {m x : AcctV} (h : x ∈ putAcctVL ob t m) : x ∈ t ∨ (x = m ∧ ob = true) := by
  unfold putAcctVL at h
  split at h
  · rename_i hc
    unfold insAcctV at h
    rcases List.mem_append.1 h with h | h
    · exact .inl (List.takeWhile_prefix _ |>.subset h)
    · rcases List.mem_cons.1 h with h | h
      · exact .inr ⟨h, hc.1⟩
      · exact .inl ((List.dropWhile_suffix _).subset h)
  · simp at h
theorem tab_okAv (l : List AcctV) : ∀ k, ∀ x ∈ tabAcctVN okAV l k, x ∈ l ∧ okAAc (lgA x) := by
  intro k
  induction k with
  | zero => intro x hx; simp [tabAcctVN] at hx
  | succ k ih =>
    intro x hx
    rcases Nat.lt_or_ge k l.length with h | h
    · rw [tabAcctVN_succ h] at hx
      unfold stepAcctV at hx
      split at hx
      · rcases put_memAv hx with h1 | ⟨h1, h2⟩
        · exact ih x h1
        · rw [h1]; exact ⟨List.getElem_mem h, of_decide_eq_true h2⟩
      · exact ih x hx
    · rw [show tabAcctVN okAV l (k + 1) = tabAcctVN okAV l k from by unfold tabAcctVN; rw [List.take_of_length_le (by omega), List.take_of_length_le h]] at hx
      exact ih x hx
/-- Who is called stands in just one place. -/
theorem calls_at {S : SideL} {T : List AcctV} {i k : Nat} (hi : i < T.length) (hk : k < (unitsN (lgA T[i])).length) (h : excN S (lgA T[i]) ((unitsN (lgA T[i]))[k]) < 0) :
    ∃ hp : (callsL S (T.take i)).length + (callU S (lgA T[i]) ((unitsN (lgA T[i])).take k)).length < (callsL S T).length, (callsL S T)[(callsL S (T.take i)).length + (callU S (lgA T[i]) ((unitsN (lgA T[i])).take k)).length]'hp = ⟨(unitsN (lgA T[i]))[k], excN S (lgA T[i]) ((unitsN (lgA T[i]))[k])⟩ := by
  have e1 : callsL S T = callsL S (T.take i) ++ (callU S (lgA T[i]) (unitsN (lgA T[i])) ++ callsL S (T.drop (i + 1))) := by
    have h1 : T = T.take i ++ T[i] :: T.drop (i + 1) := by rw [← List.drop_eq_getElem_cons hi, List.take_append_drop]
    conv => lhs; rw [h1]
    rw [callsL_app]
    rfl
  have e2 : callU S (lgA T[i]) (unitsN (lgA T[i])) = callU S (lgA T[i]) ((unitsN (lgA T[i])).take k) ++ (⟨(unitsN (lgA T[i]))[k], excN S (lgA T[i]) ((unitsN (lgA T[i]))[k])⟩ :: callU S (lgA T[i]) ((unitsN (lgA T[i])).drop (k + 1))) := by
    have h1 : unitsN (lgA T[i]) = (unitsN (lgA T[i])).take k ++ (unitsN (lgA T[i]))[k] :: (unitsN (lgA T[i])).drop (k + 1) := by rw [← List.drop_eq_getElem_cons hk, List.take_append_drop]
    conv => lhs; rw [h1]
    rw [callU_app]
    show _ ++ (callOne S (lgA T[i]) _ ++ _) = _
    unfold callOne
    rw [if_pos h]
    rfl
  have e3 : (callsL S T)[(callsL S (T.take i)).length + (callU S (lgA T[i]) ((unitsN (lgA T[i])).take k)).length]? = some ⟨(unitsN (lgA T[i]))[k], excN S (lgA T[i]) ((unitsN (lgA T[i]))[k])⟩ := by
    rw [e1, List.getElem?_append_right (by omega), Nat.add_sub_cancel_left, e2, List.append_assoc, List.getElem?_append_right (by omega), Nat.sub_self]
    rfl
  obtain ⟨hp, e4⟩ := List.getElem?_eq_some_iff.1 e3
  exact ⟨hp, e4⟩
theorem calls_zero {S : SideL} : ∀ {T : List AcctV} (_ : callsC S T = 0), ∀ x ∈ T, ∀ u ∈ unitsN (lgA x), excC S (lgA x) u = 0
  | [], _, x, hx => by simp at hx
  | y :: t, h, x, hx => by
    by_cases h0 : firstC (excC S (lgA y)) (unitsN (lgA y)) = 0
    · rw [callsC_step h0] at h
      rcases List.mem_cons.1 hx with rfl | hx
      · exact firstC_all h0
      · exact calls_zero h x hx
    · rw [callsC_stop h0] at h; exact absurd h h0
theorem units_kind {x : Acct} (h : okAAc x) : unitsN x = if x.kind = 3 ∨ x.kind = 4 then unitsA x else [⟨x.id, 0⟩] := by
  have hk := h.2.2.1
  unfold unitsN unitsA
  by_cases h1 : x.kind = 2
  · rw [if_pos h1, if_neg (by omega)]
  · rw [if_neg h1]
    by_cases h2 : x.kind = 1
    · rw [if_pos h2, if_neg (by omega)]
    · rw [if_neg h2, if_pos (by omega)]
theorem ref15UnitsX (x : AcctV) (w : World) (hl : x.clients.val.length ≤ 1048576) (hg : GoodA w x) :
    Calls Tryz.prog 7 #[.agg #[.int .i64 x.id, .int .i64 x.member, .int .i64 x.kind, .slice x.clients.A x.clients.val.length x.clients.c]] w fun e w' => ∃ A c, e = .returned (.slice A (unitsA (lgA x)).length c) ∧ Rs w' 2 ((unitsA (lgA x)).map encUn) A c ∧ Below w.heap.size w w' :=
  (ref15Units (lgA x) x.clients.A x.clients.c w hl hg.rd).mono fun e w' ⟨v, h1, ⟨A, c, h2, h3⟩, h4⟩ => ⟨A, c, by rw [h1, h2], h3, h4⟩
set_option maxRecDepth 100000 in
set_option maxHeartbeats 64000000 in
theorem coverCallsW (s0 : SideV) (l : List AcctV) (B : Option Addr) (d : Nat) (w : World) (hs : RawS w s0) (hl : l.length ≤ maxLen) (hr : Rd w B 4 (l.map encAcctV)) (hga : ∀ x ∈ l, GoodA w x) :
    Calls Tryz.prog 4 #[.agg #[.slice (s0).ats.A (s0).ats.val.length (s0).ats.c, .slice (s0).ins.A (s0).ins.val.length (s0).ins.c, .slice (s0).bk.A (s0).bk.val.length (s0).bk.c, .slice (s0).pu.A (s0).pu.val.length (s0).pu.c, .slice (s0).ho.A (s0).ho.val.length (s0).ho.c], .slice B l.length d] w fun e w' => e = .returned (.bool true) ∧ Below w.heap.size w w' := by
  have CF := Lib.hid (fun W (h : Below w.heap.size w W) => law27Few s0 W ⟨hs.la, hs.ra.keep h, hs.li, hs.ri.keep h, fun x hx => (hs.gi x hx).keep h, hs.lb, hs.rb.keep h, fun x hx => (hs.gb x hx).keep h, hs.b64, hs.rp.keep h, hs.p64, hs.lh, hs.rh.keep h, fun x hx => (hs.gh x hx).keep h, hs.h64⟩)
  have HR := Lib.hid hr
  have HGA := Lib.hid hga
  have hml : (l.length : Int) ≤ 9223372036854775807 := by unfold maxLen at hl; omega
  have HFN := Lib.hid (show ∀ x ∈ (l.take 8).map shortN, GoodA w x ∧ x.clients.val.length ≤ 20 from fun x hx => by
    obtain ⟨y, hy, rfl⟩ := List.mem_map.1 hx
    exact good_shortN (hga y (List.mem_of_mem_take hy)))
  clear hs hr hga hl
  go_enter Tryz.func4, Tryz.ntmps4
  go_wp2_with (first | (go_at_call 5; (with_reducible refine (CF.out _ (by (repeat' (first | (with_reducible exact Below.refl _ _) | (with_reducible assumption) | (with_reducible refine Below.alloc ?_ ?_ _) | (with_reducible refine Below.setCell ?_ ?_ _) | (with_reducible refine Below.drew ?_) | (with_reducible refine below_drewN ?_ _) | (with_reducible refine below_via ?_ (by with_reducible assumption) ?_) | omega | (simp; done) | (simp; omega))))).mono ?_); rintro e w1 ⟨s, rfl, hfs1, hb1⟩; have HFS := Lib.hid hfs1; clear hfs1; obtain ⟨fc1, fg1, hc1, hf1, hz1⟩ := bget hb1; (try simp at hz1)) | fail)
  have x0 : (w1.alloc (.cells #[.slice s.ats.A s.ats.val.length s.ats.c, .slice s.ins.A s.ins.val.length s.ins.c, .slice s.bk.A s.bk.val.length s.bk.c, .slice s.pu.A s.pu.val.length s.pu.c, .slice s.ho.A s.ho.val.length s.ho.c] 34)).heap.size = w1.heap.size + 1 := by simp
  have HB := Lib.hid (show ((w1.alloc (.cells #[.slice s.ats.A s.ats.val.length s.ats.c, .slice s.ins.A s.ins.val.length s.ins.c, .slice s.bk.A s.bk.val.length s.bk.c, .slice s.pu.A s.pu.val.length s.pu.c, .slice s.ho.A s.ho.val.length s.ho.c] 34)).cell? ⟨w1.heap.size, 0, none⟩ = some (.slice s.ats.A s.ats.val.length s.ats.c) ∧ (w1.alloc (.cells #[.slice s.ats.A s.ats.val.length s.ats.c, .slice s.ins.A s.ins.val.length s.ins.c, .slice s.bk.A s.bk.val.length s.bk.c, .slice s.pu.A s.pu.val.length s.pu.c, .slice s.ho.A s.ho.val.length s.ho.c] 34)).cell? ⟨w1.heap.size, 1, none⟩ = some (.slice s.ins.A s.ins.val.length s.ins.c) ∧ (w1.alloc (.cells #[.slice s.ats.A s.ats.val.length s.ats.c, .slice s.ins.A s.ins.val.length s.ins.c, .slice s.bk.A s.bk.val.length s.bk.c, .slice s.pu.A s.pu.val.length s.pu.c, .slice s.ho.A s.ho.val.length s.ho.c] 34)).cell? ⟨w1.heap.size, 2, none⟩ = some (.slice s.bk.A s.bk.val.length s.bk.c) ∧ (w1.alloc (.cells #[.slice s.ats.A s.ats.val.length s.ats.c, .slice s.ins.A s.ins.val.length s.ins.c, .slice s.bk.A s.bk.val.length s.bk.c, .slice s.pu.A s.pu.val.length s.pu.c, .slice s.ho.A s.ho.val.length s.ho.c] 34)).cell? ⟨w1.heap.size, 3, none⟩ = some (.slice s.pu.A s.pu.val.length s.pu.c) ∧ (w1.alloc (.cells #[.slice s.ats.A s.ats.val.length s.ats.c, .slice s.ins.A s.ins.val.length s.ins.c, .slice s.bk.A s.bk.val.length s.bk.c, .slice s.pu.A s.pu.val.length s.pu.c, .slice s.ho.A s.ho.val.length s.ho.c] 34)).cell? ⟨w1.heap.size, 4, none⟩ = some (.slice s.ho.A s.ho.val.length s.ho.c)) by refine ⟨?_, ?_, ?_, ?_, ?_⟩ <;> simp [go_sem])
  have Hw2 := Lib.hid (show Below w.heap.size w (w1.alloc (.cells #[.slice s.ats.A s.ats.val.length s.ats.c, .slice s.ins.A s.ins.val.length s.ins.c, .slice s.bk.A s.bk.val.length s.bk.c, .slice s.pu.A s.pu.val.length s.pu.c, .slice s.ho.A s.ho.val.length s.ho.c] 34)) by (repeat' (first | (with_reducible exact Below.refl _ _) | (with_reducible assumption) | (with_reducible refine Below.alloc ?_ ?_ _) | (with_reducible refine Below.setCell ?_ ?_ _) | (with_reducible refine Below.drew ?_) | (with_reducible refine below_drewN ?_ _) | (with_reducible refine below_via ?_ (by with_reducible assumption) ?_) | omega | (simp; done) | (simp; omega))))
  have HS2 := Lib.hid (HFS.out.good.keep (show Below w1.heap.size w1 (w1.alloc (.cells #[.slice s.ats.A s.ats.val.length s.ats.c, .slice s.ins.A s.ins.val.length s.ins.c, .slice s.bk.A s.bk.val.length s.bk.c, .slice s.pu.A s.pu.val.length s.pu.c, .slice s.ho.A s.ho.val.length s.ho.c] 34)) by (repeat' (first | (with_reducible exact Below.refl _ _) | (with_reducible assumption) | (with_reducible refine Below.alloc ?_ ?_ _) | (with_reducible refine Below.setCell ?_ ?_ _) | (with_reducible refine Below.drew ?_) | (with_reducible refine below_drewN ?_ _) | (with_reducible refine below_via ?_ (by with_reducible assumption) ?_) | omega | (simp; done) | (simp; omega)))))
  clear HFS CF
  generalize w1.alloc (.cells #[.slice s.ats.A s.ats.val.length s.ats.c, .slice s.ins.A s.ins.val.length s.ins.c, .slice s.bk.A s.bk.val.length s.bk.c, .slice s.pu.A s.pu.val.length s.pu.c, .slice s.ho.A s.ho.val.length s.ho.c] 34) = w2 at *
  have hgs : w1.heap.size < w2.heap.size := by omega
  have hws : w.heap.size < w1.heap.size := by omega
  clear x0 hc1 hf1 hb1 hz1
  generalize w1.heap.size = gs at *
  go_loopw [6, 7] (fun v i wr => ∃ k : Nat, k ≤ 8 ∧ k ≤ l.length ∧ i = .int .i64 k ∧ Own wr w2.heap.size 31 4 v (((l.take k).map shortN).map encAcctV) ∧ Below w2.heap.size w2 wr) (fun _ i _ => 8 - (intOf i).toNat)
  case atStart => exact ⟨0, Nat.zero_le _, Nat.zero_le _, rfl, Own.nil _ _ _ _, Below.refl _ _⟩
  case round =>
    obtain ⟨k, hk8, hk, rfl, hown, hbl⟩ := hrel
    have Hown := Lib.hid hown
    have Hbl := Lib.hid hbl
    have hz := hbl.size
    have HWR := Lib.hid (Hw2.out.trans (hbl.mono (by omega)))
    clear hown hbl
    by_cases hgo : k < l.length ∧ k < 8
    · obtain ⟨hlt, h8⟩ := hgo
      have kl : (k : Int) < (l.length : Int) := by omega
      have dl : decide ((k : Int) < (l.length : Int)) = true := by simpa using hlt
      have d8 : decide ((k : Int) < 8) = true := by simp; omega
      obtain ⟨b, o, rfl, hb, hc⟩ := HR.out k (encAcctV l[k]) (by simp [hlt])
      have e0 := (HWR.out.cell (p := ⟨b, o + k * 4 + 0, none⟩) hb).trans (hc 0 _ rfl)
      have e1 := (HWR.out.cell (p := ⟨b, o + k * 4 + 1, none⟩) hb).trans (hc 1 _ rfl)
      have e2 := (HWR.out.cell (p := ⟨b, o + k * 4 + 2, none⟩) hb).trans (hc 2 _ rfl)
      have e3 := (HWR.out.cell (p := ⟨b, o + k * 4 + 3, none⟩) hb).trans (hc 3 _ rfl)
      simp only [Nat.add_zero] at e0
      clear hc
      have hbw : b < wr.heap.size := by omega
      have hx := HGA.out l[k] (List.getElem_mem hlt)
      have HSN := Lib.hid (show ((l.take (k + 1)).map shortN).map encAcctV = ((l.take k).map shortN).map encAcctV ++ [encAcctV (shortN l[k])] from by rw [map_snoc hlt, List.map_append]; rfl)
      have hzl : (((l.take k).map shortN).map encAcctV).length ≤ 8 := by simp; omega
      generalize ((l.take k).map shortN).map encAcctV = Z at *
      generalize l[k] = x at *
      have cs := fun W (h : Below w.heap.size w W) => law25Short x W (hx.keep h)
      generalize shortN x = y at *
      have CS := Lib.hid cs
      clear cs hx
      go_wp2_with (first | (go_at_call 6; (with_reducible refine (CS.out _ (by have h1 := HWR.out; (repeat' (first | (with_reducible exact Below.refl _ _) | (with_reducible assumption) | (with_reducible refine Below.alloc ?_ ?_ _) | (with_reducible refine Below.setCell ?_ ?_ _) | (with_reducible refine Below.drew ?_) | (with_reducible refine below_drewN ?_ _) | (with_reducible refine below_via ?_ (by with_reducible assumption) ?_) | omega | (simp; done) | (simp; omega))))).mono ?_); rintro e w3 ⟨rfl, hb3⟩; obtain ⟨fc3, fg3, hc3, hf3, hz3⟩ := bget hb3; (try simp at hz3)) | (at_builtin; refine wpList_app rfl _ _ _ rfl elAcctV w2.heap.size _ _ rfl (Hown.out.keep (by (repeat' (first | (with_reducible exact Below.refl _ _) | (with_reducible assumption) | (with_reducible refine Below.alloc ?_ ?_ _) | (with_reducible refine Below.setCell ?_ ?_ _) | (with_reducible refine Below.drew ?_) | (with_reducible refine below_drewN ?_ _) | (with_reducible refine below_via ?_ (by with_reducible assumption) ?_) | omega | (simp; done) | (simp; omega))))) (some ⟨_, 0, none⟩) 1 1 rfl [encAcctV y] rfl (fun h => by cases h) (rd_oneN (by simp)) (rowsAcctV [y]) (by unfold maxLen; omega) (by omega) (by first | omega | (simp; done) | (simp; omega)) ?_; intro v4 w4 hown4 hb4; obtain ⟨fc4, fg4, hc4, hf4, hz4⟩ := bget hb4; (try simp at hz4)) | fail)
      go_roundw
      case rel => exact ⟨k + 1, by omega, by omega, by go_num, by rw [HSN.out]; exact hown4, by have h1 := Hbl.out; (repeat' (first | (with_reducible exact Below.refl _ _) | (with_reducible assumption) | (with_reducible refine Below.alloc ?_ ?_ _) | (with_reducible refine Below.setCell ?_ ?_ _) | (with_reducible refine Below.drew ?_) | (with_reducible refine below_drewN ?_ _) | (with_reducible refine below_via ?_ (by with_reducible assumption) ?_) | omega | (simp; done) | (simp; omega)))⟩
      case measure => simp [intOf]; omega
    · have hke : (l.take k).map shortN = (l.take 8).map shortN := by
        rcases Nat.lt_or_ge k l.length with h | h
        · rw [show k = 8 by omega]
        · rw [List.take_of_length_le h, List.take_of_length_le (show l.length ≤ 8 by omega)]
      have ho := Hown.out
      rw [hke] at ho
      have hfl : ((l.take 8).map shortN).length ≤ 8 := by simp; omega
      generalize (l.take 8).map shortN = fl at *
      obtain ⟨A4, c4, hv4, hrs4, _⟩ := ho.rs
      rw [List.length_map] at hv4
      subst hv4
      have H4 := Lib.hid hrs4.rd
      have CT := Lib.hid (fun W (h : Below wr.heap.size wr W) => ref15Table okAV fl A4 c4 W (by unfold maxLen; omega) (hrs4.rd.keep h) (fun m hm W' hW' => ref15IsV m W' (by have := (HFN.out m hm).2; omega) ((HFN.out m hm).1.keep ((HWR.out.trans (h.mono (by omega))).trans (hW'.mono (by have := h.size; omega))))))
      have HTF := Lib.hid (And.intro (tab_okAv fl 20) (tabAcctVN_len okAV fl 20))
      have hD : (¬ k < l.length ∧ decide (k < l.length) = false ∧ decide ((k : Int) < (l.length : Int)) = false) ∨ (k < l.length ∧ ¬ (k : Int) < 8 ∧ decide ((k : Int) < (l.length : Int)) = true ∧ decide ((k : Int) < 8) = false) := by
        rcases Nat.lt_or_ge k l.length with h | h
        · exact .inr ⟨h, by omega, by simpa using h, by simp; omega⟩
        · exact .inl ⟨by omega, by simp; omega, by simp; omega⟩
      clear ho hrs4 hke hgo
      generalize tabAcctVN okAV fl 20 = T at *
      have HTG := Lib.hid (show ∀ x ∈ T, GoodA w x ∧ x.clients.val.length ≤ 20 ∧ okAAc (lgA x) from fun x hx => ⟨(HFN.out x (HTF.out.1 x hx).1).1, (HFN.out x (HTF.out.1 x hx).1).2, (HTF.out.1 x hx).2⟩)
      have htl := HTF.out.2
      have cc := fun A5 c5 W (h : Below w.heap.size w W) (h5 : Rd W A5 4 (T.map encAcctV)) (hG : GoodS W s) => coverCalls s T A5 c5 W hG (by omega) h5 (fun x hx => ⟨by have := (HTG.out x hx).2.1; omega, (HTG.out x hx).1.keep h⟩)
      have CE := Lib.hid (fun x u W (hG : GoodS W s) (h : GoodA W x) (h3 : x.clients.val.length ≤ 1000) => coverExcess s x u W hG h h3)
      have y0 := (Hbl.out.cell (p := ⟨gs, 0, none⟩) (by simp; omega)).trans HB.out.1
      have y1 := (Hbl.out.cell (p := ⟨gs, 1, none⟩) (by simp; omega)).trans HB.out.2.1
      have y2 := (Hbl.out.cell (p := ⟨gs, 2, none⟩) (by simp; omega)).trans HB.out.2.2.1
      have y3 := (Hbl.out.cell (p := ⟨gs, 3, none⟩) (by simp; omega)).trans HB.out.2.2.2.1
      have y4 := (Hbl.out.cell (p := ⟨gs, 4, none⟩) (by simp; omega)).trans HB.out.2.2.2.2
      have hgw : gs < wr.heap.size := by omega
      generalize sideL s = S at *
      by_cases h0 : callsC S T = 0
      rotate_left
      · have n0 : (callsC S T != 0) = true := by simpa using h0
        have n1 : (callsC S T == 0) = false := by simpa using h0
        rw [show callsR S T = [] from if_neg h0] at cc
        generalize callsC S T = code at *
        have CC := Lib.hid cc
        clear cc h0
        rcases hD with ⟨hD1, hD2, hD⟩ | ⟨hD1, hD2, hD, hD3⟩
        all_goals
          go_wp2_with (first | (go_at_call 12; (with_reducible refine (CT.out _ (by (repeat' (first | (with_reducible exact Below.refl _ _) | (with_reducible assumption) | (with_reducible refine Below.alloc ?_ ?_ _) | (with_reducible refine Below.setCell ?_ ?_ _) | (with_reducible refine Below.drew ?_) | (with_reducible refine below_drewN ?_ _) | (with_reducible refine below_via ?_ (by with_reducible assumption) ?_) | omega | (simp; done) | (simp; omega))))).mono ?_); rintro e w5 ⟨v5, rfl, hown5, hb5⟩; obtain ⟨A5, c5, hv5, hrs5, _⟩ := hown5.rs; (rw [List.length_map] at hv5); subst hv5; have H5 := Lib.hid hrs5.rd; clear hown5 hrs5; obtain ⟨fc5, fg5, hc5, hf5, hz5⟩ := bget hb5; (try simp at hz5)) | (go_at_call 13; (with_reducible refine (CC.out _ _ _ (by have h1 := HWR.out; (repeat' (first | (with_reducible exact Below.refl _ _) | (with_reducible assumption) | (with_reducible refine Below.alloc ?_ ?_ _) | (with_reducible refine Below.setCell ?_ ?_ _) | (with_reducible refine Below.drew ?_) | (with_reducible refine below_drewN ?_ _) | (with_reducible refine below_via ?_ (by with_reducible assumption) ?_) | omega | (simp; done) | (simp; omega)))) (H5.out.keep (by (repeat' (first | (with_reducible exact Below.refl _ _) | (with_reducible assumption) | (with_reducible refine Below.alloc ?_ ?_ _) | (with_reducible refine Below.setCell ?_ ?_ _) | (with_reducible refine Below.drew ?_) | (with_reducible refine below_drewN ?_ _) | (with_reducible refine below_via ?_ (by with_reducible assumption) ?_) | omega | (simp; done) | (simp; omega))))) (HS2.out.keep (by have h1 := Hbl.out; (repeat' (first | (with_reducible exact Below.refl _ _) | (with_reducible assumption) | (with_reducible refine Below.alloc ?_ ?_ _) | (with_reducible refine Below.setCell ?_ ?_ _) | (with_reducible refine Below.drew ?_) | (with_reducible refine below_drewN ?_ _) | (with_reducible refine below_via ?_ (by with_reducible assumption) ?_) | omega | (simp; done) | (simp; omega)))))).mono ?_); rintro e w6 ⟨v6, rfl, hown6, hb6⟩; obtain ⟨A6, c6, hv6, hrs6, _⟩ := hown6.rs; (rw [List.length_map] at hv6); subst hv6; have H6 := Lib.hid hrs6.rd; clear hown6 hrs6; obtain ⟨fc6, fg6, hc6, hf6, hz6⟩ := bget hb6; (try simp at hz6)) | (go_at_call 8; (with_reducible refine (law27lives _).mono ?_); rintro e w20 ⟨rfl, hb20⟩; obtain ⟨fc20, fg20, hc20, hf20, hz20⟩ := bget hb20; (try simp at hz20)) | fail)
          go_ret
          exact ⟨rfl, by have h1 := HWR.out; (repeat' (first | (with_reducible exact Below.refl _ _) | (with_reducible assumption) | (with_reducible refine Below.alloc ?_ ?_ _) | (with_reducible refine Below.setCell ?_ ?_ _) | (with_reducible refine Below.drew ?_) | (with_reducible refine below_drewN ?_ _) | (with_reducible refine below_via ?_ (by with_reducible assumption) ?_) | omega | (simp; done) | (simp; omega)))⟩
      · rw [show callsR S T = callsL S T from if_pos h0, h0] at cc
        have HCZ := Lib.hid (calls_zero h0)
        have CC := Lib.hid cc
        clear cc h0
        rcases hD with ⟨hD1, hD2, hD⟩ | ⟨hD1, hD2, hD, hD3⟩
        all_goals
          go_wp2_with (first | (go_at_call 12; (with_reducible refine (CT.out _ (by (repeat' (first | (with_reducible exact Below.refl _ _) | (with_reducible assumption) | (with_reducible refine Below.alloc ?_ ?_ _) | (with_reducible refine Below.setCell ?_ ?_ _) | (with_reducible refine Below.drew ?_) | (with_reducible refine below_drewN ?_ _) | (with_reducible refine below_via ?_ (by with_reducible assumption) ?_) | omega | (simp; done) | (simp; omega))))).mono ?_); rintro e w5 ⟨v5, rfl, hown5, hb5⟩; obtain ⟨A5, c5, hv5, hrs5, _⟩ := hown5.rs; (rw [List.length_map] at hv5); subst hv5; have H5 := Lib.hid hrs5.rd; clear hown5 hrs5; obtain ⟨fc5, fg5, hc5, hf5, hz5⟩ := bget hb5; (try simp at hz5)) | (go_at_call 13; (with_reducible refine (CC.out _ _ _ (by have h1 := HWR.out; (repeat' (first | (with_reducible exact Below.refl _ _) | (with_reducible assumption) | (with_reducible refine Below.alloc ?_ ?_ _) | (with_reducible refine Below.setCell ?_ ?_ _) | (with_reducible refine Below.drew ?_) | (with_reducible refine below_drewN ?_ _) | (with_reducible refine below_via ?_ (by with_reducible assumption) ?_) | omega | (simp; done) | (simp; omega)))) (H5.out.keep (by (repeat' (first | (with_reducible exact Below.refl _ _) | (with_reducible assumption) | (with_reducible refine Below.alloc ?_ ?_ _) | (with_reducible refine Below.setCell ?_ ?_ _) | (with_reducible refine Below.drew ?_) | (with_reducible refine below_drewN ?_ _) | (with_reducible refine below_via ?_ (by with_reducible assumption) ?_) | omega | (simp; done) | (simp; omega))))) (HS2.out.keep (by have h1 := Hbl.out; (repeat' (first | (with_reducible exact Below.refl _ _) | (with_reducible assumption) | (with_reducible refine Below.alloc ?_ ?_ _) | (with_reducible refine Below.setCell ?_ ?_ _) | (with_reducible refine Below.drew ?_) | (with_reducible refine below_drewN ?_ _) | (with_reducible refine below_via ?_ (by with_reducible assumption) ?_) | omega | (simp; done) | (simp; omega)))))).mono ?_); rintro e w6 ⟨v6, rfl, hown6, hb6⟩; obtain ⟨A6, c6, hv6, hrs6, _⟩ := hown6.rs; (rw [List.length_map] at hv6); subst hv6; have H6 := Lib.hid hrs6.rd; clear hown6 hrs6; obtain ⟨fc6, fg6, hc6, hf6, hz6⟩ := bget hb6; (try simp at hz6)) | fail)
          have HT5 := Lib.hid (H5.out.keep hb6)
          have Hw6 := Lib.hid (show Below w.heap.size w w6 by have h1 := HWR.out; (repeat' (first | (with_reducible exact Below.refl _ _) | (with_reducible assumption) | (with_reducible refine Below.alloc ?_ ?_ _) | (with_reducible refine Below.setCell ?_ ?_ _) | (with_reducible refine Below.drew ?_) | (with_reducible refine below_drewN ?_ _) | (with_reducible refine below_via ?_ (by with_reducible assumption) ?_) | omega | (simp; done) | (simp; omega))))
          have H26 := Lib.hid (show Below w2.heap.size w2 w6 by have h1 := Hbl.out; (repeat' (first | (with_reducible exact Below.refl _ _) | (with_reducible assumption) | (with_reducible refine Below.alloc ?_ ?_ _) | (with_reducible refine Below.setCell ?_ ?_ _) | (with_reducible refine Below.drew ?_) | (with_reducible refine below_drewN ?_ _) | (with_reducible refine below_via ?_ (by with_reducible assumption) ?_) | omega | (simp; done) | (simp; omega))))
          have hz26 := H26.out.size
          have HB6 := Lib.hid (show (w6.cell? ⟨gs, 0, none⟩ = some (.slice s.ats.A s.ats.val.length s.ats.c) ∧ w6.cell? ⟨gs, 1, none⟩ = some (.slice s.ins.A s.ins.val.length s.ins.c) ∧ w6.cell? ⟨gs, 2, none⟩ = some (.slice s.bk.A s.bk.val.length s.bk.c) ∧ w6.cell? ⟨gs, 3, none⟩ = some (.slice s.pu.A s.pu.val.length s.pu.c) ∧ w6.cell? ⟨gs, 4, none⟩ = some (.slice s.ho.A s.ho.val.length s.ho.c)) from ⟨(H26.out.cell (p := ⟨gs, 0, none⟩) hgs).trans HB.out.1, (H26.out.cell (p := ⟨gs, 1, none⟩) hgs).trans HB.out.2.1, (H26.out.cell (p := ⟨gs, 2, none⟩) hgs).trans HB.out.2.2.1, (H26.out.cell (p := ⟨gs, 3, none⟩) hgs).trans HB.out.2.2.2.1, (H26.out.cell (p := ⟨gs, 4, none⟩) hgs).trans HB.out.2.2.2.2⟩)
          have hg6 : gs < w6.heap.size := by omega
          have HSG := Lib.hid (HS2.out.keep H26.out)
          have hcl := callsL_len S T (fun x hx => by have := (HTG.out x hx).2.1; omega)
          have HCA := Lib.hid (fun i k hi hk h => calls_at (S := S) (T := T) (i := i) (k := k) hi hk h)
          clear hc5 hf5 hb5 hc6 hf6 hb6 y0 y1 y2 y3 y4
          generalize hcle : callsL S T = cl at *
          have HCL := Lib.hid hcle
          clear hcle
          go_loopw [10, 11] (fun n j wr => ∃ i : Nat, i ≤ T.length ∧ j = .int .i64 i ∧ n = .int .i64 ((callsL S (T.take i)).length : Nat) ∧ Below w6.heap.size w6 wr) (fun _ j _ => T.length - (intOf j).toNat)
          case atStart => exact ⟨0, Nat.zero_le _, rfl, rfl, Below.refl _ _⟩
          case round =>
            obtain ⟨i, hi, rfl, rfl, hbl2⟩ := hrel
            have Hbl2 := Lib.hid hbl2
            have hz2 := hbl2.size
            have HW2 := Lib.hid (Hw6.out.trans (hbl2.mono (by omega)))
            clear hbl2
            by_cases hlt : i < T.length
            · have ki : (i : Int) < (T.length : Int) := by omega
              have di : decide ((i : Int) < (T.length : Int)) = true := by simpa using hlt
              obtain ⟨b, o, rfl, hb, hc⟩ := HT5.out i (encAcctV T[i]) (by simp [hlt])
              have HXC := Lib.hid (And.intro (hc 0 _ rfl) (And.intro (hc 1 _ rfl) (And.intro (hc 2 _ rfl) (hc 3 _ rfl))))
              have e0 := (Hbl2.out.cell (p := ⟨b, o + i * 4 + 0, none⟩) hb).trans (hc 0 _ rfl)
              have e1 := (Hbl2.out.cell (p := ⟨b, o + i * 4 + 1, none⟩) hb).trans (hc 1 _ rfl)
              have e2 := (Hbl2.out.cell (p := ⟨b, o + i * 4 + 2, none⟩) hb).trans (hc 2 _ rfl)
              have e3 := (Hbl2.out.cell (p := ⟨b, o + i * 4 + 3, none⟩) hb).trans (hc 3 _ rfl)
              simp only [Nat.add_zero] at e0
              clear hc
              have hbw : b < wr.heap.size := by omega
              have hx := HTG.out T[i] (List.getElem_mem hlt)
              have HCZ1 := Lib.hid (HCZ.out T[i] (List.getElem_mem hlt))
              have hca := HCA.out i
              have HSN := Lib.hid (congrArg List.length (callsL_snoc (S := S) hlt))
              have hun : unitsN (lgA T[i]) = if T[i].kind = 3 ∨ T[i].kind = 4 then unitsA (lgA T[i]) else [⟨T[i].id, 0⟩] := units_kind hx.2.2
              have hln := callsL_len S (T.take i) (fun x hx => by have := (HTG.out x (List.mem_of_mem_take hx)).2.1; omega)
              rw [List.length_take] at hln
              have hul := unitsN_len (lgA T[i])
              rw [show (lgA T[i]).clients.length = T[i].clients.val.length from rfl] at hul
              rw [List.length_append] at HSN
              have HCB := Lib.hid (fun k hk h => hca k hlt hk h)
              have hxl := hx.2.1
              have HXG := Lib.hid hx.1
              clear hca hx
              generalize T[i] = x at *
              generalize (callsL S (T.take i)).length = n0 at *
              have CU := Lib.hid (fun W (h : GoodA W x) => ref15UnitsX x W (by omega) h)
              have b0 : b < w6.heap.size := hb
              have HSH := Lib.hid HSN.out
              clear HSN
              have hkk : (x.kind == 3) = true ∨ ((x.kind == 3) = false ∧ (x.kind == 4) = true) ∨ ((x.kind == 3) = false ∧ (x.kind == 4) = false) := by
                by_cases h3 : x.kind = 3
                · exact .inl (by simpa using h3)
                · by_cases h4 : x.kind = 4
                  · exact .inr (.inl ⟨by simpa using h3, by simpa using h4⟩)
                  · exact .inr (.inr ⟨by simpa using h3, by simpa using h4⟩)
              rcases hkk with h3 | ⟨h3, h4⟩ | ⟨h3, h4⟩
              rotate_left 2
              rw [if_neg (by simp at h3 h4; omega)] at hun
              have HUN := Lib.hid hun
              generalize unitsN (lgA x) = us at *
              clear hun
              focus
                go_upto_region 15 with fail
                go_cut [12] from 58 to 83 (fun v wx => ∃ A c, v = .slice A us.length c ∧ Rs wx 2 (us.map encUn) A c ∧ Below wr.heap.size wr wx)
                case first =>
                  go_wp2_with fail
                  go_meet
                  exact ⟨_, _, by rw [HUN.out]; rfl, by rw [HUN.out]; exact rd_lit (by simp) (by simp [go_sem]) (by simp [go_sem]), by (repeat' (first | (with_reducible exact Below.refl _ _) | (with_reducible assumption) | (with_reducible refine Below.alloc ?_ ?_ _) | (with_reducible refine Below.setCell ?_ ?_ _) | (with_reducible refine Below.drew ?_) | (with_reducible refine below_drewN ?_ _) | (with_reducible refine below_via ?_ (by with_reducible assumption) ?_) | omega | (simp; done) | (simp; omega)))⟩
              obtain ⟨A7, c7, rfl, hrs7, hbc⟩ := hcut
              have e0' := (hbc.cell (p := ⟨b, o + i * 4, none⟩) hbw).trans e0
              have e2' := (hbc.cell (p := ⟨b, o + i * 4 + 2, none⟩) hbw).trans e2
              have hbw' : b < wc.heap.size := Nat.lt_of_lt_of_le hbw hbc.size
              focus go_wp2_with fail
              have H7 := Lib.hid hrs7.rd
              have Hbc := Lib.hid (Hbl2.out.trans (hbc.mono hz2))
              clear hrs7 hbc e0' e2' hbw'
              generalize wc = wi at *
              rotate_left
              rw [if_pos (by simp at h3; omega)] at hun
              have cu := CU.out
              rw [← hun] at cu
              clear CU
              have CU := Lib.hid cu
              clear cu hun
              generalize unitsN (lgA x) = us at *
              focus go_wp2_with (first | (go_at_call 7; (with_reducible refine (CU.out _ (HXG.out.keep (by have h1 := HW2.out; (repeat' (first | (with_reducible exact Below.refl _ _) | (with_reducible assumption) | (with_reducible refine Below.alloc ?_ ?_ _) | (with_reducible refine Below.setCell ?_ ?_ _) | (with_reducible refine Below.drew ?_) | (with_reducible refine below_drewN ?_ _) | (with_reducible refine below_via ?_ (by with_reducible assumption) ?_) | omega | (simp; done) | (simp; omega)))))).mono ?_); rintro e w7 ⟨A7, c7, rfl, hrs7, hb7⟩; have H7 := Lib.hid hrs7.rd; clear hrs7; obtain ⟨fc7, fg7, hc7, hf7, hz7⟩ := bget hb7; (try simp at hz7)) | fail)
              have Hbc := Lib.hid (show Below w6.heap.size w6 w7 by have h1 := Hbl2.out; (repeat' (first | (with_reducible exact Below.refl _ _) | (with_reducible assumption) | (with_reducible refine Below.alloc ?_ ?_ _) | (with_reducible refine Below.setCell ?_ ?_ _) | (with_reducible refine Below.drew ?_) | (with_reducible refine below_drewN ?_ _) | (with_reducible refine below_via ?_ (by with_reducible assumption) ?_) | omega | (simp; done) | (simp; omega))))
              clear hc7 hf7 hb7
              generalize w7 = wi at *
              rotate_left
              rw [if_pos (by simp at h4; omega)] at hun
              have cu := CU.out
              rw [← hun] at cu
              clear CU
              have CU := Lib.hid cu
              clear cu hun
              generalize unitsN (lgA x) = us at *
              focus go_wp2_with (first | (go_at_call 7; (with_reducible refine (CU.out _ (HXG.out.keep (by have h1 := HW2.out; (repeat' (first | (with_reducible exact Below.refl _ _) | (with_reducible assumption) | (with_reducible refine Below.alloc ?_ ?_ _) | (with_reducible refine Below.setCell ?_ ?_ _) | (with_reducible refine Below.drew ?_) | (with_reducible refine below_drewN ?_ _) | (with_reducible refine below_via ?_ (by with_reducible assumption) ?_) | omega | (simp; done) | (simp; omega)))))).mono ?_); rintro e w7 ⟨A7, c7, rfl, hrs7, hb7⟩; have H7 := Lib.hid hrs7.rd; clear hrs7; obtain ⟨fc7, fg7, hc7, hf7, hz7⟩ := bget hb7; (try simp at hz7)) | fail)
              have Hbc := Lib.hid (show Below w6.heap.size w6 w7 by have h1 := Hbl2.out; (repeat' (first | (with_reducible exact Below.refl _ _) | (with_reducible assumption) | (with_reducible refine Below.alloc ?_ ?_ _) | (with_reducible refine Below.setCell ?_ ?_ _) | (with_reducible refine Below.drew ?_) | (with_reducible refine below_drewN ?_ _) | (with_reducible refine below_via ?_ (by with_reducible assumption) ?_) | omega | (simp; done) | (simp; omega))))
              clear hc7 hf7 hb7
              generalize w7 = wi at *
              rotate_left
              all_goals
                have hzc := Hbc.out.size
                clear e0 e1 e2 e3 hbw
                go_loopw [10, 13] (fun n j wr => ∃ k : Nat, k ≤ us.length ∧ j = .int .i64 k ∧ n = .int .i64 ((n0 + (callU S (lgA x) (us.take k)).length : Nat) : Int) ∧ Below wi.heap.size wi wr) (fun _ j _ => us.length - (intOf j).toNat)
                case atStart => exact ⟨0, Nat.zero_le _, rfl, rfl, Below.refl _ _⟩
                case round =>
                  obtain ⟨k, hk, rfl, rfl, hbl3⟩ := hrel
                  have Hbl3 := Lib.hid hbl3
                  have H63 := Lib.hid (Hbc.out.trans (hbl3.mono hzc))
                  have hz3 := H63.out.size
                  have HW3 := Lib.hid (Hw6.out.trans (H63.out.mono (by omega)))
                  clear hbl3
                  by_cases hlt2 : k < us.length
                  · have kk : (k : Int) < (us.length : Int) := by omega
                    have dk : decide ((k : Int) < (us.length : Int)) = true := by simpa using hlt2
                    obtain ⟨b7, o7, rfl, hb7, hc7⟩ := H7.out k (encUn us[k]) (by simp [hlt2])
                    have f0 := (Hbl3.out.cell (p := ⟨b7, o7 + k * 2 + 0, none⟩) hb7).trans (hc7 0 _ rfl)
                    have f1 := (Hbl3.out.cell (p := ⟨b7, o7 + k * 2 + 1, none⟩) hb7).trans (hc7 1 _ rfl)
                    simp only [Nat.add_zero] at f0
                    have hb7w : b7 < wr.heap.size := Nat.lt_of_lt_of_le hb7 Hbl3.out.size
                    have e0 := (H63.out.cell (p := ⟨b, o + i * 4 + 0, none⟩) b0).trans HXC.out.1
                    have e1 := (H63.out.cell (p := ⟨b, o + i * 4 + 1, none⟩) b0).trans HXC.out.2.1
                    have e2 := (H63.out.cell (p := ⟨b, o + i * 4 + 2, none⟩) b0).trans HXC.out.2.2.1
                    have e3 := (H63.out.cell (p := ⟨b, o + i * 4 + 3, none⟩) b0).trans HXC.out.2.2.2
                    simp only [Nat.add_zero] at e0
                    have hbw : b < wr.heap.size := by omega
                    have y0 := (H63.out.cell (p := ⟨gs, 0, none⟩) (by simp; omega)).trans HB6.out.1
                    have y1 := (H63.out.cell (p := ⟨gs, 1, none⟩) (by simp; omega)).trans HB6.out.2.1
                    have y2 := (H63.out.cell (p := ⟨gs, 2, none⟩) (by simp; omega)).trans HB6.out.2.2.1
                    have y3 := (H63.out.cell (p := ⟨gs, 3, none⟩) (by simp; omega)).trans HB6.out.2.2.2.1
                    have y4 := (H63.out.cell (p := ⟨gs, 4, none⟩) (by simp; omega)).trans HB6.out.2.2.2.2
                    have hgw3 : gs < wr.heap.size := by omega
                    clear hc7
                    have hcz := HCZ1.out us[k] (List.getElem_mem hlt2)
                    have hcb := HCB.out k hlt2
                    have hcs := congrArg List.length (callU_snoc (S := S) (x := lgA x) hlt2)
                    have hco : callOne S (lgA x) us[k] = if excN S (lgA x) us[k] < 0 then [⟨us[k], excN S (lgA x) us[k]⟩] else [] := rfl
                    rw [List.length_append, hco] at hcs
                    have hcu := callU_len S (lgA x) (us.take k)
                    rw [List.length_take] at hcu
                    generalize us[k] = u at *
                    have ce := fun W (h : GoodS W s) (h2 : GoodA W x) => CE.out x u W h h2 (by omega)
                    rw [hcz] at ce
                    generalize excN S (lgA x) u = m at *
                    have CEE := Lib.hid ce
                    generalize hpe : n0 + (callU S (lgA x) (us.take k)).length = p at *
                    have hpl : p ≤ 200000 := by omega
                    clear ce hcz hco
                    go_wp2_with fail
                    go_region_held3 (fun w' => (w'.cell? ⟨gs, 0, none⟩ = some (.slice s.ats.A s.ats.val.length s.ats.c) ∧ w'.cell? ⟨gs, 1, none⟩ = some (.slice s.ins.A s.ins.val.length s.ins.c) ∧ w'.cell? ⟨gs, 2, none⟩ = some (.slice s.bk.A s.bk.val.length s.bk.c) ∧ w'.cell? ⟨gs, 3, none⟩ = some (.slice s.pu.A s.pu.val.length s.pu.c) ∧ w'.cell? ⟨gs, 4, none⟩ = some (.slice s.ho.A s.ho.val.length s.ho.c)) ∧ (w'.cell? ⟨b, o + i * 4, none⟩ = some (.int .i64 x.id) ∧ w'.cell? ⟨b, o + i * 4 + 1, none⟩ = some (.int .i64 x.member) ∧ w'.cell? ⟨b, o + i * 4 + 2, none⟩ = some (.int .i64 x.kind) ∧ w'.cell? ⟨b, o + i * 4 + 3, none⟩ = some (.slice x.clients.A x.clients.val.length x.clients.c)) ∧ w'.cell? ⟨b7, o7 + k * 2, none⟩ = some (.int .i64 u.acc) ∧ w'.cell? ⟨b7, o7 + k * 2 + 1, none⟩ = some (.int .i64 u.cli)) (first | (simp [go_sem]; done) | (repeat' (first | (with_reducible assumption) | (with_reducible refine And.intro ?_ ?_) | (with_reducible refine cell_drew ?_) | (with_reducible refine cell_via (by with_reducible assumption) ?_ ?_) | (simp [*]; done) | (simp [go_sem]; done) | (with_reducible refine cell_alloc ?_ ?_) | (with_reducible refine cell_set_far ?_ ?_) | omega | (simp; omega)))) (first | (go_at_call 9; (with_reducible refine (CEE.out _ (HSG.out.keep (by have h1 := H63.out; (repeat' (first | (with_reducible exact Below.refl _ _) | (with_reducible assumption) | (with_reducible refine Below.alloc ?_ ?_ _) | (with_reducible refine Below.setCell ?_ ?_ _) | (with_reducible refine Below.drew ?_) | (with_reducible refine below_drewN ?_ _) | (with_reducible refine below_via ?_ (by with_reducible assumption) ?_) | omega | (simp; done) | (simp; omega))))) (HXG.out.keep (by have h1 := HW3.out; (repeat' (first | (with_reducible exact Below.refl _ _) | (with_reducible assumption) | (with_reducible refine Below.alloc ?_ ?_ _) | (with_reducible refine Below.setCell ?_ ?_ _) | (with_reducible refine Below.drew ?_) | (with_reducible refine below_drewN ?_ _) | (with_reducible refine below_via ?_ (by with_reducible assumption) ?_) | omega | (simp; done) | (simp; omega)))))).mono ?_); rintro e w9 ⟨rfl, hb9⟩; obtain ⟨fc9, fg9, hc9, hf9, hz9⟩ := bget hb9; (try simp at hz9)) | fail)
                    all_goals
                      by_cases hneg : m < 0
                      · have dn : decide (m < 0) = true := by simpa using hneg
                        obtain ⟨hp, hcp⟩ := hcb hneg
                        rw [if_pos hneg] at hcs
                        obtain ⟨b6, o6, rfl, hb6, hc6⟩ := H6.out p (encFlow cl[p]) (by simp [hp])
                        have h69 := H63.out.trans ((show Below wr.heap.size wr w9 by (repeat' (first | (with_reducible exact Below.refl _ _) | (with_reducible assumption) | (with_reducible refine Below.alloc ?_ ?_ _) | (with_reducible refine Below.setCell ?_ ?_ _) | (with_reducible refine Below.drew ?_) | (with_reducible refine below_drewN ?_ _) | (with_reducible refine below_via ?_ (by with_reducible assumption) ?_) | omega | (simp; done) | (simp; omega)))).mono hz3)
                        have q0 := (h69.cell (p := ⟨b6, o6 + p * 3 + 0, none⟩) hb6).trans (hc6 0 _ rfl)
                        have q1 := (h69.cell (p := ⟨b6, o6 + p * 3 + 1, none⟩) hb6).trans (hc6 1 _ rfl)
                        have q2 := (h69.cell (p := ⟨b6, o6 + p * 3 + 2, none⟩) hb6).trans (hc6 2 _ rfl)
                        simp only [Nat.add_zero] at q0
                        rw [hcp] at q0 q1 q2
                        dsimp only at q0 q1 q2
                        have hpi : (p : Int) < (cl.length : Int) := by omega
                        have hpd : decide ((cl.length : Int) ≤ (p : Int)) = false := by simp; omega
                        have hpn : decide (cl.length ≤ p) = false := by simp; omega
                        have hb6w : b6 < w9.heap.size := Nat.lt_of_lt_of_le hb6 h69.size
                        have HCS := Lib.hid hcs
                        clear hcb hcs hcp hc6 h69 hneg hc9 hf9
                        go_wp2_with fail
                        go_quiet (fail)
                        go_wp2_with fail
                        go_roundw
                        case rel => exact ⟨k + 1, by omega, by go_num, by rw [HCS.out]; go_num, by have h1 := Hbl3.out; have h2 := h1.size; (repeat' (first | (with_reducible exact Below.refl _ _) | (with_reducible assumption) | (with_reducible refine Below.alloc ?_ ?_ _) | (with_reducible refine Below.setCell ?_ ?_ _) | (with_reducible refine Below.drew ?_) | (with_reducible refine below_drewN ?_ _) | (with_reducible refine below_via ?_ (by with_reducible assumption) ?_) | omega | (simp; done) | (simp; omega)))⟩
                        case measure => simp [intOf]; omega
                      · have dn : decide (m < 0) = false := by simpa using hneg
                        rw [if_neg hneg] at hcs
                        have HCS := Lib.hid hcs
                        clear hcb hcs hneg
                        go_wp2_with fail
                        go_quiet (fail)
                        go_wp2_with fail
                        go_roundw
                        case rel => exact ⟨k + 1, by omega, by go_num, by rw [HCS.out]; go_num, by have h1 := Hbl3.out; have h2 := h1.size; (repeat' (first | (with_reducible exact Below.refl _ _) | (with_reducible assumption) | (with_reducible refine Below.alloc ?_ ?_ _) | (with_reducible refine Below.setCell ?_ ?_ _) | (with_reducible refine Below.drew ?_) | (with_reducible refine below_drewN ?_ _) | (with_reducible refine below_via ?_ (by with_reducible assumption) ?_) | omega | (simp; done) | (simp; omega)))⟩
                        case measure => simp [intOf]; omega
                  · have dk : decide ((k : Int) < (us.length : Int)) = false := by simpa using hlt2
                    have HT := Lib.hid (List.take_of_length_le (show us.length ≤ k by omega))
                    go_wp2_with fail
                    go_roundw
                    case rel => exact ⟨i + 1, by omega, by go_num, by rw [HSH.out, HT.out], by have h1 := H63.out; (repeat' (first | (with_reducible exact Below.refl _ _) | (with_reducible assumption) | (with_reducible refine Below.alloc ?_ ?_ _) | (with_reducible refine Below.setCell ?_ ?_ _) | (with_reducible refine Below.drew ?_) | (with_reducible refine below_drewN ?_ _) | (with_reducible refine below_via ?_ (by with_reducible assumption) ?_) | omega | (simp; done) | (simp; omega)))⟩
                    case measure => simp [intOf]; omega
            · have di : decide ((i : Int) < (T.length : Int)) = false := by simpa using hlt
              rw [show T.take i = T from List.take_of_length_le (by omega), HCL.out]
              go_wp2_with (first | (go_at_call 8; (with_reducible refine (law27lives _).mono ?_); rintro e w20 ⟨rfl, hb20⟩; obtain ⟨fc20, fg20, hc20, hf20, hz20⟩ := bget hb20; (try simp at hz20)) | fail)
              go_ret
              exact ⟨rfl, by have h1 := HW2.out; (repeat' (first | (with_reducible exact Below.refl _ _) | (with_reducible assumption) | (with_reducible refine Below.alloc ?_ ?_ _) | (with_reducible refine Below.setCell ?_ ?_ _) | (with_reducible refine Below.drew ?_) | (with_reducible refine below_drewN ?_ _) | (with_reducible refine below_via ?_ (by with_reducible assumption) ?_) | omega | (simp; done) | (simp; omega)))⟩
end Go.Proofs.YtalgfpegaobacaaGreat

/- What every law's row asks of the call's end: the arguments read on as they did, where nothing below the heap's old size has turned. -/
namespace Go.Proofs.YtalgfpegaobacaaGreat
open Go.ChangeShapes Go.WideShapes Go.ChangeAt Go.RowKit Go.Joins
theorem Tryz.own : ownKnob Tryz.prog.godebug = none := by kernel_rfl
theorem Tryz.laidOut : laidOutB Tryz.prog = true := by kernel_rfl
theorem in64_of_wf {x : Int} (h : (Lit.int .i64 x).wf = true) : In64 x := by
  simp [Lit.wf, IntKind.min, IntKind.max, IntKind.signed, IntKind.bits] at h
  exact ⟨by omega, by omega⟩
theorem reads_on {H : Type} {enc : TypeId × Value → H} {W W' : World} (hb : Below W.heap.size W W') : ∀ {ts : List TypeId} {vs : List Value} {ds : List (DataW H)} {ps : List MemPlace},
    (∀ t ∈ ts, Tryz.prog.readableRec t = true ∧ t < Tryz.prog.types.size) → DataW.TrodAll enc Tryz.prog W 0 (fun _ => true) true ts vs ds ps → (∀ x ∈ ps, x.block < W.heap.size) →
    DataW.TrodAll enc Tryz.prog W' 0 (fun b => decide (b < W.heap.size)) true ts vs ds ps
  | [], _, _, _, _, h, _ => by
    obtain ⟨rfl, rfl, rfl⟩ := trodAll_nil h
    exact trodAll_mk0
  | t :: ts, _, _, _, ht, h, hl => by
    obtain ⟨v, vs, d, ds, p, q, rfl, rfl, rfl, h1, h2⟩ := trodAll_cons h
    have h3 := ht t (by simp)
    exact ⟨p, q, Below.trod Tryz.laidOut h3.1 h3.2 h1 hb (fun x hx => hl x (by simp [hx])), reads_on hb (fun t ht' => ht t (by simp [ht'])) h2 (fun x hx => hl x (by simp [hx])), rfl⟩
theorem law_ends {H : Type} {enc : TypeId × Value → H} {f : Func} {s : ChangeSpec} {W W' : World} {args : Array Value} {ds gs : List (DataW H)} {before : List MemPlace}
    (hW : DataW.Whole enc Tryz.prog f.params.toList s.vars false W args.toList ds gs before) (hvars : s.vars = []) (hts : ∀ t ∈ f.params.toList, Tryz.prog.readableRec t = true ∧ t < Tryz.prog.types.size)
    (hrt : f.resultTypes = #[4]) (hr : (s.fn H (ds ++ gs)).results = [.lit (.bool true)]) (ha : (s.fn H (ds ++ gs)).args = ds) (hv : (s.fn H (ds ++ gs)).vars = []) (hb : Below W.heap.size W W') :
    s.post enc Tryz.prog f false true false false W args (.bool true) W' := by
  have hW' := hW
  obtain ⟨p, q, hA, hV, rfl, hfz, hnd⟩ := hW
  rw [hvars] at hV
  obtain ⟨rfl, rfl⟩ := trodVars_none hV
  refine ⟨ds, [], _, [], p, [], hW', ?_, ?_, ?_, hb.frame _, fun h => by cases h⟩
  · rw [hrt, hr]; exact trodAll_mk1 (shut_bool Tryz.underlying4 _)
  · rw [ha]; exact reads_on hb hts hA (fun x hx => by simpa using hW'.lt x (by simp [hx]))
  · rw [hv, hvars]; rfl
end Go.Proofs.YtalgfpegaobacaaGreat

/- A slice, handed in: the list that it reads as. -/
namespace Go.Proofs.YtalgfpegaobacaaGreat
open Go.ChangeShapes Go.WideShapes Go.ChangeAt Go.RowKit Go.Joins Go.Deep
theorem block_lt {w : World} {a : Addr} {v : Value} (h : w.cell? a = some v) : a.block < w.heap.size := by
  rcases Nat.lt_or_ge a.block w.heap.size with h1 | h1
  · exact h1
  · unfold World.cell? at h
    rw [Array.getElem?_eq_none h1] at h
    split at h <;> simp_all
theorem list_choose {α : Type} {n : Nat} {p : Nat → α → Prop} (h : ∀ i, i < n → ∃ x, p i x) : ∃ l : List α, l.length = n ∧ ∀ i (hi : i < l.length), p i l[i] := by
  induction n with
  | zero => exact ⟨[], rfl, fun i hi => absurd hi (by simp)⟩
  | succ n ih =>
    obtain ⟨l, hl, hp⟩ := ih (fun i hi => h i (by omega))
    obtain ⟨x, hx⟩ := h n (by omega)
    refine ⟨l ++ [x], by simp [hl], fun i hi => ?_⟩
    simp at hi
    rcases Nat.lt_or_ge i l.length with h1 | h1
    · rw [List.getElem_append_left h1]; exact hp i h1
    · obtain rfl : i = l.length := by omega
      simp [hl]; exact hx
theorem slice_open0 {H : Type} {enc : TypeId × Value → H} {P : Program} {w : World} {spare : Nat → Bool} {held : Bool} {t e : TypeId} {k : Nat} {α : Type} {ok : α → Prop} {enc1 : α → List Value} {fuel : Nat} {cs0 : List Value} {y0 : DataW H × List MemPlace}
    (ht : P.underlying t = some (.slice e)) (ce : P.cellsOf e = k) (helem : ∀ (cs : List Value) (n : Nat) y, cs.length = k → DataW.trod enc P w 0 spare held n e cs = some y → ∃ x : α, ok x ∧ cs = enc1 x)
    (hk : ∀ x, ok x → (enc1 x).length = k) (hk0 : 0 < k) (hf : DataW.trod enc P w 0 spare held fuel t cs0 = some y0) :
    ∃ (l : List α) (A : Option Addr) (c : Nat), cs0 = [.slice A l.length c] ∧ (∀ x ∈ l, ok x) ∧ l.length ≤ c ∧ c ≤ maxLen ∧ (A = none → c = 0) ∧ Rd w A k (l.map enc1) := by
  rcases open_slice ht hf with ⟨hcs, _⟩ | ⟨a, len, cap, m, n, D, Pl, hcs, _, hl, hm, hmm, _, hall⟩
  · subst hcs
    exact ⟨[], none, 0, rfl, by simp, by simp, by simp, fun _ => rfl, fun i r hr => by simp at hr⟩
  · subst hcs
    have each : ∀ i, i < len → ∃ x : α, ok x ∧ ∀ j v, (enc1 x)[j]? = some v → w.cell? ((a.add (i * k)).add j) = some v := by
      intro i hi
      obtain ⟨cs, h1, h2⟩ := hall i (by rw [hmm]; split <;> omega)
      rw [ce] at h1
      obtain ⟨_, hlen, hcell⟩ := World.cells?_some h1
      obtain ⟨x, hx, rfl⟩ := helem cs n _ hlen h2
      refine ⟨x, hx, fun j v hv => ?_⟩
      have hj : j < k := by
        rw [← hlen]
        rcases Nat.lt_or_ge j (enc1 x).length with h3 | h3
        · exact h3
        · rw [List.getElem?_eq_none h3] at hv; cases hv
      rw [hcell j hj, hv]
    obtain ⟨l, hll, hp⟩ := list_choose each
    subst hll
    refine ⟨l, some a, cap, rfl, fun x hx => ?_, hl, hm, (fun h => by cases h), fun i r hr => ?_⟩
    · obtain ⟨i, hi, rfl⟩ := List.mem_iff_getElem.1 hx
      exact (hp i hi).1
    · rw [List.getElem?_map] at hr
      cases hli : l[i]? with
      | none => rw [hli] at hr; cases hr
      | some x =>
        rw [hli] at hr
        simp at hr
        subst hr
        obtain ⟨hi, rfl⟩ := List.getElem?_eq_some_iff.1 hli
        have hp2 := (hp i hi).2
        have hlk := hk _ (hp i hi).1
        obtain ⟨u, hu⟩ : ∃ u, (enc1 l[i])[0]? = some u := ⟨(enc1 l[i])[0], List.getElem?_eq_getElem (by omega)⟩
        have h0 := hp2 0 u hu
        obtain ⟨b, off, spot⟩ := a
        have hb : b < w.heap.size := by
          have := block_lt h0
          unfold Addr.add at this
          split at this <;> split at this <;> exact this
        by_cases hi0 : i = 0
        · subst hi0
          have hspot : spot = none := by simpa [Addr.add] using World.cell?_spot h0
          subst hspot
          refine ⟨b, off, rfl, hb, fun j v hv => ?_⟩
          have := hp2 j v hv
          rwa [add_plain, add_plain] at this
        · have hl0 : 0 < l.length := by omega
          have hlk0 := hk _ (hp 0 hl0).1
          obtain ⟨u0, hu0⟩ : ∃ u, (enc1 l[0])[0]? = some u := ⟨(enc1 l[0])[0], List.getElem?_eq_getElem (by omega)⟩
          have h00 := (hp 0 hl0).2 0 u0 hu0
          have hspot : spot = none := by simpa [Addr.add] using World.cell?_spot h00
          subst hspot
          refine ⟨b, off, rfl, hb, fun j v hv => ?_⟩
          have := hp2 j v hv
          rwa [add_plain, add_plain] at this
/-- A slice handed in, read row by row by a relation. -/
theorem slice_rel {H : Type} {enc : TypeId × Value → H} {P : Program} {w : World} {spare : Nat → Bool} {held : Bool} {t e : TypeId} {k : Nat} {α : Type} {R : List Value → α → Prop} {fuel : Nat} {cs0 : List Value} {y0 : DataW H × List MemPlace}
    (ht : P.underlying t = some (.slice e)) (ce : P.cellsOf e = k) (helem : ∀ (cs : List Value) (n : Nat) y, cs.length = k → DataW.trod enc P w 0 spare held n e cs = some y → ∃ x : α, R cs x ∧ cs.length = k)
    (hk0 : 0 < k) (hf : DataW.trod enc P w 0 spare held fuel t cs0 = some y0) :
    ∃ (l : List α) (rows : List (List Value)) (A : Option Addr) (c : Nat), cs0 = [.slice A l.length c] ∧ Each R rows l ∧ Rs w k rows A c := by
  obtain ⟨rows, A, c, h1, h2, h3, h4, h5, h6⟩ := slice_open0 (α := List Value) (ok := fun r => (∃ x, R r x) ∧ r.length = k) (enc1 := fun r => r) ht ce (fun cs n y hl hy => by
    obtain ⟨x, hx, hlen⟩ := helem cs n y hl hy
    exact ⟨cs, ⟨⟨x, hx⟩, hlen⟩, rfl⟩) (fun r h => h.2) hk0 hf
  obtain ⟨l, hl, hp⟩ := list_choose (n := rows.length) (p := fun i x => ∃ r, rows[i]? = some r ∧ R r x) (fun i hi => by
    obtain ⟨⟨x, hx⟩, _⟩ := h2 rows[i] (List.getElem_mem hi)
    exact ⟨x, rows[i], List.getElem?_eq_getElem hi, hx⟩)
  rw [List.map_id'] at h6
  refine ⟨l, rows, A, c, by rw [hl]; exact h1, ⟨hl.symm, fun i a b ha hb => ?_⟩, ⟨h6, h3, h4, h5⟩⟩
  obtain ⟨hi, rfl⟩ := List.getElem?_eq_some_iff.1 hb
  obtain ⟨r, hr, hx⟩ := hp i hi
  rw [ha] at hr
  injection hr with hr
  subst hr
  exact hx
end Go.Proofs.YtalgfpegaobacaaGreat

/- Assets handed in. -/
namespace Go.Proofs.YtalgfpegaobacaaGreat
open Go.ChangeShapes Go.WideShapes Go.ChangeAt Go.RowKit Go.Joins
set_option maxRecDepth 100000 in
theorem Asset_cells {H : Type} {enc : TypeId × Value → H} {W : World} {spare : Nat → Bool} {held : Bool} (cs : List Value) (n : Nat) (y : DataW H × List MemPlace) (hlen : cs.length = 3) (h : DataW.trod enc Tryz.prog W 0 spare held n 63 cs = some y) : ∃ x : Asset, okAsset x ∧ cs = encAsset x := by
  obtain ⟨xs, n, _, rfl, _, hxs, hf⟩ := DataW.trod_struct Tryz.underlying63 h
  match cs, hlen, xs, hxs with
  | [c0, c1, c2], _, [y0, y1, y2], _ =>
    have h0 : DataW.trod enc Tryz.prog W 0 spare held n 3 (([c0, c1, c2].drop 0).take (Tryz.prog.cellsOf 3)) = some y0 := hf 0 _ rfl
    have h1 : DataW.trod enc Tryz.prog W 0 spare held n 2 (([c0, c1, c2].drop 1).take (Tryz.prog.cellsOf 2)) = some y1 := hf 1 _ rfl
    have h2 : DataW.trod enc Tryz.prog W 0 spare held n 2 (([c0, c1, c2].drop 2).take (Tryz.prog.cellsOf 2)) = some y2 := hf 2 _ rfl
    obtain ⟨x0, e0, _, w0⟩ := DataW.trod_int (k := .i64) (by kernel_rfl) h0
    rw [show Tryz.prog.cellsOf _ = 1 from by kernel_rfl] at e0
    simp at e0
    subst e0
    obtain ⟨x1, e1, _, w1⟩ := DataW.trod_int (k := .i64) (by kernel_rfl) h1
    rw [show Tryz.prog.cellsOf _ = 1 from by kernel_rfl] at e1
    simp at e1
    subst e1
    obtain ⟨x2, e2, _, w2⟩ := DataW.trod_int (k := .i64) (by kernel_rfl) h2
    rw [show Tryz.prog.cellsOf _ = 1 from by kernel_rfl] at e2
    simp at e2
    subst e2
    exact ⟨⟨x0, x1, x2⟩, ⟨in64_of_wf w0, in64_of_wf w1, in64_of_wf w2⟩, rfl⟩
end Go.Proofs.YtalgfpegaobacaaGreat

/- Rows of whole numbers handed in. -/
namespace Go.Proofs.YtalgfpegaobacaaGreat
open Go.ChangeShapes Go.WideShapes Go.ChangeAt Go.RowKit Go.Joins
set_option maxRecDepth 100000 in
theorem J_cells {H : Type} {enc : TypeId × Value → H} {W : World} {spare : Nat → Bool} {held : Bool} {t : TypeId} (ht : (t = 2 ∨ t = 3)) (cs : List Value) (n : Nat) (y : DataW H × List MemPlace) (_hlen : cs.length = 1) (h : DataW.trod enc Tryz.prog W 0 spare held n t cs = some y) : ∃ x : Int, In64 x ∧ cs = encI x := by
  rcases ht with rfl | rfl
  · obtain ⟨x0, e0, _, w0⟩ := DataW.trod_int (k := .i64) (by kernel_rfl) h
    exact ⟨x0, in64_of_wf w0, e0⟩
  · obtain ⟨x0, e0, _, w0⟩ := DataW.trod_int (k := .i64) (by kernel_rfl) h
    exact ⟨x0, in64_of_wf w0, e0⟩
/-- The cell of a slice of whole numbers. -/
structure IntsC (W : World) (cs : List Value) (l : List Int) (A : Option Addr) (c : Nat) : Prop where
  eq : cs = [.slice A l.length c]
  ok : ∀ x ∈ l, In64 x
  rs : Rs W 1 (l.map encI) A c
set_option maxRecDepth 100000 in
theorem ints_cells {H : Type} {enc : TypeId × Value → H} {W : World} {spare : Nat → Bool} {held : Bool} {n : Nat} {cs : List Value} {y : DataW H × List MemPlace} (h : DataW.trod enc Tryz.prog W 0 spare held n 68 cs = some y) : ∃ l A c, IntsC W cs l A c := by
  obtain ⟨l, A, c, h1, h2, h3, h4, h5, h6⟩ := slice_open0 (enc1 := encI) Tryz.underlying68 (by kernel_rfl) (fun cs n y => J_cells (.inl rfl) cs n y) (fun _ _ => rfl) (by omega) h
  exact ⟨l, A, c, h1, h2, h6, by rw [List.length_map]; exact h3, h4, h5⟩
set_option maxRecDepth 100000 in
theorem nats_cells {H : Type} {enc : TypeId × Value → H} {W : World} {spare : Nat → Bool} {held : Bool} {n : Nat} {cs : List Value} {y : DataW H × List MemPlace} (h : DataW.trod enc Tryz.prog W 0 spare held n 29 cs = some y) : ∃ l A c, IntsC W cs l A c := by
  obtain ⟨l, A, c, h1, h2, h3, h4, h5, h6⟩ := slice_open0 (enc1 := encI) Tryz.underlying29 (by kernel_rfl) (fun cs n y => J_cells (.inr rfl) cs n y) (fun _ _ => rfl) (by omega) h
  exact ⟨l, A, c, h1, h2, h6, by rw [List.length_map]; exact h3, h4, h5⟩
end Go.Proofs.YtalgfpegaobacaaGreat

/- Instruments handed in. -/
namespace Go.Proofs.YtalgfpegaobacaaGreat
open Go.ChangeShapes Go.WideShapes Go.ChangeAt Go.RowKit Go.Joins
def okInst (x : Inst) : Prop := In64 x.id ∧ In64 x.mult ∧ In64 x.price ∧ In64 x.next ∧ ∀ m ∈ x.moves, In64 m
set_option maxRecDepth 100000 in
theorem Inst_cells {H : Type} {enc : TypeId × Value → H} {W : World} {spare : Nat → Bool} {held : Bool} (cs : List Value) (n : Nat) (y : DataW H × List MemPlace) (hlen : cs.length = 5) (h : DataW.trod enc Tryz.prog W 0 spare held n 91 cs = some y) :
    ∃ (x : Inst) (A : Option Addr) (c : Nat), okInst x ∧ cs = [.int .i64 x.id, .int .i64 x.mult, .int .i64 x.price, .int .i64 x.next, .slice A x.moves.length c] ∧ Rs W 1 (x.moves.map encI) A c := by
  obtain ⟨xs, n, _, rfl, _, hxs, hf⟩ := DataW.trod_struct Tryz.underlying91 h
  match cs, hlen, xs, hxs with
  | [c0, c1, c2, c3, c4], _, [y0, y1, y2, y3, y4], _ =>
    have h0 : DataW.trod enc Tryz.prog W 0 spare held n 3 (([c0, c1, c2, c3, c4].drop 0).take (Tryz.prog.cellsOf 3)) = some y0 := hf 0 _ rfl
    have h1 : DataW.trod enc Tryz.prog W 0 spare held n 2 (([c0, c1, c2, c3, c4].drop 1).take (Tryz.prog.cellsOf 2)) = some y1 := hf 1 _ rfl
    have h2 : DataW.trod enc Tryz.prog W 0 spare held n 2 (([c0, c1, c2, c3, c4].drop 2).take (Tryz.prog.cellsOf 2)) = some y2 := hf 2 _ rfl
    have h3 : DataW.trod enc Tryz.prog W 0 spare held n 2 (([c0, c1, c2, c3, c4].drop 3).take (Tryz.prog.cellsOf 2)) = some y3 := hf 3 _ rfl
    have h4 : DataW.trod enc Tryz.prog W 0 spare held n 68 (([c0, c1, c2, c3, c4].drop 4).take (Tryz.prog.cellsOf 68)) = some y4 := hf 4 _ rfl
    obtain ⟨x0, e0, _, w0⟩ := DataW.trod_int (k := .i64) (by kernel_rfl) h0
    obtain ⟨x1, e1, _, w1⟩ := DataW.trod_int (k := .i64) (by kernel_rfl) h1
    obtain ⟨x2, e2, _, w2⟩ := DataW.trod_int (k := .i64) (by kernel_rfl) h2
    obtain ⟨x3, e3, _, w3⟩ := DataW.trod_int (k := .i64) (by kernel_rfl) h3
    obtain ⟨l, A, c, e4⟩ := ints_cells h4
    have e5 := e4.eq
    rw [show Tryz.prog.cellsOf _ = 1 from by kernel_rfl] at e0 e1 e2 e3 e5
    simp at e0 e1 e2 e3 e5
    subst e0 e1 e2 e3 e5
    exact ⟨⟨x0, x1, x2, x3, l⟩, A, c, ⟨in64_of_wf w0, in64_of_wf w1, in64_of_wf w2, in64_of_wf w3, e4.ok⟩, rfl, e4.rs⟩
end Go.Proofs.YtalgfpegaobacaaGreat
