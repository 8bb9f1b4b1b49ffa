/- Joined: InstS, Ref13T, Ref13U, Dig0. -/
import Derived.Test.YtpjehhkmdndcmaaJz11
import Derived.Deep.CutRange
import Derived.Deep.DeepCutAuto
import Derived.Lib.ItoaNum
/- Instruments in tables: contracts of inst.Next, Settle. -/
namespace Go.Proofs.Ytpjehhkmdndcmaa
open Go.RowKit
def nextOne (id p : Int) (x : InstV) : InstV := if x.id == id then { x with next := p } else x
def nextC (l : List InstV) (id p : Int) : Int := if (findInstV l id).2 then (if pricedI p then 0 else 2) else 11
def nextL (l : List InstV) (id p : Int) : List InstV := if (findInstV l id).2 = true ∧ pricedI p = true then l.map (nextOne id p) else []
theorem next_set {l : List InstV} {id p : Int} {k : Nat} (hs : SortedInstV l) (hk : k < l.length) (hm : (l[k].id == id) = true) : l.map (nextOne id p) = l.set k { l[k] with next := p } := by
  apply List.ext_getElem (by simp)
  intro j h1 h2
  simp at h1
  rw [List.getElem_set, List.getElem_map]
  have hkm : l[k].id = id := by simpa using hm
  split
  · rename_i e; subst e; unfold nextOne; rw [hm]; rfl
  · have hne : (l[j].id == id) = false := by
      have hp := List.pairwise_iff_getElem.1 hs
      rcases Nat.lt_or_ge j k with h3 | h3
      · have := hp j k h1 hk h3; simp; omega
      · have := hp k j hk h1 (by omega); simp; omega
    unfold nextOne; rw [hne]; rfl
set_option maxRecDepth 100000 in
set_option maxHeartbeats 8000000 in
theorem instNext (l : List InstV) (id p : Int) (A : Option Addr) (c : Nat) (w : World) (hl : l.length ≤ 900000) (hs : SortedInstV l) (hr : Rs w 5 (l.map encInstV) A c) (hg : ∀ x ∈ l, x.moves.val.length ≤ 1048576 ∧ GoodI w x) :
    Calls Try.prog 39 #[.slice A l.length c, .int .i64 id, .int .i64 p] w (InstPost w ((nextL l id p).map lgI) (nextC l id p)) := by
  have HR := Lib.hid hr
  have c1 := fun W => instPriced p W
  have c2 := fun W (h : Rd W A 5 (l.map encInstV)) => instAt l id A c W (by omega) h
  clear hr
  rcases idx_findV l id with ⟨k, hk, hm, hn, he, hf⟩ | ⟨hn, he, hf⟩
  rotate_left
  · have hf2 : (findInstV l id).2 = false := by rw [hf]
    rw [he] at c2
    have hp : nextL l id p = [] := by unfold nextL; rw [hf2, if_neg (by simp)]
    have hq : nextC l id p = 11 := by unfold nextC; rw [hf2]; rfl
    have HP := Lib.hid hp
    have HQ := Lib.hid hq
    have C2 := Lib.hid c2
    clear c1 c2 hp hq hf hf2 hg hn he hs
    go_enter Try.func39, Try.ntmps39
    go_wp2_with (first | (go_at_call 77; (with_reducible refine (C2.out _ (HR.out.rd.keep (by (repeat' (first | (with_reducible exact Below.refl _ _) | (with_reducible assumption) | (with_reducible refine Below.alloc ?_ ?_ _) | (with_reducible refine Below.setCell ?_ ?_ _) | (with_reducible refine Below.drew ?_) | (with_reducible refine below_drewN ?_ _) | (with_reducible refine below_via ?_ (by with_reducible assumption) ?_) | omega | (simp; done) | (simp; omega)))))).mono ?_); rintro e w2 ⟨rfl, hb2⟩; obtain ⟨fc2, fg2, hc2, hf2, hz2⟩ := bget hb2; try simp at hz2) | fail)
    go_ret2
    exact ⟨_, [], by rw [HQ.out]; rfl, by rw [HP.out], Own.nil _ _ _ _, fun y hy => absurd hy (by simp), by (repeat' (first | (with_reducible exact Below.refl _ _) | (with_reducible assumption) | (with_reducible refine Below.alloc ?_ ?_ _) | (with_reducible refine Below.setCell ?_ ?_ _) | (with_reducible refine Below.drew ?_) | (with_reducible refine below_drewN ?_ _) | (with_reducible refine below_via ?_ (by with_reducible assumption) ?_) | omega | (simp; done) | (simp; omega)))⟩
  have hf2 : (findInstV l id).2 = true := by rw [hf]
  rw [he] at c2
  have kk : decide ((k : Int) < 0) = false := by simp
  cases hpr : pricedI p
  · have hp : nextL l id p = [] := by unfold nextL; rw [hpr, if_neg (by simp)]
    have hq : nextC l id p = 2 := by unfold nextC; rw [hf2, hpr]; rfl
    rw [hpr] at c1
    have HP := Lib.hid hp
    have HQ := Lib.hid hq
    have C1 := Lib.hid c1
    have C2 := Lib.hid c2
    clear c1 c2 hp hq hf hf2 hg hn he hs hm hpr
    go_enter Try.func39, Try.ntmps39
    go_wp2_with (first | (go_at_call 77; (with_reducible refine (C2.out _ (HR.out.rd.keep (by (repeat' (first | (with_reducible exact Below.refl _ _) | (with_reducible assumption) | (with_reducible refine Below.alloc ?_ ?_ _) | (with_reducible refine Below.setCell ?_ ?_ _) | (with_reducible refine Below.drew ?_) | (with_reducible refine below_drewN ?_ _) | (with_reducible refine below_via ?_ (by with_reducible assumption) ?_) | omega | (simp; done) | (simp; omega)))))).mono ?_); rintro e w2 ⟨rfl, hb2⟩; obtain ⟨fc2, fg2, hc2, hf2, hz2⟩ := bget hb2; try simp at hz2) | (go_at_call 60; (with_reducible refine (C1.out _).mono ?_); rintro e w1 ⟨rfl, hb1⟩; obtain ⟨fc1, fg1, hc1, hf1, hz1⟩ := bget hb1; try simp at hz1) | fail)
    go_ret2
    exact ⟨_, [], by rw [HQ.out]; rfl, by rw [HP.out], Own.nil _ _ _ _, fun y hy => absurd hy (by simp), by (repeat' (first | (with_reducible exact Below.refl _ _) | (with_reducible assumption) | (with_reducible refine Below.alloc ?_ ?_ _) | (with_reducible refine Below.setCell ?_ ?_ _) | (with_reducible refine Below.drew ?_) | (with_reducible refine below_drewN ?_ _) | (with_reducible refine below_via ?_ (by with_reducible assumption) ?_) | omega | (simp; done) | (simp; omega)))⟩
  have hp : nextL l id p = l.set k { l[k] with next := p } := by unfold nextL; rw [hf2, hpr, if_pos ⟨rfl, rfl⟩]; exact next_set hs hk hm
  have hq : nextC l id p = 0 := by unfold nextC; rw [hf2, hpr]; rfl
  rw [hpr] at c1
  have HP := Lib.hid hp
  have HQ := Lib.hid hq
  have C1 := Lib.hid c1
  have C2 := Lib.hid c2
  have HG := Lib.hid (fun W (h : Below w.heap.size w W) => instCopied l A c W (by omega) (HR.out.rd.keep h) (fun x hx => ⟨(hg x hx).1, (hg x hx).2.keep h⟩))
  clear c1 c2 hp hq hf hf2 hg hn he hs hm hpr
  go_enter Try.func39, Try.ntmps39
  go_upto_region 7 with (first | (go_at_call 77; (with_reducible refine (C2.out _ (HR.out.rd.keep (by (repeat' (first | (with_reducible exact Below.refl _ _) | (with_reducible assumption) | (with_reducible refine Below.alloc ?_ ?_ _) | (with_reducible refine Below.setCell ?_ ?_ _) | (with_reducible refine Below.drew ?_) | (with_reducible refine below_drewN ?_ _) | (with_reducible refine below_via ?_ (by with_reducible assumption) ?_) | omega | (simp; done) | (simp; omega)))))).mono ?_); rintro e w2 ⟨rfl, hb2⟩; obtain ⟨fc2, fg2, hc2, hf2, hz2⟩ := bget hb2; try simp at hz2) | (go_at_call 60; (with_reducible refine (C1.out _).mono ?_); rintro e w1 ⟨rfl, hb1⟩; obtain ⟨fc1, fg1, hc1, hf1, hz1⟩ := bget hb1; try simp at hz1) | (go_at_call 81; (with_reducible refine (HG.out _ (by (repeat' (first | (with_reducible exact Below.refl _ _) | (with_reducible assumption) | (with_reducible refine Below.alloc ?_ ?_ _) | (with_reducible refine Below.setCell ?_ ?_ _) | (with_reducible refine Below.drew ?_) | (with_reducible refine below_drewN ?_ _) | (with_reducible refine below_via ?_ (by with_reducible assumption) ?_) | omega | (simp; done) | (simp; omega))))).mono ?_); rintro e w3 ⟨v3, ys, rfl, hlg3, hown3, hys3, hb3⟩; have HYL := Lib.hid (show ys.length = l.length from by have := congrArg List.length hlg3; simpa using this); have HL3 := Lib.hid hlg3; have HO3 := Lib.hid hown3; have HY3 := Lib.hid hys3; clear hown3 hlg3 hys3; obtain ⟨fc3, fg3, hc3, hf3, hz3⟩ := bget hb3; (try simp at hz3)) | fail)
  have hky : k < ys.length := by rw [HYL.out]; exact hk
  have kyi : (k : Int) < (ys.length : Int) := by omega
  obtain ⟨A3, c3, hv3, _, _⟩ := HO3.out.rs
  rw [List.length_map] at hv3
  subst hv3
  obtain ⟨g, rfl, hg1, hg2⟩ := HO3.out.at (by rw [List.length_map]; omega)
  obtain ⟨cur, hblk⟩ := HO3.out.blk rfl
  have fz := fun i => hblk.frozen i
  have HT := Lib.hid HO3.out.typed
  obtain ⟨b', o', e', hb', hcc⟩ := (HO3.out.rd).1 k (encInstV ys[k]) (by simp [hky])
  injection e' with e'
  injection e' with e1 e2 _
  subst e1 e2
  have q3 := hcc 3 _ rfl
  simp only [Nat.zero_add] at q3
  have hbl3 := Lib.hid (show Below w.heap.size w w3 from by (repeat' (first | (with_reducible exact Below.refl _ _) | (with_reducible assumption) | (with_reducible refine Below.alloc ?_ ?_ _) | (with_reducible refine Below.setCell ?_ ?_ _) | (with_reducible refine Below.drew ?_) | (with_reducible refine below_drewN ?_ _) | (with_reducible refine below_via ?_ (by with_reducible assumption) ?_) | omega | (simp; done) | (simp; omega))))
  clear hcc hblk hc3 hf3
  go_wp2_with fail
  go_ret2
  have hyk : lgI ys[k] = lgI l[k] := by
    have h2 := congrArg (fun z => z[k]?) HL3.out
    simpa [List.getElem?_map, hky, hk] using h2
  refine ⟨_, ys.set k { ys[k] with next := p }, by rw [HQ.out]; rfl, ?_, ?_, ?_, by have hbl := hbl3.out; (repeat' (first | (with_reducible exact Below.refl _ _) | (with_reducible assumption) | (with_reducible refine Below.alloc ?_ ?_ _) | (with_reducible refine Below.setCell ?_ ?_ _) | (with_reducible refine Below.drew ?_) | (with_reducible refine below_drewN ?_ _) | (with_reducible refine below_via ?_ (by with_reducible assumption) ?_) | omega | (simp; done) | (simp; omega)))⟩
  · rw [HP.out, List.map_set, List.map_set, HL3.out]
    congr 1
    simp only [lgI, Inst.mk.injEq] at hyk ⊢
    exact ⟨hyk.1, hyk.2.1, hyk.2.2.1, by trivial, hyk.2.2.2.2⟩
  · rw [List.map_set]
    exact (HO3.out.put rfl (i := k) (r := encInstV ys[k]) (by simp [hky]) (show 3 < 5 by omega) (.int .i64 p)).mono (by first | omega | (simp; omega))
  · intro y hy
    have haw : Away 24 w3 (w3.setCell ⟨g, k * 5 + 3, none⟩ (.int .i64 p)) := Away.set _ _ (HT.out g rfl)
    rcases List.mem_or_eq_of_mem_set hy with h | rfl
    · exact Own.good ((HY3.out y h).away haw (by decide))
    · exact Own.good (n := ys[k].moves.val.length) ((HY3.out ys[k] (List.getElem_mem hky)).away haw (by decide))
def setl (x : InstV) : InstV := { x with price := x.next }
def zs (ys : List InstV) (k : Nat) : List InstV := (ys.take k).map setl ++ ys.drop k
theorem zs_len (ys : List InstV) {k : Nat} (h : k ≤ ys.length) : (zs ys k).length = ys.length := by
  unfold zs; simp; omega
theorem zs_at {ys : List InstV} {k : Nat} (h : k < ys.length) : (zs ys k)[k]? = some ys[k] := by
  unfold zs
  rw [List.getElem?_append_right (by simp; omega)]
  simp [List.length_take, Nat.min_eq_left (Nat.le_of_lt h), h]
theorem zs_succ {ys : List InstV} {k : Nat} (h : k < ys.length) : zs ys (k + 1) = (zs ys k).set k (setl ys[k]) := by
  unfold zs
  rw [List.set_append_right _ _ (by simp; omega)]
  simp only [List.length_map, List.length_take, Nat.min_eq_left (Nat.le_of_lt h), Nat.sub_self]
  rw [map_snoc h, drop_cons' h, List.set_cons_zero, List.append_assoc]
  rfl
theorem zs_mem {ys : List InstV} {k : Nat} {y : InstV} (h : y ∈ zs ys k) : ∃ y0 ∈ ys, y.moves = y0.moves := by
  unfold zs at h
  rcases List.mem_append.1 h with h | h
  · obtain ⟨y0, h0, rfl⟩ := List.mem_map.1 h
    exact ⟨y0, List.mem_of_mem_take h0, rfl⟩
  · exact ⟨y, List.mem_of_mem_drop h, rfl⟩
/-- A table in memory of its own. -/
def InstPost1 (w : World) (L : List Inst) (e : Ending) (w' : World) : Prop :=
  ∃ (v : Value) (ys : List InstV), e = .returned v ∧ ys.map lgI = L ∧ Own w' w.heap.size 24 5 v (ys.map encInstV) ∧ (∀ y ∈ ys, Rs w' 1 (y.moves.val.map encI) y.moves.A y.moves.c) ∧ Below w.heap.size w w'
theorem map_setl {ys l : List InstV} (h : ys.map lgI = l.map lgI) : (ys.map setl).map lgI = (l.map setl).map lgI := by
  have e : ∀ z : List InstV, (z.map setl).map lgI = (z.map lgI).map (fun x : Inst => { x with price := x.next }) := fun z => by
    rw [List.map_map, List.map_map]; rfl
  rw [e, e, h]
set_option maxRecDepth 100000 in
set_option maxHeartbeats 8000000 in
theorem instSettle (l : List InstV) (A : Option Addr) (c : Nat) (w : World) (hl : l.length ≤ 900000) (hr : Rs w 5 (l.map encInstV) A c) (hg : ∀ x ∈ l, x.moves.val.length ≤ 1048576 ∧ GoodI w x) :
    Calls Try.prog 45 #[.slice A l.length c] w (InstPost1 w ((l.map setl).map lgI)) := by
  have HR := Lib.hid hr
  have HG := Lib.hid (fun W (h : Below w.heap.size w W) => instCopied l A c W (by omega) (HR.out.rd.keep h) (fun x hx => ⟨(hg x hx).1, (hg x hx).2.keep h⟩))
  clear hr hg
  go_enter Try.func45, Try.ntmps45
  go_wp2_with (first | (go_at_call 81; (with_reducible refine (HG.out _ (by (repeat' (first | (with_reducible exact Below.refl _ _) | (with_reducible assumption) | (with_reducible refine Below.alloc ?_ ?_ _) | (with_reducible refine Below.setCell ?_ ?_ _) | (with_reducible refine Below.drew ?_) | (with_reducible refine below_drewN ?_ _) | (with_reducible refine below_via ?_ (by with_reducible assumption) ?_) | omega | (simp; done) | (simp; omega))))).mono ?_); rintro e w3 ⟨v3, ys, rfl, hlg3, hown3, hys3, hb3⟩; have HYL := Lib.hid (show ys.length = l.length from by have := congrArg List.length hlg3; simpa using this); obtain ⟨A3, c3, hv3, hrs3, hform3⟩ := hown3.rs; rw [List.length_map] at hv3; subst hv3; have HF3 := Lib.hid hform3; have HL3 := Lib.hid hlg3; have HO3 := Lib.hid hown3; have HY3 := Lib.hid hys3; have hz3 := hb3.size; have Hb3 := Lib.hid hb3; clear hown3 hrs3 hform3 hlg3 hys3 hb3) | fail)
  have hyb : ys.length ≤ 900000 := by rw [HYL.out]; omega
  go_loopw [9] (fun i wr => ∃ k : Nat, k ≤ ys.length ∧ i = .int .i64 k ∧ Own wr w.heap.size 24 5 (.slice A3 ys.length c3) ((zs ys k).map encInstV) ∧ Away 24 w3 wr ∧ Below w.heap.size w wr) (fun i _ => ys.length - (intOf i).toNat)
  case atStart => exact ⟨0, Nat.zero_le _, rfl, by simpa [zs] using HO3.out, Away.refl _ _, Hb3.out⟩
  case round =>
    obtain ⟨k, hk, rfl, hown, haw, hbl⟩ := hrel
    have Hown := Lib.hid hown
    have Haw := Lib.hid haw
    have Hbl := Lib.hid hbl
    have hz := hbl.size
    clear hown haw hbl
    by_cases hlt : k < ys.length
    · have hki : (k : Int) < (ys.length : Int) := by omega
      have dl : decide ((k : Int) < (ys.length : Int)) = true := by simpa using hlt
      obtain ⟨g, rfl, hg1, hg2⟩ := HO3.out.at (by rw [List.length_map]; omega)
      have hgw := Haw.out.size
      obtain ⟨cur, hblk⟩ := Hown.out.blk rfl
      have fz := fun i => hblk.frozen i
      have HT := Lib.hid Hown.out.typed
      obtain ⟨b', o', e', hb', hcc⟩ := (Hown.out.rd).1 k (encInstV ys[k]) (by rw [List.getElem?_map, zs_at hlt]; rfl)
      injection e' with e'
      injection e' with e1 e2 _
      subst e1 e2
      have q2 := hcc 2 _ rfl
      have q3 := hcc 3 _ rfl
      simp only [Nat.zero_add] at q2 q3
      have HZ := Lib.hid (zs_succ hlt)
      clear hcc hblk
      go_wp2_with fail
      go_roundw
      case rel =>
        refine ⟨k + 1, by omega, by go_num, ?_, Haw.out.trans (Away.set _ _ (HT.out g rfl)), ?_⟩
        · rw [HZ.out, List.map_set]
          exact Hown.out.put rfl (i := k) (r := encInstV ys[k]) (by rw [List.getElem?_map, zs_at hlt]; rfl) (show 2 < 5 by omega) (.int .i64 ys[k].next)
        · have hbl := Hbl.out
          (repeat' (first | (with_reducible exact Below.refl _ _) | (with_reducible assumption) | (with_reducible refine Below.alloc ?_ ?_ _) | (with_reducible refine Below.setCell ?_ ?_ _) | (with_reducible refine Below.drew ?_) | (with_reducible refine below_drewN ?_ _) | (with_reducible refine below_via ?_ (by with_reducible assumption) ?_) | omega | (simp; done) | (simp; omega)))
      case measure => simp [intOf]; omega
    · have dl : decide ((k : Int) < (ys.length : Int)) = false := by simpa using hlt
      have HZ := Lib.hid (show zs ys k = ys.map setl from by unfold zs; rw [List.take_of_length_le (by omega), List.drop_eq_nil_of_le (by omega), List.append_nil])
      go_wp2_with fail
      go_ret
      refine ⟨_, ys.map setl, rfl, map_setl HL3.out, by rw [← HZ.out]; exact Hown.out, ?_, Hbl.out⟩
      intro y hy
      obtain ⟨y0, h0, rfl⟩ := List.mem_map.1 hy
      exact Own.good (n := y0.moves.val.length) ((HY3.out y0 h0).away Haw.out (by decide))
end Go.Proofs.Ytpjehhkmdndcmaa

/- Instruments in tables: contracts of the reference's Next, Settle, SameOne, Same. -/
namespace Go.Proofs.Ytpjehhkmdndcmaa
open Go.RowKit
set_option maxRecDepth 100000 in
set_option maxHeartbeats 1000000 in
theorem sameNumbers (l : List Int) (A B : Option Addr) (c d : Nat) (w : World) (hl : l.length ≤ 1099511627776) (ha : Rd w A 1 (l.map encI)) (hb : Rd w B 1 (l.map encI)) :
    Calls Try.prog 83 #[.slice A l.length c, .slice B l.length d] w fun e w' => e = .returned (.bool true) ∧ Below w.heap.size w w' := by
  have HA := Lib.hid ha
  have HB := Lib.hid hb
  clear ha hb
  go_enter Try.func83, Try.ntmps83
  go_wp2_with fail
  go_loopw [5] (fun i wr => ∃ k : Nat, k ≤ l.length ∧ i = .int .i64 k ∧ ∃ n, wr = w.drewN n) (fun i _ => l.length - (intOf i).toNat)
  case atStart => exact ⟨0, Nat.zero_le _, rfl, 0, rfl⟩
  case round =>
    obtain ⟨k, hk, rfl, nn, rfl⟩ := hrel
    by_cases hlt : k < l.length
    · have kl : (k : Int) < (l.length : Int) := by omega
      obtain ⟨b1, o1, rfl, hb1, hc1⟩ := HA.out k (encI l[k]) (by simp [hlt])
      obtain ⟨b2, o2, rfl, hb2, hc2⟩ := HB.out k (encI l[k]) (by simp [hlt])
      have e0 := hc1 0 _ rfl
      have f0 := hc2 0 _ rfl
      simp only [Nat.add_zero, Nat.mul_one] at e0 f0
      clear hc1 hc2
      go_wp2_with fail
      go_quiet (fail)
      go_wp2_with fail
      go_roundw
      case rel => exact ⟨k + 1, by omega, by go_num, _, rfl⟩
      case measure => simp [intOf]; omega
    · go_wp2_with fail
      go_ret
      exact ⟨rfl, by (repeat' (first | (with_reducible exact Below.refl _ _) | (with_reducible assumption) | (with_reducible refine Below.alloc ?_ ?_ _) | (with_reducible refine Below.setCell ?_ ?_ _) | (with_reducible refine Below.drew ?_) | (with_reducible refine below_drewN ?_ _) | (with_reducible refine below_via ?_ (by with_reducible assumption) ?_) | omega | (simp; done) | (simp; omega)))⟩
set_option maxRecDepth 100000 in
set_option maxHeartbeats 4000000 in
theorem ref13SameOne (x : InstV) (B : Option Addr) (d : Nat) (w : World) (hl : x.moves.val.length ≤ 1048576) (hg : GoodI w x) (hr : Rs w 1 (x.moves.val.map encI) B d) :
    Calls Try.prog 44 #[.agg #[.int .i64 x.id, .int .i64 x.mult, .int .i64 x.price, .int .i64 x.next, .slice x.moves.A x.moves.val.length x.moves.c], .agg #[.int .i64 x.id, .int .i64 x.mult, .int .i64 x.price, .int .i64 x.next, .slice B x.moves.val.length d]] w fun e w' => e = .returned (.bool true) ∧ Below w.heap.size w w' := by
  have HG := Lib.hid (show Rs w 1 (x.moves.val.map encI) x.moves.A x.moves.c from hg)
  have HR := Lib.hid hr
  clear hg hr
  go_enter Try.func44, Try.ntmps44
  go_wp2_with (first | (go_at_call 83; (with_reducible refine (sameNumbers x.moves.val x.moves.A B x.moves.c d _ (by omega) (HG.out.keep (by (repeat' (first | (with_reducible exact Below.refl _ _) | (with_reducible assumption) | (with_reducible refine Below.alloc ?_ ?_ _) | (with_reducible refine Below.setCell ?_ ?_ _) | (with_reducible refine Below.drew ?_) | (with_reducible refine below_drewN ?_ _) | (with_reducible refine below_via ?_ (by with_reducible assumption) ?_) | omega | (simp; done) | (simp; omega))))).rd (HR.out.keep (by (repeat' (first | (with_reducible exact Below.refl _ _) | (with_reducible assumption) | (with_reducible refine Below.alloc ?_ ?_ _) | (with_reducible refine Below.setCell ?_ ?_ _) | (with_reducible refine Below.drew ?_) | (with_reducible refine below_drewN ?_ _) | (with_reducible refine below_via ?_ (by with_reducible assumption) ?_) | omega | (simp; done) | (simp; omega))))).rd).mono ?_); rintro e w1 ⟨rfl, hb1⟩; obtain ⟨fc1, fg1, hc1, hf1, hz1⟩ := bget hb1; (try simp at hz1)) | fail)
  go_ret
  exact ⟨rfl, by (repeat' (first | (with_reducible exact Below.refl _ _) | (with_reducible assumption) | (with_reducible refine Below.alloc ?_ ?_ _) | (with_reducible refine Below.setCell ?_ ?_ _) | (with_reducible refine Below.drew ?_) | (with_reducible refine below_drewN ?_ _) | (with_reducible refine below_via ?_ (by with_reducible assumption) ?_) | omega | (simp; done) | (simp; omega)))⟩
theorem lg_eq {x y : InstV} (h : lgI x = lgI y) : x.id = y.id ∧ x.mult = y.mult ∧ x.price = y.price ∧ x.next = y.next ∧ x.moves.val = y.moves.val := by
  simp only [lgI, Inst.mk.injEq] at h
  exact h
set_option maxRecDepth 100000 in
set_option maxHeartbeats 8000000 in
theorem ref13Same (l m : List InstV) (A B : Option Addr) (c d : Nat) (w : World) (hlm : l.map lgI = m.map lgI) (hl : l.length ≤ 1000000) (ha : Rs w 5 (l.map encInstV) A c) (hb : Rs w 5 (m.map encInstV) B d) (hgl : ∀ x ∈ l, x.moves.val.length ≤ 1048576 ∧ GoodI w x) (hgm : ∀ x ∈ m, GoodI w x) :
    Calls Try.prog 43 #[.slice A l.length c, .slice B m.length d] w fun e w' => e = .returned (.bool true) ∧ Below w.heap.size w w' := by
  have HA := Lib.hid ha.rd
  have HB := Lib.hid hb.rd
  have HGL := Lib.hid hgl
  have HGM := Lib.hid hgm
  have hml : m.length = l.length := by have := congrArg List.length hlm; simpa using this.symm
  have HE := Lib.hid (fun k (h1 : k < l.length) (h2 : k < m.length) => show lgI l[k] = lgI m[k] from by
    have h3 := congrArg (fun z => z[k]?) hlm
    simpa [List.getElem?_map, h1, h2] using h3)
  have HML := Lib.hid hml
  rw [hml]
  clear ha hb hgl hgm hlm hml
  go_enter Try.func43, Try.ntmps43
  go_wp2_with fail
  go_loopw [5] (fun i wr => ∃ k : Nat, k ≤ l.length ∧ i = .int .i64 k ∧ Below w.heap.size w wr) (fun i _ => l.length - (intOf i).toNat)
  case atStart => exact ⟨0, Nat.zero_le _, rfl, Below.refl _ _⟩
  case round =>
    obtain ⟨k, hk, rfl, hbl⟩ := hrel
    have Hbl := Lib.hid hbl
    have hz := hbl.size
    clear hbl
    by_cases hlt : k < l.length
    · have kl : (k : Int) < (l.length : Int) := by omega
      have dl : decide ((k : Int) < (l.length : Int)) = true := by simpa using hlt
      have hkm : k < m.length := by rw [HML.out]; exact hlt
      have hx := HGL.out l[k] (List.getElem_mem hlt)
      have hy := HGM.out m[k] (List.getElem_mem hkm)
      have he := lg_eq (HE.out k hlt hkm)
      obtain ⟨b1, o1, rfl, hb1, hc1⟩ := HA.out k (encInstV l[k]) (by simp [hlt])
      obtain ⟨b2, o2, rfl, hb2, hc2⟩ := HB.out k (encInstV m[k]) (by simp [hkm])
      unfold GoodI at hy
      unfold encInstV at hc2
      rw [← he.1, ← he.2.1, ← he.2.2.1, ← he.2.2.2.1, ← he.2.2.2.2] at hc2
      rw [← he.2.2.2.2] at hy
      generalize m[k].moves.A = B' at hc2 hy
      generalize m[k].moves.c = d' at hc2 hy
      have e0 := (Hbl.out.cell (p := ⟨b1, o1 + k * 5 + 0, none⟩) hb1).trans (hc1 0 _ rfl)
      have e1 := (Hbl.out.cell (p := ⟨b1, o1 + k * 5 + 1, none⟩) hb1).trans (hc1 1 _ rfl)
      have e2 := (Hbl.out.cell (p := ⟨b1, o1 + k * 5 + 2, none⟩) hb1).trans (hc1 2 _ rfl)
      have e3 := (Hbl.out.cell (p := ⟨b1, o1 + k * 5 + 3, none⟩) hb1).trans (hc1 3 _ rfl)
      have e4 := (Hbl.out.cell (p := ⟨b1, o1 + k * 5 + 4, none⟩) hb1).trans (hc1 4 _ rfl)
      have f0 := (Hbl.out.cell (p := ⟨b2, o2 + k * 5 + 0, none⟩) hb2).trans (hc2 0 _ rfl)
      have f1 := (Hbl.out.cell (p := ⟨b2, o2 + k * 5 + 1, none⟩) hb2).trans (hc2 1 _ rfl)
      have f2 := (Hbl.out.cell (p := ⟨b2, o2 + k * 5 + 2, none⟩) hb2).trans (hc2 2 _ rfl)
      have f3 := (Hbl.out.cell (p := ⟨b2, o2 + k * 5 + 3, none⟩) hb2).trans (hc2 3 _ rfl)
      have f4 := (Hbl.out.cell (p := ⟨b2, o2 + k * 5 + 4, none⟩) hb2).trans (hc2 4 _ rfl)
      simp only [Nat.add_zero] at e0 f0
      have HX := Lib.hid (fun W (h : Below w.heap.size w W) => ref13SameOne l[k] B' d' W hx.1 (hx.2.keep h) (hy.keep h))
      clear hc1 hc2 he hx hy
      go_wp2_with fail
      go_region_held3 (fun w' => (w'.cell? ⟨b1, o1 + k * 5, none⟩ = some (.int .i64 l[k].id) ∧ w'.cell? ⟨b1, o1 + k * 5 + 1, none⟩ = some (.int .i64 l[k].mult) ∧ w'.cell? ⟨b1, o1 + k * 5 + 2, none⟩ = some (.int .i64 l[k].price) ∧ w'.cell? ⟨b1, o1 + k * 5 + 3, none⟩ = some (.int .i64 l[k].next) ∧ w'.cell? ⟨b1, o1 + k * 5 + 4, none⟩ = some (.slice l[k].moves.A l[k].moves.val.length l[k].moves.c)) ∧ w'.cell? ⟨b2, o2 + k * 5, none⟩ = some (.int .i64 l[k].id) ∧ w'.cell? ⟨b2, o2 + k * 5 + 1, none⟩ = some (.int .i64 l[k].mult) ∧ w'.cell? ⟨b2, o2 + k * 5 + 2, none⟩ = some (.int .i64 l[k].price) ∧ w'.cell? ⟨b2, o2 + k * 5 + 3, none⟩ = some (.int .i64 l[k].next) ∧ w'.cell? ⟨b2, o2 + k * 5 + 4, none⟩ = some (.slice B' l[k].moves.val.length d')) (first | (simp [go_sem]; done) | (repeat' (first | (with_reducible assumption) | (with_reducible refine And.intro ?_ ?_) | (with_reducible refine cell_drew ?_) | (with_reducible refine cell_via (by with_reducible assumption) ?_ ?_) | (simp [*]; done) | (simp [go_sem]; done) | (with_reducible refine cell_alloc ?_ ?_) | (with_reducible refine cell_set_far ?_ ?_) | omega | (simp; omega)))) (first | (go_at_call 44; (with_reducible refine (HX.out _ (by have hbl := Hbl.out; (repeat' (first | (with_reducible exact Below.refl _ _) | (with_reducible assumption) | (with_reducible refine Below.alloc ?_ ?_ _) | (with_reducible refine Below.setCell ?_ ?_ _) | (with_reducible refine Below.drew ?_) | (with_reducible refine below_drewN ?_ _) | (with_reducible refine below_via ?_ (by with_reducible assumption) ?_) | omega | (simp; done) | (simp; omega))))).mono ?_); rintro e w1 ⟨rfl, hb1⟩; obtain ⟨fc1, fg1, hc1, hf1, hz1⟩ := bget hb1; (try simp at hz1)) | fail)
      all_goals
        go_wp2_with fail
        go_roundw
        case rel => exact ⟨k + 1, by omega, by go_num, by have hbl := Hbl.out; (repeat' (first | (with_reducible exact Below.refl _ _) | (with_reducible assumption) | (with_reducible refine Below.alloc ?_ ?_ _) | (with_reducible refine Below.setCell ?_ ?_ _) | (with_reducible refine Below.drew ?_) | (with_reducible refine below_drewN ?_ _) | (with_reducible refine below_via ?_ (by with_reducible assumption) ?_) | omega | (simp; done) | (simp; omega)))⟩
        case measure => simp [intOf]; omega
    · have dl : decide ((k : Int) < (l.length : Int)) = false := by simpa using hlt
      go_wp2_with fail
      go_ret
      exact ⟨rfl, by have hbl := Hbl.out; (repeat' (first | (with_reducible exact Below.refl _ _) | (with_reducible assumption) | (with_reducible refine Below.alloc ?_ ?_ _) | (with_reducible refine Below.setCell ?_ ?_ _) | (with_reducible refine Below.drew ?_) | (with_reducible refine below_drewN ?_ _) | (with_reducible refine below_via ?_ (by with_reducible assumption) ?_) | omega | (simp; done) | (simp; omega)))⟩
end Go.Proofs.Ytpjehhkmdndcmaa

/- Instruments in tables: contracts of the reference's Next, Settle. -/
namespace Go.Proofs.Ytpjehhkmdndcmaa
open Go.RowKit
def NextPost (w : World) (l : List InstV) (id p : Int) (e : Ending) (w' : World) : Prop :=
  ∃ v, e = .returned (.tuple #[v, .int .i64 (nextC l id p)]) ∧ Own w' w.heap.size 24 5 v ((nextL l id p).map encInstV) ∧ Below w.heap.size w w'
set_option maxRecDepth 100000 in
set_option maxHeartbeats 8000000 in
theorem ref13Next (l : List InstV) (id p : Int) (A : Option Addr) (c : Nat) (w : World) (hl : l.length ≤ 1000000) (hr : Rs w 5 (l.map encInstV) A c) :
    Calls Try.prog 40 #[.slice A l.length c, .int .i64 id, .int .i64 p] w (NextPost w l id p) := by
  have HR := Lib.hid hr
  have c1 := fun W => pricedRef p W
  have c2 := fun W (h : Rd W A 5 (l.map encInstV)) => ref13Find l id A c W (by omega) h
  clear hr
  cases hf2 : (findInstV l id).2
  · have hp : nextL l id p = [] := by unfold nextL; rw [hf2, if_neg (by simp)]
    have hq : nextC l id p = 11 := by unfold nextC; rw [hf2]; rfl
    rw [hf2] at c2
    have HP := Lib.hid hp
    have HQ := Lib.hid hq
    have C2 := Lib.hid c2
    clear c1 c2 hp hq hf2
    go_enter Try.func40, Try.ntmps40
    go_wp2_with (first | (go_at_call 42; (with_reducible refine (C2.out _ (HR.out.rd.keep (by (repeat' (first | (with_reducible exact Below.refl _ _) | (with_reducible assumption) | (with_reducible refine Below.alloc ?_ ?_ _) | (with_reducible refine Below.setCell ?_ ?_ _) | (with_reducible refine Below.drew ?_) | (with_reducible refine below_drewN ?_ _) | (with_reducible refine below_via ?_ (by with_reducible assumption) ?_) | omega | (simp; done) | (simp; omega)))))).mono ?_); rintro e w2 ⟨rfl, hb2⟩; obtain ⟨fc2, fg2, hc2, hf2, hz2⟩ := bget hb2; try simp at hz2) | fail)
    go_ret2
    exact ⟨_, by rw [HQ.out]; rfl, by rw [HP.out]; exact Own.nil _ _ _ _, by (repeat' (first | (with_reducible exact Below.refl _ _) | (with_reducible assumption) | (with_reducible refine Below.alloc ?_ ?_ _) | (with_reducible refine Below.setCell ?_ ?_ _) | (with_reducible refine Below.drew ?_) | (with_reducible refine below_drewN ?_ _) | (with_reducible refine below_via ?_ (by with_reducible assumption) ?_) | omega | (simp; done) | (simp; omega)))⟩
  rw [hf2] at c2
  cases hpr : pricedI p
  · have hp : nextL l id p = [] := by unfold nextL; rw [hpr, if_neg (by simp)]
    have hq : nextC l id p = 2 := by unfold nextC; rw [hf2, hpr]; rfl
    rw [hpr] at c1
    have HP := Lib.hid hp
    have HQ := Lib.hid hq
    have C1 := Lib.hid c1
    have C2 := Lib.hid c2
    clear c1 c2 hp hq hf2 hpr
    go_enter Try.func40, Try.ntmps40
    go_wp2_with (first | (go_at_call 42; (with_reducible refine (C2.out _ (HR.out.rd.keep (by (repeat' (first | (with_reducible exact Below.refl _ _) | (with_reducible assumption) | (with_reducible refine Below.alloc ?_ ?_ _) | (with_reducible refine Below.setCell ?_ ?_ _) | (with_reducible refine Below.drew ?_) | (with_reducible refine below_drewN ?_ _) | (with_reducible refine below_via ?_ (by with_reducible assumption) ?_) | omega | (simp; done) | (simp; omega)))))).mono ?_); rintro e w2 ⟨rfl, hb2⟩; obtain ⟨fc2, fg2, hc2, hf2, hz2⟩ := bget hb2; try simp at hz2) | (go_at_call 63; (with_reducible refine (C1.out _).mono ?_); rintro e w1 ⟨rfl, hb1⟩; obtain ⟨fc1, fg1, hc1, hf1, hz1⟩ := bget hb1; try simp at hz1) | fail)
    go_ret2
    exact ⟨_, by rw [HQ.out]; rfl, by rw [HP.out]; exact Own.nil _ _ _ _, by (repeat' (first | (with_reducible exact Below.refl _ _) | (with_reducible assumption) | (with_reducible refine Below.alloc ?_ ?_ _) | (with_reducible refine Below.setCell ?_ ?_ _) | (with_reducible refine Below.drew ?_) | (with_reducible refine below_drewN ?_ _) | (with_reducible refine below_via ?_ (by with_reducible assumption) ?_) | omega | (simp; done) | (simp; omega)))⟩
  have hp : nextL l id p = l.map (nextOne id p) := by unfold nextL; rw [hf2, hpr, if_pos ⟨rfl, rfl⟩]
  have hq : nextC l id p = 0 := by unfold nextC; rw [hf2, hpr]; rfl
  rw [hpr] at c1
  have HP := Lib.hid hp
  have HQ := Lib.hid hq
  have C1 := Lib.hid c1
  have C2 := Lib.hid c2
  clear c1 c2 hp hq hf2 hpr
  go_enter Try.func40, Try.ntmps40
  go_wp2_with (first | (go_at_call 42; (with_reducible refine (C2.out _ (HR.out.rd.keep (by (repeat' (first | (with_reducible exact Below.refl _ _) | (with_reducible assumption) | (with_reducible refine Below.alloc ?_ ?_ _) | (with_reducible refine Below.setCell ?_ ?_ _) | (with_reducible refine Below.drew ?_) | (with_reducible refine below_drewN ?_ _) | (with_reducible refine below_via ?_ (by with_reducible assumption) ?_) | omega | (simp; done) | (simp; omega)))))).mono ?_); rintro e w2 ⟨rfl, hb2⟩; obtain ⟨fc2, fg2, hc2, hf2, hz2⟩ := bget hb2; try simp at hz2) | (go_at_call 63; (with_reducible refine (C1.out _).mono ?_); rintro e w1 ⟨rfl, hb1⟩; obtain ⟨fc1, fg1, hc1, hf1, hz1⟩ := bget hb1; try simp at hz1) | fail)
  go_loopw [10, 11] (fun v i wr => ∃ q : Nat, q ≤ l.length ∧ i = .int .i64 q ∧ Own wr w.heap.size 24 5 v (((l.take q).map (nextOne id p)).map encInstV) ∧ Below w.heap.size w wr) (fun _ i _ => l.length - (intOf i).toNat)
  case atStart => exact ⟨0, Nat.zero_le _, rfl, Own.nil _ _ _ _, by (repeat' (first | (with_reducible exact Below.refl _ _) | (with_reducible assumption) | (with_reducible refine Below.alloc ?_ ?_ _) | (with_reducible refine Below.setCell ?_ ?_ _) | (with_reducible refine Below.drew ?_) | (with_reducible refine below_drewN ?_ _) | (with_reducible refine below_via ?_ (by with_reducible assumption) ?_) | omega | (simp; done) | (simp; omega)))⟩
  case round =>
    obtain ⟨q, hq, rfl, hown, hbl⟩ := hrel
    have Hown := Lib.hid hown
    have Hbl := Lib.hid hbl
    have hz := hbl.size
    clear hown hbl
    by_cases hlt : q < l.length
    · have hqi : (q : Int) < (l.length : Int) := by omega
      have dl : decide ((q : Int) < (l.length : Int)) = true := by simpa using hlt
      obtain ⟨b, o, rfl, hb, hc⟩ := HR.out.rd q (encInstV l[q]) (by simp [hlt])
      have e0 := (Hbl.out.cell (p := ⟨b, o + q * 5 + 0, none⟩) hb).trans (hc 0 _ rfl)
      have e1 := (Hbl.out.cell (p := ⟨b, o + q * 5 + 1, none⟩) hb).trans (hc 1 _ rfl)
      have e2 := (Hbl.out.cell (p := ⟨b, o + q * 5 + 2, none⟩) hb).trans (hc 2 _ rfl)
      have e3 := (Hbl.out.cell (p := ⟨b, o + q * 5 + 3, none⟩) hb).trans (hc 3 _ rfl)
      have e4 := (Hbl.out.cell (p := ⟨b, o + q * 5 + 4, none⟩) hb).trans (hc 4 _ rfl)
      simp only [Nat.add_zero] at e0
      clear hc
      have hbw : b < wr.heap.size := by omega
      have HS := Lib.hid (map_snoc hlt (nextOne id p))
      cases g1 : (l[q].id == id)
      · have HN := Lib.hid (show nextOne id p l[q] = l[q] from by unfold nextOne; rw [g1]; rfl)
        go_wp2_with (first | (at_builtin; refine wpList_app rfl _ _ _ rfl elInstV w.heap.size _ _ rfl ((Hown.out.alloc _).alloc _) (some ⟨_, 0, none⟩) 1 1 rfl [encInstV l[q]] rfl (fun h => by cases h) (rd_oneN (by simp)) (rowsInstV [l[q]]) (by unfold maxLen; first | (simp; done) | omega | (simp; omega)) (by first | (simp; done) | omega | (simp; omega)) (by first | omega | (simp; done) | (simp; omega)) ?_; intro v3 w3 hown3 hb3) | fail)
        go_roundw
        case rel => exact ⟨q + 1, by omega, by go_num, by rw [HS.out, List.map_append, HN.out]; exact hown3, by have hbl := Hbl.out; (repeat' (first | (with_reducible exact Below.refl _ _) | (with_reducible assumption) | (with_reducible refine Below.alloc ?_ ?_ _) | (with_reducible refine Below.setCell ?_ ?_ _) | (with_reducible refine Below.drew ?_) | (with_reducible refine below_drewN ?_ _) | (with_reducible refine below_via ?_ (by with_reducible assumption) ?_) | omega | (simp; done) | (simp; omega)))⟩
        case measure => simp [intOf]; omega
      · have HN := Lib.hid (show nextOne id p l[q] = { l[q] with next := p } from by unfold nextOne; rw [g1]; rfl)
        go_wp2_with (first | (at_builtin; refine wpList_app rfl _ _ _ rfl elInstV w.heap.size _ _ rfl ((Hown.out.alloc _).alloc _) (some ⟨_, 0, none⟩) 1 1 rfl [encInstV { l[q] with next := p }] rfl (fun h => by cases h) (rd_oneN (by simp)) (rowsInstV [{ l[q] with next := p }]) (by unfold maxLen; first | (simp; done) | omega | (simp; omega)) (by first | (simp; done) | omega | (simp; omega)) (by first | omega | (simp; done) | (simp; omega)) ?_; intro v3 w3 hown3 hb3) | fail)
        go_roundw
        case rel => exact ⟨q + 1, by omega, by go_num, by rw [HS.out, List.map_append, HN.out]; exact hown3, by have hbl := Hbl.out; (repeat' (first | (with_reducible exact Below.refl _ _) | (with_reducible assumption) | (with_reducible refine Below.alloc ?_ ?_ _) | (with_reducible refine Below.setCell ?_ ?_ _) | (with_reducible refine Below.drew ?_) | (with_reducible refine below_drewN ?_ _) | (with_reducible refine below_via ?_ (by with_reducible assumption) ?_) | omega | (simp; done) | (simp; omega)))⟩
        case measure => simp [intOf]; omega
    · have dl : decide ((q : Int) < (l.length : Int)) = false := by simpa using hlt
      have HT := Lib.hid (show l.take q = l from List.take_of_length_le (by omega))
      go_wp2_with fail
      go_ret2
      exact ⟨_, by rw [HQ.out]; rfl, by rw [HP.out]; have := Hown.out; rw [HT.out] at this; exact this, Hbl.out⟩
set_option maxRecDepth 100000 in
set_option maxHeartbeats 8000000 in
theorem ref13Settle (l : List InstV) (A : Option Addr) (c : Nat) (w : World) (hl : l.length ≤ 1000000) (hr : Rs w 5 (l.map encInstV) A c) :
    Calls Try.prog 46 #[.slice A l.length c] w fun e w' => ∃ v, e = .returned v ∧ Own w' w.heap.size 24 5 v ((l.map setl).map encInstV) ∧ Below w.heap.size w w' := by
  have HR := Lib.hid hr
  clear hr
  go_enter Try.func46, Try.ntmps46
  go_wp2_with fail
  go_loopw [3, 4] (fun v i wr => ∃ q : Nat, q ≤ l.length ∧ i = .int .i64 q ∧ Own wr w.heap.size 24 5 v (((l.take q).map setl).map encInstV) ∧ Below w.heap.size w wr) (fun _ i _ => l.length - (intOf i).toNat)
  case atStart => exact ⟨0, Nat.zero_le _, rfl, Own.nil _ _ _ _, by (repeat' (first | (with_reducible exact Below.refl _ _) | (with_reducible assumption) | (with_reducible refine Below.alloc ?_ ?_ _) | (with_reducible refine Below.setCell ?_ ?_ _) | (with_reducible refine Below.drew ?_) | (with_reducible refine below_drewN ?_ _) | (with_reducible refine below_via ?_ (by with_reducible assumption) ?_) | omega | (simp; done) | (simp; omega)))⟩
  case round =>
    obtain ⟨q, hq, rfl, hown, hbl⟩ := hrel
    have Hown := Lib.hid hown
    have Hbl := Lib.hid hbl
    have hz := hbl.size
    clear hown hbl
    by_cases hlt : q < l.length
    · have hqi : (q : Int) < (l.length : Int) := by omega
      have dl : decide ((q : Int) < (l.length : Int)) = true := by simpa using hlt
      obtain ⟨b, o, rfl, hb, hc⟩ := HR.out.rd q (encInstV l[q]) (by simp [hlt])
      have e0 := (Hbl.out.cell (p := ⟨b, o + q * 5 + 0, none⟩) hb).trans (hc 0 _ rfl)
      have e1 := (Hbl.out.cell (p := ⟨b, o + q * 5 + 1, none⟩) hb).trans (hc 1 _ rfl)
      have e2 := (Hbl.out.cell (p := ⟨b, o + q * 5 + 2, none⟩) hb).trans (hc 2 _ rfl)
      have e3 := (Hbl.out.cell (p := ⟨b, o + q * 5 + 3, none⟩) hb).trans (hc 3 _ rfl)
      have e4 := (Hbl.out.cell (p := ⟨b, o + q * 5 + 4, none⟩) hb).trans (hc 4 _ rfl)
      simp only [Nat.add_zero] at e0
      clear hc
      have hbw : b < wr.heap.size := by omega
      have HS := Lib.hid (map_snoc hlt setl)
      go_wp2_with (first | (at_builtin; refine wpList_app rfl _ _ _ rfl elInstV w.heap.size _ _ rfl ((Hown.out.alloc _).alloc _) (some ⟨_, 0, none⟩) 1 1 rfl [encInstV { l[q] with price := l[q].next }] rfl (fun h => by cases h) (rd_oneN (by simp)) (rowsInstV [{ l[q] with price := l[q].next }]) (by unfold maxLen; first | (simp; done) | omega | (simp; omega)) (by first | (simp; done) | omega | (simp; omega)) (by first | omega | (simp; done) | (simp; omega)) ?_; intro v3 w3 hown3 hb3) | fail)
      go_roundw
      case rel => exact ⟨q + 1, by omega, by go_num, by rw [HS.out, List.map_append]; exact hown3, by have hbl := Hbl.out; (repeat' (first | (with_reducible exact Below.refl _ _) | (with_reducible assumption) | (with_reducible refine Below.alloc ?_ ?_ _) | (with_reducible refine Below.setCell ?_ ?_ _) | (with_reducible refine Below.drew ?_) | (with_reducible refine below_drewN ?_ _) | (with_reducible refine below_via ?_ (by with_reducible assumption) ?_) | omega | (simp; done) | (simp; omega)))⟩
      case measure => simp [intOf]; omega
    · have dl : decide ((q : Int) < (l.length : Int)) = false := by simpa using hlt
      have HT := Lib.hid (show l.take q = l from List.take_of_length_le (by omega))
      go_wp2_with fail
      go_ret
      exact ⟨_, rfl, by have := Hown.out; rw [HT.out] at this; exact this, Hbl.out⟩
end Go.Proofs.Ytpjehhkmdndcmaa

/- Digits in tens. Plain. -/
namespace Go.Proofs.Ytpjehhkmdndcmaa
/-- The digits of m as bytes, the lowest first. -/
def dgs : Nat → Nat → List Int
  | 0, _ => []
  | f + 1, m => (48 + m % 10 : Nat) :: (if m / 10 = 0 then [] else dgs f (m / 10))
/-- What is still to come, behind o. -/
def left (o : List Int) (f m : Nat) : List Int := if o = [] ∨ m ≠ 0 then dgs f m else []
theorem left_start (m : Nat) : [] ++ left [] 40 m = dgs 40 m := by simp [left]
theorem left_step {o : List Int} {f m : Nat} (hf : f + o.length = 40) (hm : m < 10 ^ f) (hgo : o = [] ∨ m ≠ 0) :
    ∃ g, f = g + 1 ∧ o ++ left o f m = (o ++ [((48 + m % 10 : Nat) : Int)]) ++ left (o ++ [((48 + m % 10 : Nat) : Int)]) g (m / 10) ∧ m / 10 < 10 ^ g := by
  cases f with
  | zero =>
    exfalso
    rcases hgo with h | h
    · subst h; simp at hf
    · simp at hm; omega
  | succ g =>
    refine ⟨g, rfl, ?_, ?_⟩
    · unfold left
      rw [if_pos hgo]
      simp only [dgs, List.append_assoc, List.cons_append, List.nil_append]
      by_cases h : m / 10 = 0
      · simp [h]
      · simp [h]
    · rw [Nat.pow_succ] at hm
      exact Nat.div_lt_of_lt_mul (by omega)
theorem left_end {o : List Int} {f m : Nat} (hgo : ¬ (o = [] ∨ m ≠ 0)) : o ++ left o f m = o := by unfold left; rw [if_neg hgo, List.append_nil]
theorem dgs_byte : ∀ (f m : Nat), ∀ b ∈ dgs f m, 0 ≤ b ∧ b ≤ 255
  | 0, _, b, hb => by simp [dgs] at hb
  | f + 1, m, b, hb => by
    simp only [dgs, List.mem_cons] at hb
    rcases hb with h | h
    · subst h; omega
    · by_cases e : m / 10 = 0
      · simp [e] at h
      · rw [if_neg e] at h; exact dgs_byte f _ b h
theorem dgs_len : ∀ (f m : Nat), (dgs f m).length ≤ f
  | 0, _ => by simp [dgs]
  | f + 1, m => by
    simp only [dgs, List.length_cons]
    by_cases e : m / 10 = 0
    · simp [e]
    · rw [if_neg e]; have := dgs_len f (m / 10); omega
/-- The text of n, the last byte first. -/
def back (n : Int) : List Int := dgs 40 n.natAbs ++ (if n < 0 then [45] else [])
theorem back_byte (n : Int) : ∀ b ∈ back n, 0 ≤ b ∧ b ≤ 255 := by
  intro b hb
  unfold back at hb
  rw [List.mem_append] at hb
  rcases hb with h | h
  · exact dgs_byte _ _ _ h
  · by_cases e : n < 0
    · rw [if_pos e] at h; simp at h; subst h; omega
    · rw [if_neg e] at h; simp at h
theorem back_len (n : Int) : (back n).length ≤ 41 := by
  unfold back
  have := dgs_len 40 n.natAbs
  rw [List.length_append]
  split <;> simp <;> omega
/-- Bytes as a string. -/
def str (l : List Int) : ByteArray := ⟨(l.map fun b => UInt8.ofNat b.toNat).toArray⟩
def textB (n : Int) : ByteArray := str (back n).reverse
theorem str_append (a b : List Int) : str a ++ str b = str (a ++ b) := by
  apply ByteArray.ext
  simp [str, ByteArray.data_append]
theorem str_cons (a : Int) (b : List Int) : str [a] ++ str b = str (a :: b) := str_append [a] b
theorem u8_back {b : Int} (h0 : 0 ≤ b) (h1 : b ≤ 255) : ((UInt8.ofNat b.toNat).toNat : Int) = b := by
  rw [UInt8.toNat_ofNat']; omega
/-- i rounds of turning a list round: the ends are turned, the middle is not. -/
def turned (l : List Int) (i : Nat) : List Int := (List.range l.length).map fun x => if x < i ∨ l.length - 1 - i < x then l.getD (l.length - 1 - x) 0 else l.getD x 0
theorem turned_len (l : List Int) (i : Nat) : (turned l i).length = l.length := by simp [turned]
theorem turned_at (l : List Int) (i x : Nat) (h : x < l.length) : (turned l i)[x]? = some (if x < i ∨ l.length - 1 - i < x then l.getD (l.length - 1 - x) 0 else l.getD x 0) := by
  simp [turned, h]
theorem turned_zero (l : List Int) : turned l 0 = l := by
  apply List.ext_getElem?
  intro x
  by_cases h : x < l.length
  · rw [turned_at l 0 x h, if_neg (by omega)]
    simp [h]
  · rw [List.getElem?_eq_none (by rw [turned_len]; omega), List.getElem?_eq_none (by omega)]
theorem turned_end (l : List Int) (i : Nat) (h : l.length ≤ 2 * i + 1) : turned l i = l.reverse := by
  apply List.ext_getElem?
  intro x
  by_cases hx : x < l.length
  · rw [turned_at l i x hx, List.getElem?_reverse hx]
    split
    · simp [show l.length - 1 - x < l.length from by omega]
    · rw [show l.length - 1 - x = x from by omega]; simp [hx]
  · rw [List.getElem?_eq_none (by rw [turned_len]; omega), List.getElem?_eq_none (by simp; omega)]
theorem turned_step (l : List Int) (i : Nat) (h : 2 * i + 1 < l.length) : turned l (i + 1) = ((turned l i).set i (l.getD (l.length - 1 - i) 0)).set (l.length - 1 - i) (l.getD i 0) := by
  apply List.ext_getElem?
  intro x
  by_cases hx : x < l.length
  · rw [turned_at l (i + 1) x hx, List.getElem?_set, List.getElem?_set, List.length_set, turned_len, turned_at l i x hx]
    by_cases e1 : l.length - 1 - i = x
    · rw [if_pos e1, if_pos (by omega), if_pos (by omega), show l.length - 1 - x = i from by omega]
    · rw [if_neg e1]
      by_cases e2 : i = x
      · rw [if_pos e2, if_pos (by omega), if_pos (by omega), e2]
      · rw [if_neg e2]
        congr 1
        by_cases e3 : x < i ∨ l.length - 1 - i < x
        · rw [if_pos e3, if_pos (by omega)]
        · rw [if_neg e3, if_neg (by omega)]
  · rw [List.getElem?_eq_none (by rw [turned_len]; omega), List.getElem?_eq_none (by rw [List.length_set, List.length_set, turned_len]; omega)]
theorem turned_get (l : List Int) (i : Nat) (h : 2 * i + 1 < l.length) : (turned l i)[i]? = some (l.getD i 0) ∧ (turned l i)[l.length - 1 - i]? = some (l.getD (l.length - 1 - i) 0) := by
  rw [turned_at l i i (by omega), turned_at l i _ (by omega), if_neg (by omega), if_neg (by omega)]
  exact ⟨rfl, rfl⟩
theorem textB_12 : textB (-12) = ⟨#[45, 49, 50]⟩ := by decide +kernel
end Go.Proofs.Ytpjehhkmdndcmaa
