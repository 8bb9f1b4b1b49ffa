/- Accounts in tables: contracts of acct.Set, Of, Owner, Less. -/
import Derived.Test.YtemhhojenocddaaAcct5
import Derived.Deep.CutRange
import Derived.Deep.DeepCutAuto
namespace Go.Proofs.Ytemhhojenocddaa
open Go.RowKit
theorem set_place {l : List AcctV} {m : AcctV} (hs : SortedAcctV l) (hb : plB l m.id = true) : l.map (fun x => if x.id == m.id then m else x) = l.set (plN l m.id) m := by
  have hk := plB_lt hb
  have hm : (l[plN l m.id].id == m.id) = true := by rw [← hb]; exact (atB_some (p := fun x : AcctV => x.id == m.id) hk).symm
  generalize plN l m.id = k at hk hm
  apply List.ext_getElem (by simp)
  intro j h1 h2
  simp at h1
  rw [List.getElem_set, List.getElem_map]
  by_cases e : k = j
  · subst e; rw [if_pos hm, if_pos rfl]
  · have hkm : l[k].id = m.id := by simpa using hm
    have hne : (l[j].id == m.id) = false := by
      have hp := List.pairwise_iff_getElem.1 hs
      rcases Nat.lt_or_ge j k with h3 | h3
      · have := hp j k h1 hk h3; simp; omega
      · have := hp k j hk h1 (by omega); simp; omega
    rw [if_neg (by rw [hne]; simp), if_neg e]
set_option maxRecDepth 100000 in
set_option maxHeartbeats 8000000 in
theorem acctSet (l : List AcctV) (m : AcctV) (A : Option Addr) (c : Nat) (w : World) (hl : l.length ≤ 900000) (hs : SortedAcctV l) (hr : Rs w 4 (l.map encAcctV) A c) (hg : ∀ x ∈ l, x.clients.val.length ≤ 1048576 ∧ GoodA w x) (hml : m.clients.val.length ≤ 1048576) (hmg : GoodA w m) :
    Calls Try.prog 27 #[.slice A l.length c, .agg #[.int .i64 m.id, .int .i64 m.member, .int .i64 m.kind, .slice m.clients.A m.clients.val.length m.clients.c]] w (AcctPost w ((setAL (okAV m) l m).map lgA) (setAC (okAV m) l m)) := by
  have HR := Lib.hid hr
  have c1 := fun W (h : Below w.heap.size w W) => acctCheckV m W (by omega) (hmg.keep h)
  have c2 := fun W (h : Rd W A 4 (l.map encAcctV)) => acctPlace l m.id A c W (by omega) h
  clear hr
  by_cases hok : okA (lgA m)
  rotate_left
  · rw [codeA_no hok] at c1
    rw [show okAV m = false from decide_eq_false hok]
    have hp : setAL false l m = [] := by unfold setAL; rw [if_neg (fun h => by cases h.1)]
    have hq : setAC false l m = 2 := rfl
    have HP := Lib.hid hp
    have HQ := Lib.hid hq
    have C1 := Lib.hid c1
    clear c1 c2 hp hq hok hg hmg
    go_enter Try.func27, Try.ntmps27
    go_wp2_with (go_at_call 11; (with_reducible refine (C1.out _ (by (repeat' (first | (with_reducible exact Below.refl _ _) | (with_reducible assumption) | (with_reducible refine Below.alloc ?_ ?_ _) | (with_reducible refine Below.setCell ?_ ?_ _) | (with_reducible refine Below.drew ?_) | (with_reducible refine below_drewN ?_ _) | (with_reducible refine below_via ?_ (by with_reducible assumption) ?_) | omega | (simp; done) | (simp; omega))))).mono ?_); rintro e w1 ⟨rfl, hb1⟩; obtain ⟨fc1, fg1, hc1, hf1, hz1⟩ := bget hb1; try simp at hz1)
    go_ret2
    exact ⟨_, [], by rw [HQ.out]; rfl, by rw [HP.out], Own.nil _ _ _ _, fun y hy => absurd hy (by simp), by (repeat' (first | (with_reducible exact Below.refl _ _) | (with_reducible assumption) | (with_reducible refine Below.alloc ?_ ?_ _) | (with_reducible refine Below.setCell ?_ ?_ _) | (with_reducible refine Below.drew ?_) | (with_reducible refine below_drewN ?_ _) | (with_reducible refine below_via ?_ (by with_reducible assumption) ?_) | omega | (simp; done) | (simp; omega)))⟩
  rw [codeA_yes hok] at c1
  rw [show okAV m = true from decide_eq_true hok]
  have C1 := Lib.hid c1
  have hf2 := (find_place hs m.id).1
  cases hb : plB l m.id
  · rw [hb] at c2 hf2
    have hp : setAL true l m = [] := by unfold setAL; rw [hf2, if_neg (by simp)]
    have hq : setAC true l m = 11 := by unfold setAC; rw [hf2]; rfl
    have HP := Lib.hid hp
    have HQ := Lib.hid hq
    have C2 := Lib.hid c2
    clear c1 c2 hp hq hok hf2 hg hmg hb
    go_enter Try.func27, Try.ntmps27
    go_wp2_with (first | (go_at_call 11; (with_reducible refine (C1.out _ (by (repeat' (first | (with_reducible exact Below.refl _ _) | (with_reducible assumption) | (with_reducible refine Below.alloc ?_ ?_ _) | (with_reducible refine Below.setCell ?_ ?_ _) | (with_reducible refine Below.drew ?_) | (with_reducible refine below_drewN ?_ _) | (with_reducible refine below_via ?_ (by with_reducible assumption) ?_) | omega | (simp; done) | (simp; omega))))).mono ?_); rintro e w1 ⟨rfl, hb1⟩; obtain ⟨fc1, fg1, hc1, hf1, hz1⟩ := bget hb1; try simp at hz1) | (go_at_call 63; (with_reducible refine (C2.out _ (HR.out.rd.keep (by (repeat' (first | (with_reducible exact Below.refl _ _) | (with_reducible assumption) | (with_reducible refine Below.alloc ?_ ?_ _) | (with_reducible refine Below.setCell ?_ ?_ _) | (with_reducible refine Below.drew ?_) | (with_reducible refine below_drewN ?_ _) | (with_reducible refine below_via ?_ (by with_reducible assumption) ?_) | omega | (simp; done) | (simp; omega)))))).mono ?_); rintro e w2 ⟨rfl, hb2⟩; obtain ⟨fc2, fg2, hc2, hf2, hz2⟩ := bget hb2; try simp at hz2) | fail)
    go_ret2
    exact ⟨_, [], by rw [HQ.out]; rfl, by rw [HP.out], Own.nil _ _ _ _, fun y hy => absurd hy (by simp), by (repeat' (first | (with_reducible exact Below.refl _ _) | (with_reducible assumption) | (with_reducible refine Below.alloc ?_ ?_ _) | (with_reducible refine Below.setCell ?_ ?_ _) | (with_reducible refine Below.drew ?_) | (with_reducible refine below_drewN ?_ _) | (with_reducible refine below_via ?_ (by with_reducible assumption) ?_) | omega | (simp; done) | (simp; omega)))⟩
  have hset := set_place hs hb
  have hk := plB_lt hb
  rw [hb] at c2 hf2
  have hp : setAL true l m = l.set (plN l m.id) m := by unfold setAL; rw [hf2, if_pos ⟨rfl, rfl⟩]; exact hset
  have hq : setAC true l m = 0 := by unfold setAC; rw [hf2]; rfl
  generalize plN l m.id = k at c2 hp hk
  have HP := Lib.hid hp
  have HQ := Lib.hid hq
  have C2 := Lib.hid c2
  have HG := Lib.hid (fun W (h : Below w.heap.size w W) => acctCopied l A c W (by omega) (HR.out.rd.keep h) (fun x hx => ⟨(hg x hx).1, (hg x hx).2.keep h⟩))
  have HM := Lib.hid (fun W (h : Below w.heap.size w W) => acctOwn m W hml (hmg.keep h))
  clear c1 c2 hp hq hok hf2 hg hmg hb hset
  go_enter Try.func27, Try.ntmps27
  go_upto_region 8 with (first | (go_at_call 11; (with_reducible refine (C1.out _ (by (repeat' (first | (with_reducible exact Below.refl _ _) | (with_reducible assumption) | (with_reducible refine Below.alloc ?_ ?_ _) | (with_reducible refine Below.setCell ?_ ?_ _) | (with_reducible refine Below.drew ?_) | (with_reducible refine below_drewN ?_ _) | (with_reducible refine below_via ?_ (by with_reducible assumption) ?_) | omega | (simp; done) | (simp; omega))))).mono ?_); rintro e w1 ⟨rfl, hb1⟩; obtain ⟨fc1, fg1, hc1, hf1, hz1⟩ := bget hb1; try simp at hz1) | (go_at_call 63; (with_reducible refine (C2.out _ (HR.out.rd.keep (by (repeat' (first | (with_reducible exact Below.refl _ _) | (with_reducible assumption) | (with_reducible refine Below.alloc ?_ ?_ _) | (with_reducible refine Below.setCell ?_ ?_ _) | (with_reducible refine Below.drew ?_) | (with_reducible refine below_drewN ?_ _) | (with_reducible refine below_via ?_ (by with_reducible assumption) ?_) | omega | (simp; done) | (simp; omega)))))).mono ?_); rintro e w2 ⟨rfl, hb2⟩; obtain ⟨fc2, fg2, hc2, hf2, hz2⟩ := bget hb2; try simp at hz2) | (go_at_call 65; (with_reducible refine (HG.out _ (by (repeat' (first | (with_reducible exact Below.refl _ _) | (with_reducible assumption) | (with_reducible refine Below.alloc ?_ ?_ _) | (with_reducible refine Below.setCell ?_ ?_ _) | (with_reducible refine Below.drew ?_) | (with_reducible refine below_drewN ?_ _) | (with_reducible refine below_via ?_ (by with_reducible assumption) ?_) | omega | (simp; done) | (simp; omega))))).mono ?_); rintro e w3 ⟨v3, ys, rfl, hlg3, hown3, hys3, hb3⟩; have HYL := Lib.hid (show ys.length = l.length from by have := congrArg List.length hlg3; simpa using this); have HL3 := Lib.hid hlg3; have HO3 := Lib.hid hown3; have HY3 := Lib.hid hys3; clear hown3 hlg3 hys3; obtain ⟨fc3, fg3, hc3, hf3, hz3⟩ := bget hb3; (try simp at hz3)) | fail)
  have hky : k < ys.length := by rw [HYL.out]; exact hk
  have kyi : (k : Int) < (ys.length : Int) := by omega
  obtain ⟨A3, c3, hv3, _, _⟩ := HO3.out.rs
  rw [List.length_map] at hv3
  subst hv3
  obtain ⟨g, rfl, hg1, hg2⟩ := HO3.out.at (by rw [List.length_map]; omega)
  obtain ⟨cur, hblk⟩ := HO3.out.blk rfl
  have HT := Lib.hid HO3.out.typed
  obtain ⟨b', o', e', hb', hcc⟩ := (HO3.out.rd).1 k (encAcctV ys[k]) (by simp [hky])
  injection e' with e'
  injection e' with e1 e2 _
  subst e1 e2
  have q0 := hcc 0 _ rfl
  have q1 := hcc 1 _ rfl
  have q2 := hcc 2 _ rfl
  have q3 := hcc 3 _ rfl
  simp only [Nat.zero_add, Nat.add_zero] at q0 q1 q2 q3
  have fz := fun i => hblk.frozen i
  have hbl3 := Lib.hid (show Below w.heap.size w w3 from by (repeat' (first | (with_reducible exact Below.refl _ _) | (with_reducible assumption) | (with_reducible refine Below.alloc ?_ ?_ _) | (with_reducible refine Below.setCell ?_ ?_ _) | (with_reducible refine Below.drew ?_) | (with_reducible refine below_drewN ?_ _) | (with_reducible refine below_via ?_ (by with_reducible assumption) ?_) | omega | (simp; done) | (simp; omega))))
  have HHB := Lib.hid hblk
  have m0 : w3.cell? ⟨w.heap.size, 0, none⟩ = some (.int .i64 m.id) := (by simp [hc3, hc2, hc1, go_sem, ↓IntWalk.iteOmega])
  have m1 : w3.cell? ⟨w.heap.size, 1, none⟩ = some (.int .i64 m.member) := (by simp [hc3, hc2, hc1, go_sem, ↓IntWalk.iteOmega])
  have m2 : w3.cell? ⟨w.heap.size, 2, none⟩ = some (.int .i64 m.kind) := (by simp [hc3, hc2, hc1, go_sem, ↓IntWalk.iteOmega])
  have m3 : w3.cell? ⟨w.heap.size, 3, none⟩ = some (.slice m.clients.A m.clients.val.length m.clients.c) := (by simp [hc3, hc2, hc1, go_sem, ↓IntWalk.iteOmega])
  clear hcc hblk hc3 hf3 hc2 hf2 hc1 hf1
  go_wp2_with (first | (go_at_call 66; (with_reducible refine (HM.out _ (by have hbl3 := hbl3.out; (repeat' (first | (with_reducible exact Below.refl _ _) | (with_reducible assumption) | (with_reducible refine Below.alloc ?_ ?_ _) | (with_reducible refine Below.setCell ?_ ?_ _) | (with_reducible refine Below.drew ?_) | (with_reducible refine below_drewN ?_ _) | (with_reducible refine below_via ?_ (by with_reducible assumption) ?_) | omega | (simp; done) | (simp; omega))))).mono ?_); rintro e w5 ⟨s, hs, rfl, hown5, hb5⟩; have HS := Lib.hid hs; have HO5 := Lib.hid hown5; clear hs hown5; obtain ⟨fc5, fg5, hc5, hf5, hz5⟩ := bget hb5; (try simp at hz5)) | fail)
  go_ret2
  have hst : Away 24 w5 ((((w5.setCell ⟨g, k * 4, none⟩ (.int .i64 m.id)).setCell ⟨g, k * 4 + 1, none⟩ (.int .i64 m.member)).setCell ⟨g, k * 4 + 2, none⟩ (.int .i64 m.kind)).setCell ⟨g, k * 4 + 3, none⟩ (.slice s.A s.val.length s.c)) := by
    have h5 : ∃ cs r, w5.heap[g]? = some (.cells cs 24 r) := by
      obtain ⟨cs, r, h⟩ := HT.out g rfl
      exact ⟨cs, r, by rw [hb5.block g (by omega)]; exact h⟩
    (repeat' (refine Away.setTy ?_ h5 _))
    exact Away.refl _ _
  refine ⟨_, ys.set k { m with clients := s }, by rw [HQ.out]; rfl, ?_, ?_, ?_, by have hbl := hbl3.out; (repeat' (first | (with_reducible exact Below.refl _ _) | (with_reducible assumption) | (with_reducible refine Below.alloc ?_ ?_ _) | (with_reducible refine Below.setCell ?_ ?_ _) | (with_reducible refine Below.drew ?_) | (with_reducible refine below_drewN ?_ _) | (with_reducible refine below_via ?_ (by with_reducible assumption) ?_) | omega | (simp; done) | (simp; omega)))⟩
  · rw [HP.out, List.map_set, List.map_set, HL3.out]
    congr 1
    simp only [lgA, HS.out]
  · rw [List.map_set]
    exact (own_put4 (HO3.out.keep hb5) rfl (i := k) (by simpa using hky) _ _ _ _).mono (by first | omega | (simp; omega))
  · intro y hy
    rcases List.mem_or_eq_of_mem_set hy with h | rfl
    · exact Own.good (((HY3.out y h).keep hb5).away hst (by decide))
    · exact Own.good (HO5.out.away hst (by decide))
set_option maxRecDepth 100000 in
set_option maxHeartbeats 1000000 in
theorem acctOfFn (x : AcctV) (mem : Int) (g : Nat) (w : World) (hcap : CapC w g [.int .i64 mem]) :
    Calls Try.prog 68 #[.agg #[.int .i64 x.id, .int .i64 x.member, .int .i64 x.kind, .slice x.clients.A x.clients.val.length x.clients.c], .pointer (some ⟨g, 0, none⟩)] w fun e w' => e = .returned (.bool (x.member != mem)) ∧ Below w.heap.size w w' := by
  have h0 := hcap.2 0 _ rfl
  have hg := hcap.1
  clear hcap
  go_enter Try.func68, Try.ntmps68
  go_wp2_with fail
  go_ret
  exact ⟨rfl, by (repeat' (first | (with_reducible exact Below.refl _ _) | (with_reducible assumption) | (with_reducible refine Below.alloc ?_ ?_ _) | (with_reducible refine Below.setCell ?_ ?_ _) | (with_reducible refine Below.drew ?_) | (with_reducible refine below_drewN ?_ _) | (with_reducible refine below_via ?_ (by with_reducible assumption) ?_) | omega | (simp; done) | (simp; omega)))⟩
set_option maxRecDepth 100000 in
set_option maxHeartbeats 1000000 in
theorem acctOfIdx (l : List AcctV) (mem : Int) (A : Option Addr) (c g : Nat) (w : World) (hl : l.length ≤ 1099511627776) (hr : Rd w A 4 (l.map encAcctV)) (hcap : CapC w g [.int .i64 mem]) :
    Calls Try.prog 100 #[.slice A l.length c, .func (Fn.func 68) #[] #[.pointer (some ⟨g, 0, none⟩)]] w fun e w' => e = .returned (.int .i64 (idxOf (fun x : AcctV => x.member != mem) l)) ∧ Below w.heap.size w w' := by
  have Hr := Lib.hid hr
  have H0 := Lib.hid hcap
  clear hr hcap
  go_enter Try.func100, Try.ntmps100
  go_wp2_with fail
  go_loopw [8] (fun i wr => ∃ k : Nat, k ≤ l.length ∧ i = .int .i64 k ∧ Below w.heap.size w wr ∧ ∀ j (_ : j < l.length), j < k → (fun x : AcctV => x.member != mem) l[j] = false) (fun i _ => l.length - (intOf i).toNat)
  case atStart => exact ⟨0, Nat.zero_le _, rfl, Below.refl _ _, fun j _ h => absurd h (by omega)⟩
  case round =>
    obtain ⟨k, hk, rfl, hbl, hno⟩ := hrel
    have Hbl := Lib.hid hbl
    have Hno := Lib.hid hno
    have hz := hbl.size
    clear hbl hno
    by_cases hlt : k < l.length
    · obtain ⟨b, o, rfl, hb, hc⟩ := Hr.out k (encAcctV l[k]) (by simp [hlt])
      have c0 := (Hbl.out.cell (p := ⟨b, o + k * 4 + 0, none⟩) hb).trans (hc 0 _ rfl)
      have c1 := (Hbl.out.cell (p := ⟨b, o + k * 4 + 1, none⟩) hb).trans (hc 1 _ rfl)
      have c2 := (Hbl.out.cell (p := ⟨b, o + k * 4 + 2, none⟩) hb).trans (hc 2 _ rfl)
      have c3 := (Hbl.out.cell (p := ⟨b, o + k * 4 + 3, none⟩) hb).trans (hc 3 _ rfl)
      have H0' := Lib.hid (H0.out.keep Hbl.out)
      simp only [Nat.add_zero] at c0
      clear hc
      cases hm : (fun x : AcctV => x.member != mem) l[k]
      · have Hm := Lib.hid hm
        clear hm
        go_wp2_with (go_at_call 68; (with_reducible refine (acctOfFn l[k] mem g _ (H0'.out.keep (by (repeat' (first | (with_reducible exact Below.refl _ _) | (with_reducible assumption) | (with_reducible refine Below.alloc ?_ ?_ _) | (with_reducible refine Below.setCell ?_ ?_ _) | (with_reducible refine Below.drew ?_) | (with_reducible refine below_drewN ?_ _) | (with_reducible refine below_via ?_ (by with_reducible assumption) ?_) | omega | (simp; done) | (simp; omega)))))).mono ?_); rw [Hm.out]; rintro e w1 ⟨rfl, hb1⟩; have hz1 := hb1.size; have Hb1 := Lib.hid hb1; clear hb1)
        go_roundw
        case rel => exact ⟨k + 1, by omega, by go_num, Hbl.out.trans (Hb1.out.mono (by first | omega | (simp; done) | (simp; omega))), fun j hj h => by
          rcases Nat.lt_or_ge j k with h1 | h1
          · exact Hno.out j hj h1
          · obtain rfl : j = k := by omega
            exact Hm.out⟩
        case measure => simp [intOf]; omega
      · have hi := idx_hit (p := fun x : AcctV => x.member != mem) hlt hm Hno.out
        have Hi := Lib.hid hi
        have Hm := Lib.hid hm
        clear hm hi
        go_wp2_with (go_at_call 68; (with_reducible refine (acctOfFn l[k] mem g _ (H0'.out.keep (by (repeat' (first | (with_reducible exact Below.refl _ _) | (with_reducible assumption) | (with_reducible refine Below.alloc ?_ ?_ _) | (with_reducible refine Below.setCell ?_ ?_ _) | (with_reducible refine Below.drew ?_) | (with_reducible refine below_drewN ?_ _) | (with_reducible refine below_via ?_ (by with_reducible assumption) ?_) | omega | (simp; done) | (simp; omega)))))).mono ?_); rw [Hm.out]; rintro e w1 ⟨rfl, hb1⟩; have hz1 := hb1.size; have Hb1 := Lib.hid hb1; clear hb1)
        go_ret
        exact ⟨by rw [Hi.out]; rfl, Hbl.out.trans (Hb1.out.mono (by first | omega | (simp; done) | (simp; omega)))⟩
    · have hi := idx_miss (p := fun x : AcctV => x.member != mem) (l := l) (fun j hj => Hno.out j hj (by omega))
      have Hi := Lib.hid hi
      clear hi
      go_wp2_with fail
      go_ret
      exact ⟨by rw [Hi.out]; rfl, Hbl.out⟩
theorem zone_AcctV (z : Value) (h : (Try.prog.info? 24).bind (·.zero) = some z) : ∀ u ∈ z.cells, u.oneCell' = true := by
  have e : (Try.prog.info? 24).bind (·.zero) = some (.agg #[.int .i64 0, .int .i64 0, .int .i64 0, .slice none 0 0]) := by kernel_rfl
  rw [h] at e
  injection e with e
  subst e
  simp [Value.cells]
  decide
set_option maxRecDepth 100000 in
set_option maxHeartbeats 4000000 in
theorem acctOfDel (l : List AcctV) (mem : Int) (v : Value) (base g : Nat) (w : World) (hl : l.length ≤ 1048576) (hbs : base ≤ w.heap.size) (hown : Own w base 24 4 v (l.map encAcctV)) (hcap : CapC w g [.int .i64 mem]) (hgb : g < base) :
    Calls Try.prog 67 #[v, .func (Fn.func 68) #[] #[.pointer (some ⟨g, 0, none⟩)]] w fun e w' => ∃ v', e = .returned v' ∧ Own w' base 24 4 v' ((l.filter (fun x : AcctV => !x.member != mem)).map encAcctV) ∧ Below base w w' ∧ Away 24 w w' := by
  have HOWN := Lib.hid hown
  have HC := Lib.hid hcap
  obtain ⟨A, c, hv0, hrs, hform⟩ := hown.rs
  have hcc := hrs.cap
  have hroom := hrs.room
  rw [List.length_map] at hv0 hcc
  unfold maxLen at hroom
  subst hv0
  have HRD := Lib.hid hrs.rd
  have c1 := fun W h hc => acctOfIdx l mem A c g W (by omega) h hc
  clear hown hcap hrs
  rcases idxCases (fun x : AcctV => x.member != mem) l with ⟨k, hk, hm, hn, he⟩ | ⟨hn, he⟩
  rotate_left
  · have HF := Lib.hid (show l.filter (fun x : AcctV => !x.member != mem) = l from by
      rw [List.filter_eq_self]
      intro x hx
      obtain ⟨j, hj, rfl⟩ := List.mem_iff_getElem.1 hx
      have h3 : (fun x : AcctV => x.member != mem) l[j] = false := hn j hj
      show (!((fun x : AcctV => x.member != mem) l[j])) = true
      rw [h3]; rfl)
    rw [he] at c1
    have C1 := Lib.hid c1
    clear c1 he hn hform
    go_enter Try.func67, Try.ntmps67
    go_wp2_with (go_at_call 100; (with_reducible refine (C1.out _ HRD.out HC.out).mono ?_); rintro e w1 ⟨rfl, hb1⟩)
    go_ret
    exact ⟨_, rfl, by rw [HF.out]; exact HOWN.out.keep hb1, hb1.mono hbs, Away.below hb1⟩
  rw [he] at c1
  have C1 := Lib.hid c1
  have HM := Lib.hid hm
  have HN := Lib.hid hn
  obtain ⟨g0, rfl, hg0, hg1⟩ : ∃ g0, A = some ⟨g0, 0, none⟩ ∧ base ≤ g0 ∧ g0 < w.heap.size := by
    rcases hform with ⟨_, h2, _⟩ | h
    · exfalso; have := congrArg List.length h2; simp at this; rw [this] at hk; simp at hk
    · exact h
  have kb : ((k : Int) == -1) = false := by rw [beq_eq_false_iff_ne]; omega
  clear c1 hform hn he hm
  go_enter Try.func67, Try.ntmps67
  go_wp2_with (go_at_call 100; (with_reducible refine (C1.out _ HRD.out HC.out).mono ?_); rintro e w1 ⟨rfl, hb1⟩; have hz1 := hb1.size; have Hb1 := Lib.hid hb1; clear hb1)
  go_loopw [5, 6] (fun i j wr => ∃ (n m : Nat) (rows : List (List Value)), n ≤ l.length ∧ m < n ∧ j = .int .i64 n ∧ i = .int .i64 m ∧ Own wr base 24 4 (.slice (some ⟨g0, 0, none⟩) l.length c) rows ∧ rows.take m = ((l.take n).filter (fun x : AcctV => !x.member != mem)).map encAcctV ∧ rows.drop n = (l.drop n).map encAcctV ∧ Below base w wr ∧ Away 24 w wr) (fun _ j _ => l.length - (intOf j).toNat)
  case atStart =>
    have hft : (l.take (k + 1)).filter (fun x : AcctV => !x.member != mem) = l.take k := by
      rw [List.take_succ_eq_append_getElem hk, List.filter_append]
      have h1 : (l.take k).filter (fun x : AcctV => !x.member != mem) = l.take k := by
        rw [List.filter_eq_self]
        intro x hx
        obtain ⟨j, hj, rfl⟩ := List.mem_iff_getElem.1 hx
        rw [List.length_take] at hj
        have h3 : (fun x : AcctV => x.member != mem) l[j] = false := HN.out j (by omega) (by omega)
        show (!((fun x : AcctV => x.member != mem) (l.take k)[j])) = true
        rw [List.getElem_take, h3]; rfl
      have h2 : (fun x : AcctV => x.member != mem) l[k] = true := HM.out
      rw [h1, List.filter_cons]
      simp [h2]
    exact ⟨k + 1, k, l.map encAcctV, by omega, by omega, by go_num, rfl, HOWN.out.keep Hb1.out, by rw [hft, List.map_take], by rw [List.map_drop], Hb1.out.mono hbs, Away.below Hb1.out⟩
  case round =>
    obtain ⟨n, m, rows, hn, hmn, rfl, rfl, hown, htk, hdr, hbl, haw⟩ := hrel
    have Haw := Lib.hid haw
    have HT5 := Lib.hid hown.typed
    clear haw
    have Hown := Lib.hid hown
    have Htk := Lib.hid htk
    have Hdr := Lib.hid hdr
    have Hbl := Lib.hid hbl
    have hz := hbl.size
    have hrl := hown.rd.2.1
    have hrl2 : rows.length ≤ l.length ∧ l.length ≤ rows.length := by omega
    have ml : (m : Int) < (l.length : Int) := by omega
    have HCr := Lib.hid (HC.out.low hgb hbl)
    obtain ⟨cur, hblk⟩ := hown.blk rfl
    have fz := fun i => hblk.frozen i
    have hg0l := hblk.lt
    clear hown htk hdr hbl hrl hblk
    by_cases hlt : n < l.length
    · have hrow : rows[n]? = some (encAcctV l[n]) := by
        have := congrArg (fun z => z[0]?) Hdr.out
        simpa [List.getElem?_drop, hlt] using this
      obtain ⟨b, o, e, hb, hc⟩ := (Hown.out.rd).1 n _ hrow
      injection e with e
      injection e with e1 e2 _
      subst e1 e2
      have c0 := hc 0 _ rfl
      have c1 := hc 1 _ rfl
      have c2 := hc 2 _ rfl
      have c3 := hc 3 _ rfl
      simp only [Nat.add_zero, Nat.zero_add] at c0 c1 c2 c3
      have HS := Lib.hid (show (l.take (n + 1)).filter (fun x : AcctV => !x.member != mem) = (l.take n).filter (fun x : AcctV => !x.member != mem) ++ [l[n]].filter (fun x : AcctV => !x.member != mem) from by rw [List.take_succ_eq_append_getElem hlt, List.filter_append])
      have HD1 := Lib.hid (show rows.drop (n + 1) = (l.drop (n + 1)).map encAcctV from by
        have := congrArg (List.drop 1) Hdr.out
        rw [List.drop_drop, ← List.map_drop, List.drop_drop] at this; exact this)
      clear hc hrow
      cases hm : (fun x : AcctV => x.member != mem) l[n]
      · have HF1 := Lib.hid (show [l[n]].filter (fun x : AcctV => !x.member != mem) = [l[n]] from by have h2 := hm; simp at h2; simp [h2])
        have Hm := Lib.hid hm
        have hmr : m < rows.length := by omega
        have HPU := Lib.hid (fun W (h : Own W base 24 4 (.slice (some ⟨g0, 0, none⟩) l.length c) rows) => own_put4 h rfl hmr (.int .i64 l[n].id) (.int .i64 l[n].member) (.int .i64 l[n].kind) (.slice l[n].clients.A l[n].clients.val.length l[n].clients.c))
        have hr5 := Hown.out.1 _ (List.getElem_mem hmr)
        obtain ⟨p0, p1, p2, p3, he5⟩ : ∃ p0 p1 p2 p3, rows[m] = [p0, p1, p2, p3] := by
          match h4 : rows[m], hr5 with
          | [p0, p1, p2, p3], _ => exact ⟨p0, p1, p2, p3, rfl⟩
        obtain ⟨b5, o5, e5, _, hcm⟩ := (Hown.out.rd).1 m [p0, p1, p2, p3] (by rw [List.getElem?_eq_getElem hmr, he5])
        injection e5 with e5
        injection e5 with e1 e2 _
        subst e1 e2
        have d0 := hcm 0 _ rfl
        have d1 := hcm 1 _ rfl
        have d2 := hcm 2 _ rfl
        have d3 := hcm 3 _ rfl
        simp only [Nat.add_zero, Nat.zero_add] at d0 d1 d2 d3
        clear hm hcm he5 hr5
        go_wp2_with (go_at_call 68; (with_reducible refine (acctOfFn l[n] mem g _ (HCr.out.keep (by (repeat' (first | (with_reducible exact Below.refl _ _) | (with_reducible assumption) | (with_reducible refine Below.alloc ?_ ?_ _) | (with_reducible refine Below.setCell ?_ ?_ _) | (with_reducible refine Below.drew ?_) | (with_reducible refine below_drewN ?_ _) | (with_reducible refine below_via ?_ (by with_reducible assumption) ?_) | omega | (simp; done) | (simp; omega)))))).mono ?_); rw [Hm.out]; rintro e w2 ⟨rfl, hb2⟩; obtain ⟨fc2, fg2, hc2, hf2, hz2⟩ := bget hb2; (try simp at hz2); have Hb2 := Lib.hid hb2; clear hb2)
        go_roundw
        case rel =>
          refine ⟨n + 1, m + 1, rows.set m (encAcctV l[n]), by omega, by omega, by go_num, by go_num, ?_, ?_, ?_, ?_, ?_⟩
          · exact HPU.out _ ((Hown.out.alloc _).keep Hb2.out)
          · rw [HS.out, HF1.out, List.map_append, ← Htk.out, List.take_succ_eq_append_getElem (by rw [List.length_set]; exact hmr), List.getElem_set_self, List.take_set_of_le (Nat.le_refl _)]
            rfl
          · rw [List.drop_set_of_lt (by omega)]; exact HD1.out
          · have hbl := Hbl.out; have hb2 := Hb2.out; (repeat' (first | (with_reducible exact Below.refl _ _) | (with_reducible assumption) | (with_reducible refine Below.alloc ?_ ?_ _) | (with_reducible refine Below.setCell ?_ ?_ _) | (with_reducible refine Below.drew ?_) | (with_reducible refine below_drewN ?_ _) | (with_reducible refine below_via ?_ (by with_reducible assumption) ?_) | omega | (simp; done) | (simp; omega)))
          · refine Haw.out.trans ?_
            (repeat' (refine Away.setTy (p := ⟨g0, _, none⟩) ?_ (HT5.out g0 rfl) _))
            exact (Away.below ((Below.refl _ _).alloc (Nat.le_refl _) _)).trans (Away.below Hb2.out)
        case measure => simp [intOf]; omega
      · have HF1 := Lib.hid (show [l[n]].filter (fun x : AcctV => !x.member != mem) = [] from by have h2 := hm; simp at h2; simp [h2])
        have Hm := Lib.hid hm
        clear hm
        go_wp2_with (go_at_call 68; (with_reducible refine (acctOfFn l[n] mem g _ (HCr.out.keep (by (repeat' (first | (with_reducible exact Below.refl _ _) | (with_reducible assumption) | (with_reducible refine Below.alloc ?_ ?_ _) | (with_reducible refine Below.setCell ?_ ?_ _) | (with_reducible refine Below.drew ?_) | (with_reducible refine below_drewN ?_ _) | (with_reducible refine below_via ?_ (by with_reducible assumption) ?_) | omega | (simp; done) | (simp; omega)))))).mono ?_); rw [Hm.out]; rintro e w2 ⟨rfl, hb2⟩; have hz2 := hb2.size; have Hb2 := Lib.hid hb2; clear hb2)
        go_roundw
        case rel => exact ⟨n + 1, m, rows, by omega, by omega, by go_num, rfl, (Hown.out.alloc _).keep Hb2.out, by rw [HS.out, HF1.out, List.append_nil]; exact Htk.out, HD1.out, by have hbl := Hbl.out; have hb2 := Hb2.out; (repeat' (first | (with_reducible exact Below.refl _ _) | (with_reducible assumption) | (with_reducible refine Below.alloc ?_ ?_ _) | (with_reducible refine Below.setCell ?_ ?_ _) | (with_reducible refine Below.drew ?_) | (with_reducible refine below_drewN ?_ _) | (with_reducible refine below_via ?_ (by with_reducible assumption) ?_) | omega | (simp; done) | (simp; omega))), Haw.out.trans ((Away.below ((Below.refl _ _).alloc (Nat.le_refl _) _)).trans (Away.below Hb2.out))⟩
        case measure => simp [intOf]; omega
    · have HT := Lib.hid (show l.take n = l from List.take_of_length_le (by omega))
      have d1 : decide ((n : Int) < (l.length : Int)) = false := by simp; omega
      have cm : ¬ c = m := by omega
      have cm' : ¬ m = c := by omega
      have z1 := Lib.hid (fun (z : Value) (h : (Try.prog.info? 24).bind (·.zero) = some z) => zone_AcctV z h)
      go_wp2_with (refine wpList_clearR rfl _ _ rfl elAcctV z1.out (base := base) (g := g0) (n := l.length) (c := c) (i := m) rfl (fun _ => rfl) rfl (by omega) Hown.out ?_; intro w3 hown3 ho3; have HO3 := Lib.hid hown3; have Ho3 := Lib.hid ho3; clear hown3 ho3)
      go_ret
      exact ⟨_, rfl, by rw [← HT.out, ← Htk.out]; exact HO3.out, below_only Hbl.out Ho3.out (by omega) hg0, Haw.out.trans (Away.only Ho3.out (HT5.out _ rfl))⟩
theorem cap1 {w : World} {g : Nat} {u : Value} (hg : g < w.heap.size) (h0 : w.cell? ⟨g, 0, none⟩ = some u) : CapC w g [u] := by
  refine ⟨hg, fun j v hv => ?_⟩
  match j with
  | 0 => simp at hv; subst hv; exact h0
  | j + 1 => simp at hv
/-- A table in memory of its own. -/
def AcctPost1 (w : World) (L : List Acct) (e : Ending) (w' : World) : Prop :=
  ∃ (v : Value) (ys : List AcctV), e = .returned v ∧ ys.map lgA = L ∧ Own w' w.heap.size 24 4 v (ys.map encAcctV) ∧ (∀ y ∈ ys, Rs w' 1 (y.clients.val.map encI) y.clients.A y.clients.c) ∧ Below w.heap.size w w'
theorem filter_lg {ys l : List AcctV} (h : ys.map lgA = l.map lgA) (mem : Int) : (ys.filter (fun x => !(x.member != mem))).map lgA = (ofA l mem).map lgA := by
  have e : ∀ z : List AcctV, (z.filter (fun x => !(x.member != mem))).map lgA = (z.map lgA).filter (fun a => a.member == mem) := fun z => by
    rw [List.filter_map]
    congr 1
    apply List.filter_congr
    intro x _
    simp [bne, lgA]
  have e2 : (ofA l mem).map lgA = (l.map lgA).filter (fun a => a.member == mem) := by
    unfold ofA
    rw [List.filter_map]; rfl
  rw [e, e2, h]
set_option maxRecDepth 100000 in
set_option maxHeartbeats 8000000 in
theorem acctOf (l : List AcctV) (mem : Int) (A : Option Addr) (c : Nat) (w : World) (hl : l.length ≤ 900000) (hr : Rs w 4 (l.map encAcctV) A c) (hg : ∀ x ∈ l, x.clients.val.length ≤ 1048576 ∧ GoodA w x) :
    Calls Try.prog 32 #[.slice A l.length c, .int .i64 mem] w (AcctPost1 w ((ofA l mem).map lgA)) := by
  have HR := Lib.hid hr
  have HG := Lib.hid (fun W (h : Below w.heap.size w W) => acctCopied l A c W (by omega) (HR.out.rd.keep h) (fun x hx => ⟨(hg x hx).1, (hg x hx).2.keep h⟩))
  clear hr hg
  go_enter Try.func32, Try.ntmps32
  go_wp2_with (first | (go_at_call 65; (with_reducible refine (HG.out _ (by (repeat' (first | (with_reducible exact Below.refl _ _) | (with_reducible assumption) | (with_reducible refine Below.alloc ?_ ?_ _) | (with_reducible refine Below.setCell ?_ ?_ _) | (with_reducible refine Below.drew ?_) | (with_reducible refine below_drewN ?_ _) | (with_reducible refine below_via ?_ (by with_reducible assumption) ?_) | omega | (simp; done) | (simp; omega))))).mono ?_); rintro e w3 ⟨v3, ys, rfl, hlg3, hown3, hys3, hb3⟩; have HYL := Lib.hid (show ys.length = l.length from by have := congrArg List.length hlg3; simpa using this); have HL3 := Lib.hid hlg3; have HO3 := Lib.hid hown3; have HY3 := Lib.hid hys3; clear hown3 hlg3 hys3; obtain ⟨fc3, fg3, hc3, hf3, hz3⟩ := bget hb3; (try simp at hz3)) | (go_at_call 67; (with_reducible refine (acctOfDel ys mem v3 (w.heap.size + 1) w.heap.size _ (by rw [HYL.out]; omega) (by omega) ?_ (cap1 ?_ ?_) (by omega)).mono ?_); (focus (exact HO3.out.mono (by simp))); (focus (first | omega | (simp; done) | (simp; omega))); (focus (simp [hc3, go_sem]; done)); rintro e w4 ⟨v4, rfl, hown4, hb4, haw4⟩; have HO4 := Lib.hid hown4; have HA4 := Lib.hid haw4; clear hown4 haw4; have Hb4 := Lib.hid hb4; clear hb4) | fail)
  go_ret
  refine ⟨_, ys.filter (fun x => !(x.member != mem)), rfl, filter_lg HL3.out mem, HO4.out.mono (by omega), fun y hy => ?_, ?_⟩
  · exact Own.good ((HY3.out y (List.mem_filter.1 hy).1).away HA4.out (by decide))
  · have hb4 := Hb4.out
    (repeat' (first | (with_reducible exact Below.refl _ _) | (with_reducible assumption) | (with_reducible refine Below.alloc ?_ ?_ _) | (with_reducible refine Below.setCell ?_ ?_ _) | (with_reducible refine Below.drew ?_) | (with_reducible refine below_drewN ?_ _) | (with_reducible refine below_via ?_ (by with_reducible assumption) ?_) | omega | (simp; done) | (simp; omega)))
theorem acctHasV (x : AcctV) (u : Un) (w : World) (hl : x.clients.val.length ≤ 1000000) (hg : GoodA w x) :
    Calls Try.prog 16 #[.agg #[.int .i64 x.id, .int .i64 x.member, .int .i64 x.kind, .slice x.clients.A x.clients.val.length x.clients.c], .agg #[.int .i64 u.acc, .int .i64 u.cli]] w fun e w' => e = .returned (.bool (hasA (lgA x) u)) ∧ Below w.heap.size w w' :=
  acctHas (lgA x) u x.clients.A x.clients.c w hl hg.rd
set_option maxRecDepth 100000 in
set_option maxHeartbeats 8000000 in
theorem acctOwner (l : List AcctV) (u : Un) (A : Option Addr) (c : Nat) (w : World) (hl : l.length ≤ 900000) (hr : Rs w 4 (l.map encAcctV) A c) (hg : ∀ x ∈ l, x.clients.val.length ≤ 1000000 ∧ GoodA w x) :
    Calls Try.prog 34 #[.slice A l.length c, .agg #[.int .i64 u.acc, .int .i64 u.cli]] w fun e w' => e = .returned (.int .i64 (ownerA l u)) ∧ Below w.heap.size w w' := by
  have HR := Lib.hid hr.rd
  have HG := Lib.hid hg
  clear hr hg
  go_enter Try.func34, Try.ntmps34
  go_wp2_with fail
  go_loopw [9] (fun i wr => ∃ k : Nat, k ≤ l.length ∧ i = .int .i64 k ∧ Below w.heap.size w wr ∧ w.heap.size < wr.heap.size ∧ (wr.cell? ⟨w.heap.size, 0, none⟩ = some (.int .i64 u.acc) ∧ wr.cell? ⟨w.heap.size, 1, none⟩ = some (.int .i64 u.cli)) ∧ ∀ j (_ : j < l.length), j < k → hasA (lgA l[j]) u = false) (fun i _ => l.length - (intOf i).toNat)
  case atStart => exact ⟨0, Nat.zero_le _, rfl, by (repeat' (first | (with_reducible exact Below.refl _ _) | (with_reducible assumption) | (with_reducible refine Below.alloc ?_ ?_ _) | (with_reducible refine Below.setCell ?_ ?_ _) | (with_reducible refine Below.drew ?_) | (with_reducible refine below_drewN ?_ _) | (with_reducible refine below_via ?_ (by with_reducible assumption) ?_) | omega | (simp; done) | (simp; omega))), by simp, by simp [go_sem], fun j _ h => absurd h (by omega)⟩
  case round =>
    obtain ⟨k, hk, rfl, hbl, hsz, ⟨g0, g1⟩, hno⟩ := hrel
    have Hbl := Lib.hid hbl
    have Hno := Lib.hid hno
    have hz := hbl.size
    clear hbl hno
    by_cases hlt : k < l.length
    · have kl : (k : Int) < (l.length : Int) := by omega
      have dl : decide ((k : Int) < (l.length : Int)) = true := by simpa using hlt
      obtain ⟨b, o, rfl, hb, hc⟩ := HR.out k (encAcctV l[k]) (by simp [hlt])
      have c0 := (Hbl.out.cell (p := ⟨b, o + k * 4 + 0, none⟩) hb).trans (hc 0 _ rfl)
      have c1 := (Hbl.out.cell (p := ⟨b, o + k * 4 + 1, none⟩) hb).trans (hc 1 _ rfl)
      have c2 := (Hbl.out.cell (p := ⟨b, o + k * 4 + 2, none⟩) hb).trans (hc 2 _ rfl)
      have c3 := (Hbl.out.cell (p := ⟨b, o + k * 4 + 3, none⟩) hb).trans (hc 3 _ rfl)
      simp only [Nat.add_zero] at c0
      clear hc
      have hx := HG.out l[k] (List.getElem_mem hlt)
      have HX := Lib.hid (fun W (h : Below w.heap.size w W) => acctHasV l[k] u W hx.1 (hx.2.keep h))
      clear hx
      cases hm : hasA (lgA l[k]) u
      all_goals
        have Hm := Lib.hid hm
        clear hm
      · go_wp2_with (go_at_call 16; (with_reducible refine (HX.out _ (by have hbl := Hbl.out; (repeat' (first | (with_reducible exact Below.refl _ _) | (with_reducible assumption) | (with_reducible refine Below.alloc ?_ ?_ _) | (with_reducible refine Below.setCell ?_ ?_ _) | (with_reducible refine Below.drew ?_) | (with_reducible refine below_drewN ?_ _) | (with_reducible refine below_via ?_ (by with_reducible assumption) ?_) | omega | (simp; done) | (simp; omega))))).mono ?_); rw [Hm.out]; rintro e w1 ⟨rfl, hb1⟩; obtain ⟨fc1, fg1, hc1, hf1, hz1⟩ := bget hb1; (try simp at hz1))
        go_roundw
        case rel => exact ⟨k + 1, by omega, by go_num, by have hbl := Hbl.out; (repeat' (first | (with_reducible exact Below.refl _ _) | (with_reducible assumption) | (with_reducible refine Below.alloc ?_ ?_ _) | (with_reducible refine Below.setCell ?_ ?_ _) | (with_reducible refine Below.drew ?_) | (with_reducible refine below_drewN ?_ _) | (with_reducible refine below_via ?_ (by with_reducible assumption) ?_) | omega | (simp; done) | (simp; omega))), by first | omega | (simp at hz1; omega), ⟨by rw [hc1]; simp [go_sem, g0, hsz], by rw [hc1]; simp [go_sem, g1, hsz]⟩, fun j hj h => by
          rcases Nat.lt_or_ge j k with h1 | h1
          · exact Hno.out j hj h1
          · obtain rfl : j = k := by omega
            exact Hm.out⟩
        case measure => simp [intOf]; omega
      · have HE := Lib.hid (show ownerA l u = l[k].member from by
          unfold ownerA
          rw [show l.find? (fun x => hasA (lgA x) u) = some l[k] from by
            rw [List.find?_eq_some_iff_getElem]
            exact ⟨Hm.out, k, hlt, rfl, fun j hj => by simp [Hno.out j (by omega) hj]⟩])
        go_wp2_with (go_at_call 16; (with_reducible refine (HX.out _ (by have hbl := Hbl.out; (repeat' (first | (with_reducible exact Below.refl _ _) | (with_reducible assumption) | (with_reducible refine Below.alloc ?_ ?_ _) | (with_reducible refine Below.setCell ?_ ?_ _) | (with_reducible refine Below.drew ?_) | (with_reducible refine below_drewN ?_ _) | (with_reducible refine below_via ?_ (by with_reducible assumption) ?_) | omega | (simp; done) | (simp; omega))))).mono ?_); rw [Hm.out]; rintro e w1 ⟨rfl, hb1⟩; obtain ⟨fc1, fg1, hc1, hf1, hz1⟩ := bget hb1; (try simp at hz1))
        go_ret
        exact ⟨by rw [HE.out]; rfl, by have hbl := Hbl.out; (repeat' (first | (with_reducible exact Below.refl _ _) | (with_reducible assumption) | (with_reducible refine Below.alloc ?_ ?_ _) | (with_reducible refine Below.setCell ?_ ?_ _) | (with_reducible refine Below.drew ?_) | (with_reducible refine below_drewN ?_ _) | (with_reducible refine below_via ?_ (by with_reducible assumption) ?_) | omega | (simp; done) | (simp; omega)))⟩
    · have dl : decide ((k : Int) < (l.length : Int)) = false := by simpa using hlt
      have HE := Lib.hid (show ownerA l u = 0 from by
        unfold ownerA
        rw [List.find?_eq_none.2 (fun x hx => by
          obtain ⟨j, hj, rfl⟩ := List.mem_iff_getElem.1 hx
          simp [Hno.out j hj (by omega)])])
      go_wp2_with fail
      go_ret
      exact ⟨by rw [HE.out]; rfl, Hbl.out⟩
set_option maxRecDepth 100000 in
set_option maxHeartbeats 1000000 in
theorem acctLess (a b : Un) (w : World) :
    Calls Try.prog 24 #[.agg #[.int .i64 a.acc, .int .i64 a.cli], .agg #[.int .i64 b.acc, .int .i64 b.cli]] w fun e w' => e = .returned (.bool (lessU a b)) ∧ Below w.heap.size w w' := by
  cases he : (a.acc == b.acc)
  · have hne : (a.acc != b.acc) = true := by simp only [bne, he]; rfl
    have HE := Lib.hid (show lessU a b = decide (a.acc < b.acc) from by unfold lessU; rw [he]; simp)
    go_enter Try.func24, Try.ntmps24
    go_wp2_with fail
    go_ret
    exact ⟨by rw [HE.out]; rfl, by (repeat' (first | (with_reducible exact Below.refl _ _) | (with_reducible assumption) | (with_reducible refine Below.alloc ?_ ?_ _) | (with_reducible refine Below.setCell ?_ ?_ _) | (with_reducible refine Below.drew ?_) | (with_reducible refine below_drewN ?_ _) | (with_reducible refine below_via ?_ (by with_reducible assumption) ?_) | omega | (simp; done) | (simp; omega)))⟩
  · have hne : (a.acc != b.acc) = false := by simp only [bne, he]; rfl
    have heq : a.acc = b.acc := by simpa using he
    have HE := Lib.hid (show lessU a b = decide (a.cli < b.cli) from by unfold lessU; rw [he]; simp [heq])
    clear heq
    go_enter Try.func24, Try.ntmps24
    go_wp2_with fail
    go_ret
    exact ⟨by rw [HE.out]; rfl, by (repeat' (first | (with_reducible exact Below.refl _ _) | (with_reducible assumption) | (with_reducible refine Below.alloc ?_ ?_ _) | (with_reducible refine Below.setCell ?_ ?_ _) | (with_reducible refine Below.drew ?_) | (with_reducible refine below_drewN ?_ _) | (with_reducible refine below_via ?_ (by with_reducible assumption) ?_) | omega | (simp; done) | (simp; omega)))⟩
set_option maxRecDepth 100000 in
set_option maxHeartbeats 1000000 in
theorem ref15Less (a b : Un) (w : World) :
    Calls Try.prog 36 #[.agg #[.int .i64 a.acc, .int .i64 a.cli], .agg #[.int .i64 b.acc, .int .i64 b.cli]] w fun e w' => e = .returned (.bool (lessU a b)) ∧ Below w.heap.size w w' := by
  by_cases h1 : a.acc < b.acc
  · have d1 := decide_eq_true h1
    have HE := Lib.hid (show lessU a b = true from by unfold lessU; simp [h1])
    go_enter Try.func36, Try.ntmps36
    go_wp2_with fail
    go_ret
    exact ⟨by rw [HE.out]; rfl, by (repeat' (first | (with_reducible exact Below.refl _ _) | (with_reducible assumption) | (with_reducible refine Below.alloc ?_ ?_ _) | (with_reducible refine Below.setCell ?_ ?_ _) | (with_reducible refine Below.drew ?_) | (with_reducible refine below_drewN ?_ _) | (with_reducible refine below_via ?_ (by with_reducible assumption) ?_) | omega | (simp; done) | (simp; omega)))⟩
  · have d1 := decide_eq_false h1
    cases he : (a.acc == b.acc)
    · have HE := Lib.hid (show lessU a b = false from by unfold lessU; rw [he, d1]; rfl)
      go_enter Try.func36, Try.ntmps36
      go_wp2_with fail
      go_ret
      exact ⟨by rw [HE.out]; rfl, by (repeat' (first | (with_reducible exact Below.refl _ _) | (with_reducible assumption) | (with_reducible refine Below.alloc ?_ ?_ _) | (with_reducible refine Below.setCell ?_ ?_ _) | (with_reducible refine Below.drew ?_) | (with_reducible refine below_drewN ?_ _) | (with_reducible refine below_via ?_ (by with_reducible assumption) ?_) | omega | (simp; done) | (simp; omega)))⟩
    · have HE := Lib.hid (show lessU a b = decide (a.cli < b.cli) from by unfold lessU; rw [he, d1]; simp)
      go_enter Try.func36, Try.ntmps36
      go_wp2_with fail
      go_ret
      exact ⟨by rw [HE.out]; rfl, by (repeat' (first | (with_reducible exact Below.refl _ _) | (with_reducible assumption) | (with_reducible refine Below.alloc ?_ ?_ _) | (with_reducible refine Below.setCell ?_ ?_ _) | (with_reducible refine Below.drew ?_) | (with_reducible refine below_drewN ?_ _) | (with_reducible refine below_via ?_ (by with_reducible assumption) ?_) | omega | (simp; done) | (simp; omega)))⟩
end Go.Proofs.Ytemhhojenocddaa
