/- Accounts in tables: contracts of acct.own, copied, place, Find. -/
import Derived.Test.YtemhhojenocddaaAcct3
import Derived.Test.YtemhhojenocddaaList2
namespace Go.Proofs.Ytemhhojenocddaa
open Go.RowKit
set_option maxRecDepth 100000 in
set_option maxHeartbeats 4000000 in
theorem acctOwn (x : AcctV) (w : World) (hl : x.clients.val.length ≤ 1048576) (hg : Rs w 1 (x.clients.val.map encI) x.clients.A x.clients.c) :
    Calls Try.prog 66 #[.agg #[.int .i64 x.id, .int .i64 x.member, .int .i64 x.kind, .slice x.clients.A x.clients.val.length x.clients.c]] w fun e w' => ∃ s : SlOf _, s.val = x.clients.val ∧ e = .returned (.agg #[.int .i64 x.id, .int .i64 x.member, .int .i64 x.kind, .slice s.A s.val.length s.c]) ∧ Own w' w.heap.size 3 1 (.slice s.A s.val.length s.c) (s.val.map encI) ∧ Below w.heap.size w w' := by
  have HG := Lib.hid hg
  clear hg
  go_enter Try.func66, Try.ntmps66
  go_wp2_with (first | (go_at_call 62; (with_reducible refine (natsClone x.clients.val x.clients.A x.clients.c _ (by omega) (HG.out.keep (by (repeat' (first | (with_reducible exact Below.refl _ _) | (with_reducible assumption) | (with_reducible refine Below.alloc ?_ ?_ _) | (with_reducible refine Below.setCell ?_ ?_ _) | (with_reducible refine Below.drew ?_) | (with_reducible refine below_drewN ?_ _) | (with_reducible refine below_via ?_ (by with_reducible assumption) ?_) | omega | (simp; done) | (simp; omega)))))).mono ?_); rintro e w3 ⟨v3, rfl, hown3, hb3⟩; obtain ⟨A3, c3, hv3, hrs3, hform3⟩ := hown3.rs; rw [List.length_map] at hv3; subst hv3; have HO3 := Lib.hid hown3; clear hown3 hrs3 hform3; obtain ⟨fc3, fg3, hc3, hf3, hz3⟩ := bget hb3; (try simp at hz3)) | fail)
  refine bodyPost_ret (v := .agg #[.int .i64 x.id, .int .i64 x.member, .int .i64 x.kind, .slice A3 x.clients.val.length c3]) (by simp [results, Try.results66, go_sem, hc3]; try rfl) rfl ⟨⟨A3, c3, x.clients.val⟩, rfl, rfl, ?_, ?_⟩
  · refine Own.mono (base := w.heap.size + 2) ?_ (by omega)
    have h0 := HO3.out.mono (b := w.heap.size + 2) (by simp)
    (repeat' (first | (with_reducible assumption) | (with_reducible refine Own.farLow ?_ ?_ _) | (simp; done) | omega))
  · (repeat' (first | (with_reducible exact Below.refl _ _) | (with_reducible assumption) | (with_reducible refine Below.alloc ?_ ?_ _) | (with_reducible refine Below.setCell ?_ ?_ _) | (with_reducible refine Below.drew ?_) | (with_reducible refine below_drewN ?_ _) | (with_reducible refine below_via ?_ (by with_reducible assumption) ?_) | omega | (simp; done) | (simp; omega)))
set_option maxRecDepth 100000 in
set_option maxHeartbeats 8000000 in
theorem acctCopied (l : List AcctV) (A : Option Addr) (c : Nat) (w : World) (hl : l.length ≤ 1000000) (hr : Rd w A 4 (l.map encAcctV)) (hg : ∀ x ∈ l, x.clients.val.length ≤ 1048576 ∧ Rs w 1 (x.clients.val.map encI) x.clients.A x.clients.c) :
    Calls Try.prog 65 #[.slice A l.length c] w fun e w' => ∃ (v : Value) (ys : List AcctV), e = .returned v ∧ ys.map lgA = l.map lgA ∧ Own w' w.heap.size 24 4 v (ys.map encAcctV) ∧ (∀ y ∈ ys, Own w' w.heap.size 3 1 (.slice y.clients.A y.clients.val.length y.clients.c) (y.clients.val.map encI)) ∧ Below w.heap.size w w' := by
  have HR := Lib.hid hr
  have HG := Lib.hid hg
  clear hr hg
  go_enter Try.func65, Try.ntmps65
  go_wp2_with fail
  go_loopw [3, 8] (fun v i wr => ∃ (k : Nat) (ys : List AcctV), k ≤ l.length ∧ i = .int .i64 k ∧ ys.map lgA = (l.take k).map lgA ∧ Own wr w.heap.size 24 4 v (ys.map encAcctV) ∧ (∀ y ∈ ys, Own wr w.heap.size 3 1 (.slice y.clients.A y.clients.val.length y.clients.c) (y.clients.val.map encI)) ∧ Below w.heap.size w wr) (fun _ i _ => l.length - (intOf i).toNat)
  case atStart => exact ⟨0, [], Nat.zero_le _, rfl, rfl, Own.nil _ _ _ _, fun y hy => absurd hy (by simp), Below.refl _ _⟩
  case round =>
    obtain ⟨k, ys, hk, rfl, hlg, hown, hgd, hbl⟩ := hrel
    have Hlg := Lib.hid hlg
    have Hown := Lib.hid hown
    have Hgd := Lib.hid hgd
    have Hbl := Lib.hid hbl
    have hz := hbl.size
    have hyl : ys.length = k := by have := congrArg List.length hlg; simp only [List.length_map, List.length_take] at this; omega
    clear hlg hown hgd hbl
    by_cases hlt : k < l.length
    · have hki : (k : Int) < (l.length : Int) := by omega
      have dl : decide ((k : Int) < (l.length : Int)) = true := by simpa using hlt
      have hx := HG.out l[k] (List.getElem_mem hlt)
      have HX := Lib.hid (fun W (h : Below w.heap.size w W) => acctOwn l[k] W hx.1 (hx.2.keep h))
      clear hx
      obtain ⟨b, o, rfl, hb, hc⟩ := HR.out k (encAcctV l[k]) (by simp [hlt])
      have e0 := (Hbl.out.cell (p := ⟨b, o + k * 4 + 0, none⟩) hb).trans (hc 0 _ rfl)
      have e1 := (Hbl.out.cell (p := ⟨b, o + k * 4 + 1, none⟩) hb).trans (hc 1 _ rfl)
      have e2 := (Hbl.out.cell (p := ⟨b, o + k * 4 + 2, none⟩) hb).trans (hc 2 _ rfl)
      have e3 := (Hbl.out.cell (p := ⟨b, o + k * 4 + 3, none⟩) hb).trans (hc 3 _ rfl)
      simp only [Nat.add_zero] at e0
      clear hc
      have HM := Lib.hid (show (l.take (k + 1)).map lgA = (l.take k).map lgA ++ [lgA l[k]] from map_snoc hlt _)
      go_wp2_with (first | (go_at_call 66; (with_reducible refine (HX.out _ (by have hbl := Hbl.out; (repeat' (first | (with_reducible exact Below.refl _ _) | (with_reducible assumption) | (with_reducible refine Below.alloc ?_ ?_ _) | (with_reducible refine Below.setCell ?_ ?_ _) | (with_reducible refine Below.drew ?_) | (with_reducible refine below_drewN ?_ _) | (with_reducible refine below_via ?_ (by with_reducible assumption) ?_) | omega | (simp; done) | (simp; omega))))).mono ?_); rintro e w1 ⟨s, hs, rfl, hown1, hb1⟩; have Hs := Lib.hid hs; have Hown1 := Lib.hid hown1; have Hb1 := Lib.hid hb1; have hz1 := hb1.size; (try simp at hz1); clear hown1 hb1 hs) | (at_builtin; refine wpList_appG rfl _ _ _ rfl elAcctV w.heap.size _ _ rfl (((Hown.out.alloc _).keep Hb1.out).alloc _) ⟨w1.heap.size, 0, none⟩ 1 1 rfl [encAcctV { l[k] with clients := s }] rfl rd_one (rowsAcctV [_]) (by unfold maxLen; simp; omega) (by simp; omega) (by simp; omega) ?_; intro v2 w2 hown2 hb2 hg2; have Hown2 := Lib.hid hown2; have Hb2 := Lib.hid hb2; have Hg2 := Lib.hid hg2; have hz2 := hb2.size; (try simp at hz2); clear hown2 hb2 hg2) | fail)
      go_roundw
      case rel =>
        have haw : Away 24 w1 w2 := (Away.below ((Below.refl _ _).alloc (Nat.le_refl _) _)).trans (Away.grown Hg2.out (Own.typed (((Hown.out.alloc _).keep Hb1.out).alloc _)))
        have ha1 : Away 24 wr w1 := (Away.below ((Below.refl _ _).alloc (Nat.le_refl _) _)).trans (Away.below Hb1.out)
        refine ⟨k + 1, ys ++ [{ l[k] with clients := s }], by omega, by go_num, ?_, ?_, ?_, ?_⟩
        · rw [HM.out, List.map_append, Hlg.out]
          congr 1
          simp only [List.map_cons, List.map_nil, lgA, Hs.out]
        · rw [List.map_append]; exact Hown2.out
        · intro y hy
          rcases List.mem_append.1 hy with h | h
          · exact (Hgd.out y h).away (ha1.trans haw) (by decide)
          · rw [List.mem_singleton] at h
            subst h
            exact ((Hown1.out.mono (by simp; omega)).away haw (by decide))
        · have hbl := Hbl.out
          have hb1 := Hb1.out
          have hb2 := Hb2.out
          (repeat' (first | (with_reducible exact Below.refl _ _) | (with_reducible assumption) | (with_reducible refine Below.alloc ?_ ?_ _) | (with_reducible refine Below.setCell ?_ ?_ _) | (with_reducible refine Below.drew ?_) | (with_reducible refine below_drewN ?_ _) | (with_reducible refine below_via ?_ (by with_reducible assumption) ?_) | omega | (simp; done) | (simp; omega)))
      case measure => simp [intOf]; omega
    · have dl : decide ((k : Int) < (l.length : Int)) = false := by simpa using hlt
      have HM := Lib.hid (show l.take k = l from List.take_of_length_le (by omega))
      go_wp2_with fail
      go_ret
      exact ⟨_, ys, rfl, by rw [Hlg.out, HM.out], Hown.out, Hgd.out, Hbl.out⟩
abbrev plN (l : List AcctV) (id : Int) : Nat := (l.takeWhile (fun x : AcctV => decide (x.id < id))).length
abbrev plB (l : List AcctV) (id : Int) : Bool := atB (fun x : AcctV => x.id == id) l (plN l id)
set_option maxRecDepth 100000 in
set_option maxHeartbeats 4000000 in
theorem acctPlace (l : List AcctV) (id : Int) (A : Option Addr) (c : Nat) (w : World) (hl : l.length ≤ 1099511627776) (hr : Rd w A 4 (l.map encAcctV)) :
    Calls Try.prog 63 #[.slice A l.length c, .int .i64 id] w fun e w' => e = .returned (.tuple #[.int .i64 (plN l id), .bool (plB l id)]) ∧ Below w.heap.size w w' := by
  have HR := Lib.hid hr
  clear hr
  go_enter Try.func63, Try.ntmps63
  go_wp2_with fail
  go_loopw [10] (fun i wr => ∃ k : Nat, k ≤ l.length ∧ i = .int .i64 k ∧ Below w.heap.size w wr ∧ ∀ j (_ : j < l.length), j < k → (fun x : AcctV => decide (x.id < id)) l[j] = true) (fun i _ => l.length - (intOf i).toNat)
  case atStart => exact ⟨0, Nat.zero_le _, rfl, Below.refl _ _, fun j _ h => absurd h (by omega)⟩
  case round =>
    obtain ⟨k, hk, rfl, hbl, hno⟩ := hrel
    have Hbl := Lib.hid hbl
    have Hno := Lib.hid hno
    have hz := hbl.size
    clear hbl hno
    by_cases hlt : k < l.length
    · have kl : (k : Int) < (l.length : Int) := by omega
      have dl : decide ((k : Int) < (l.length : Int)) = true := by simpa using hlt
      obtain ⟨b, o, rfl, hb, hc⟩ := HR.out k (encAcctV l[k]) (by simp [hlt])
      have c0 := (Hbl.out.cell (p := ⟨b, o + k * 4 + 0, none⟩) hb).trans (hc 0 _ rfl)
      have c1 := (Hbl.out.cell (p := ⟨b, o + k * 4 + 1, none⟩) hb).trans (hc 1 _ rfl)
      have c2 := (Hbl.out.cell (p := ⟨b, o + k * 4 + 2, none⟩) hb).trans (hc 2 _ rfl)
      have c3 := (Hbl.out.cell (p := ⟨b, o + k * 4 + 3, none⟩) hb).trans (hc 3 _ rfl)
      simp only [Nat.add_zero] at c0
      clear hc
      by_cases hm : l[k].id < id
      · have d1 : decide (id ≤ l[k].id) = false := decide_eq_false (by omega)
        go_wp2_with fail
        go_roundw
        case rel => exact ⟨k + 1, by omega, by go_num, by have hbl := Hbl.out; (repeat' (first | (with_reducible exact Below.refl _ _) | (with_reducible assumption) | (with_reducible refine Below.alloc ?_ ?_ _) | (with_reducible refine Below.setCell ?_ ?_ _) | (with_reducible refine Below.drew ?_) | (with_reducible refine below_drewN ?_ _) | (with_reducible refine below_via ?_ (by with_reducible assumption) ?_) | omega | (simp; done) | (simp; omega))), fun j hj h => by
          rcases Nat.lt_or_ge j k with h1 | h1
          · exact Hno.out j hj h1
          · obtain rfl : j = k := by omega
            exact decide_eq_true hm⟩
        case measure => simp [intOf]; omega
      · have d1 : decide (id ≤ l[k].id) = true := decide_eq_true (by omega)
        have hw := while_cut (p := fun x : AcctV => decide (x.id < id)) Hno.out hk (fun _ => decide_eq_false hm)
        have hn : plN l id = k := by unfold plN; rw [hw.1, List.length_take]; omega
        have HN := Lib.hid hn
        have HB := Lib.hid (show plB l id = (l[k].id == id) from by unfold plB; rw [hn]; exact atB_some hlt)
        clear hw hn
        cases hm2 : (l[k].id == id)
        all_goals
          have Hm2 := Lib.hid hm2
          go_wp2_with fail
          go_quiet (fail)
          go_wp2_with fail
          go_ret2
          exact ⟨by rw [HB.out, HN.out, Hm2.out]; rfl, by have hbl := Hbl.out; (repeat' (first | (with_reducible exact Below.refl _ _) | (with_reducible assumption) | (with_reducible refine Below.alloc ?_ ?_ _) | (with_reducible refine Below.setCell ?_ ?_ _) | (with_reducible refine Below.drew ?_) | (with_reducible refine below_drewN ?_ _) | (with_reducible refine below_via ?_ (by with_reducible assumption) ?_) | omega | (simp; done) | (simp; omega)))⟩
    · have dl : decide ((k : Int) < (l.length : Int)) = false := by simpa using hlt
      have hw := while_cut (p := fun x : AcctV => decide (x.id < id)) Hno.out hk (fun h => absurd h hlt)
      have hn : plN l id = l.length := by unfold plN; rw [hw.1, List.length_take]; omega
      have HN := Lib.hid hn
      have HB := Lib.hid (show plB l id = false from by unfold plB; rw [hn]; exact atB_none (Nat.le_refl _))
      clear hw hn
      go_wp2_with fail
      go_ret2
      exact ⟨by rw [HB.out, HN.out]; rfl, Hbl.out⟩
/-- In a table by number, what stands where a number would is the one that is found. -/
theorem find_place {l : List AcctV} (hs : SortedAcctV l) (id : Int) : (findAcctV l id).2 = plB l id ∧ ∀ (h : plN l id < l.length), plB l id = true → findAcctV l id = (l[plN l id], true) := by
  induction l with
  | nil => exact ⟨rfl, fun h => absurd h (by simp)⟩
  | cons d t ih =>
    unfold SortedAcctV at hs ih
    rw [List.pairwise_cons] at hs
    by_cases h : d.id < id
    · have hn : plN (d :: t) id = plN t id + 1 := by unfold plN; rw [List.takeWhile_cons_of_pos (by simpa using h)]; rfl
      have h1 : (d.id == id) = false := by rw [beq_eq_false_iff_ne]; omega
      have hf : findAcctV (d :: t) id = findAcctV t id := by unfold findAcctV; rw [List.find?_cons_of_neg (by simp [h1])]
      have hb : plB (d :: t) id = plB t id := by unfold plB; rw [hn]; unfold atB; simp
      obtain ⟨i1, i2⟩ := ih hs.2
      refine ⟨by rw [hf, hb]; exact i1, fun hl hq => ?_⟩
      have hl2 : plN t id < t.length := by rw [hn] at hl; simpa using hl
      rw [hf, i2 hl2 (by rw [← hb]; exact hq)]
      simp [hn]
    · have hn : plN (d :: t) id = 0 := by unfold plN; rw [List.takeWhile_cons_of_neg (by simpa using h)]; rfl
      have hb : plB (d :: t) id = (d.id == id) := by unfold plB; rw [hn]; rfl
      cases e : (d.id == id)
      · have hno : ∀ x ∈ t, (x.id == id) = false := fun x hx => by
          have := hs.1 x hx
          rw [beq_eq_false_iff_ne]; omega
        have hf : (findAcctV (d :: t) id).2 = false := by
          unfold findAcctV
          rw [List.find?_eq_none.2 (fun x hx => by
            rcases List.mem_cons.1 hx with rfl | hx
            · simp [e]
            · simp [hno x hx])]
        exact ⟨by rw [hf, hb, e], fun _ hq => by rw [hb, e] at hq; cases hq⟩
      · have hf : findAcctV (d :: t) id = (d, true) := by unfold findAcctV; rw [List.find?_cons_of_pos (by simp [e])]
        exact ⟨by rw [hf, hb, e], fun _ _ => by rw [hf]; simp [hn]⟩
theorem plB_lt {l : List AcctV} {id : Int} (h : plB l id = true) : plN l id < l.length := by
  rcases Nat.lt_or_ge (plN l id) l.length with h1 | h1
  · exact h1
  · rw [show plB l id = false from atB_none h1] at h; cases h
end Go.Proofs.Ytemhhojenocddaa
