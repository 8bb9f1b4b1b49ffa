/- Joined: Bk2, VecAdds, VecPlain, Ref11d, Ref11e, VecBack, VecTurns. -/
import Derived.Test.YtiidplinmempcaaJz6
import Derived.Test.YtiidplinmempcaaJz9
import Derived.Test.YtiidplinmempcaaJz4
import Derived.Test.YtiidplinmempcaaJz5
import Derived.Outline
/- Books: contracts of book.Of, the reference's book.Of, Same; the law's Few. -/
namespace Go.Proofs.Ytiidplinmempcaa
open Go.RowKit
set_option maxRecDepth 100000 in
set_option maxHeartbeats 1000000 in
theorem legClone (l : List Leg) (A : Option Addr) (c : Nat) (w : World) (hl : l.length ≤ 1099511627776) (hr : Rs w 2 (l.map encLeg) A c) :
    Calls Try.prog 95 #[.slice A l.length c] w fun e w' => ∃ v, e = .returned v ∧ Own w' w.heap.size 116 2 v (l.map encLeg) ∧ Below w.heap.size w w' := by
  have Hr := Lib.hid hr
  have hnil := fun W : World => Lib.run_eql_slice_nil (P := Try.prog) W 23 116 A l.length c 0 0 Try.underlying23
  rcases A with _ | ad
  · have hl0 : l = [] := List.map_eq_nil_iff.1 hr.nilrows
    have hc0 : c = 0 := hr.nil rfl
    subst hl0 hc0
    simp only [List.length_nil] at hnil ⊢
    clear hr
    go_enter Try.func95, Try.ntmps95
    go_wp2_with fail
    go_ret
    exact ⟨_, rfl, Own.nil _ _ _ _, by (repeat' (first | (with_reducible exact Below.refl _ _) | (with_reducible assumption) | (with_reducible refine Below.alloc ?_ ?_ _) | (with_reducible refine Below.setCell ?_ ?_ _) | (with_reducible refine Below.drew ?_) | (with_reducible refine below_drewN ?_ _) | (with_reducible refine below_via ?_ (by with_reducible assumption) ?_) | omega | (simp; done) | (simp; omega)))⟩
  · clear hr
    go_enter Try.func95, Try.ntmps95
    go_wp2_with (at_builtin; refine wpList_app rfl _ _ _ rfl elLeg w.heap.size _ [] rfl (Own.made w (Nat.le_refl _)) (some ad) l.length c rfl (l.map encLeg) (by simp) (fun h => by cases h) (Hr.out.keep ((Below.refl _ _).alloc (Nat.le_refl _) _)).rd (rowsLeg l) (by unfold maxLen; simp; omega) (by simp; omega) (by simp) ?_; intro v' w3 hown3 hb3)
    go_ret
    exact ⟨v', rfl, by simpa using hown3, ((Below.refl _ _).alloc (Nat.le_refl _) _).trans hb3⟩
theorem few_inPosV (l : List Leg) (m : Nat) (hm : (l.take 12).length = m) (A : Option Addr) (c : Nat) (w : World) (hr : Rs w 2 (l.map encLeg) A c) :
    Calls Try.prog 13 #[.slice A l.length c] w fun e w' => e = .returned (.slice A m c) ∧ Below w.heap.size w w' :=
  (law11FewN l m (Lib.hid hm) A c w (by have h1 := hr.cap; have h2 := hr.room; rw [List.length_map] at h1; omega) hr).mono fun e w' h => ⟨h.1, by rw [← h.2]; exact Below.refl _ _⟩
set_option maxRecDepth 100000 in
set_option maxHeartbeats 8000000 in
theorem bookOf (l : List PosV) (u : Un) (A : Option Addr) (c : Nat) (w : World) (hl : l.length ≤ 1000000) (hr : Rd w A 3 (l.map encPosV)) (hg : ∀ x ∈ l, GoodPosV w x) :
    Calls Try.prog 39 #[.slice A l.length c, .agg #[.int .i64 u.acc, .int .i64 u.cli]] w fun e w' => ∃ v, e = .returned v ∧ Own w' w.heap.size 116 2 v ((ofK (l.map lgPosV) u).map encLeg) ∧ Below w.heap.size w w' := by
  have HR := Lib.hid hr
  have HG := Lib.hid hg
  clear hr hg
  go_enter Try.func39, Try.ntmps39
  go_wp2_with fail
  go_loopw [9] (fun i wr => ∃ k : Nat, k ≤ l.length ∧ i = .int .i64 k ∧ ofK (l.map lgPosV) u = ofK ((l.drop k).map lgPosV) u ∧ Below w.heap.size w wr ∧ w.heap.size < wr.heap.size ∧ wr.cell? ⟨w.heap.size, 0, none⟩ = some (.int .i64 u.acc) ∧ wr.cell? ⟨w.heap.size, 1, none⟩ = some (.int .i64 u.cli)) (fun i _ => l.length - (intOf i).toNat)
  case atStart => exact ⟨0, Nat.zero_le _, rfl, rfl, by (repeat' (first | (with_reducible exact Below.refl _ _) | (with_reducible assumption) | (with_reducible refine Below.alloc ?_ ?_ _) | (with_reducible refine Below.setCell ?_ ?_ _) | (with_reducible refine Below.drew ?_) | (with_reducible refine below_drewN ?_ _) | (with_reducible refine below_via ?_ (by with_reducible assumption) ?_) | omega | (simp; done) | (simp; omega))), by simp, by simp [go_sem], by simp [go_sem]⟩
  case round =>
    obtain ⟨k, hk, rfl, hv, hbl, hsz, g0, g1⟩ := hrel
    have HV := Lib.hid hv
    have Hbl := Lib.hid hbl
    have hz := hbl.size
    clear hv hbl
    by_cases hlt : k < l.length
    · have kl : (k : Int) < (l.length : Int) := by omega
      have dl : decide ((k : Int) < (l.length : Int)) = true := by simpa using hlt
      have hgk := HG.out l[k] (List.getElem_mem hlt)
      have hli := hgk.1
      have HGK := Lib.hid (hgk.2.keep Hbl.out)
      have hd := lg_atPosV hlt
      clear hgk
      obtain ⟨b, o, rfl, hb, hc⟩ := HR.out k (encPosV l[k]) (by simp [hlt])
      have e0 := (Hbl.out.cell (p := ⟨b, o + k * 3 + 0, none⟩) hb).trans (hc 0 _ rfl)
      have e1 := (Hbl.out.cell (p := ⟨b, o + k * 3 + 1, none⟩) hb).trans (hc 1 _ rfl)
      have e2 := (Hbl.out.cell (p := ⟨b, o + k * 3 + 2, none⟩) hb).trans (hc 2 _ rfl)
      simp only [Nat.add_zero] at e0
      clear hc
      have hbw : b < wr.heap.size := by omega
      rcases un_tPosV (x := l[k].unit) (u := u) with h | h
      · have HN := Lib.hid (show ofK (l.map lgPosV) u = l[k].legs.val from by rw [HV.out, hd]; unfold ofK; rw [if_pos (show (lgPosV l[k]).unit = u from h)]; rfl)
        rw [h] at e0 e1
        clear hd h
        go_wp2_with (first | (go_at_call 95; (with_reducible refine (legClone l[k].legs.val l[k].legs.A l[k].legs.c _ (by omega) (HGK.out.keep (by (repeat' (first | (with_reducible exact Below.refl _ _) | (with_reducible assumption) | (with_reducible refine Below.alloc ?_ ?_ _) | (with_reducible refine Below.setCell ?_ ?_ _) | (with_reducible refine Below.drew ?_) | (with_reducible refine below_drewN ?_ _) | (with_reducible refine below_via ?_ (by with_reducible assumption) ?_) | omega | (simp; done) | (simp; omega)))))).mono ?_); rintro e w3 ⟨v3, rfl, hown3, hb3⟩; obtain ⟨fc3, fg3, hc3, hf3, hz3⟩ := bget hb3; (try simp at hz3)) | fail)
        go_ret
        exact ⟨_, rfl, by rw [HN.out]; exact hown3.mono (by first | omega | (simp; done) | (simp; omega)), by have hbl := Hbl.out; (repeat' (first | (with_reducible exact Below.refl _ _) | (with_reducible assumption) | (with_reducible refine Below.alloc ?_ ?_ _) | (with_reducible refine Below.setCell ?_ ?_ _) | (with_reducible refine Below.drew ?_) | (with_reducible refine below_drewN ?_ _) | (with_reducible refine below_via ?_ (by with_reducible assumption) ?_) | omega | (simp; done) | (simp; omega)))⟩
      · have HN := Lib.hid (show ofK (l.map lgPosV) u = ofK ((l.drop (k + 1)).map lgPosV) u from by rw [HV.out, hd, ofK, if_neg (show ¬ (lgPosV l[k]).unit = u from un_dPosV h)])
        clear hd
        rcases h with h | h
        all_goals
          go_wp2_with fail
          go_roundw
          case rel => exact ⟨k + 1, by omega, by go_num, HN.out, by have hbl := Hbl.out; (repeat' (first | (with_reducible exact Below.refl _ _) | (with_reducible assumption) | (with_reducible refine Below.alloc ?_ ?_ _) | (with_reducible refine Below.setCell ?_ ?_ _) | (with_reducible refine Below.drew ?_) | (with_reducible refine below_drewN ?_ _) | (with_reducible refine below_via ?_ (by with_reducible assumption) ?_) | omega | (simp; done) | (simp; omega))), by simp; omega, by simp [go_sem, g0, hsz], by simp [go_sem, g1, hsz]⟩
          case measure => simp [intOf]; omega
    · have dl : decide ((k : Int) < (l.length : Int)) = false := by simpa using hlt
      have HD := Lib.hid (drop_all (l := l) (k := k) (by omega))
      go_wp2_with fail
      go_ret
      exact ⟨_, rfl, by rw [HV.out, HD.out]; exact Own.nil _ _ _ _, by have hbl := Hbl.out; (repeat' (first | (with_reducible exact Below.refl _ _) | (with_reducible assumption) | (with_reducible refine Below.alloc ?_ ?_ _) | (with_reducible refine Below.setCell ?_ ?_ _) | (with_reducible refine Below.drew ?_) | (with_reducible refine below_drewN ?_ _) | (with_reducible refine below_via ?_ (by with_reducible assumption) ?_) | omega | (simp; done) | (simp; omega)))⟩
set_option maxRecDepth 100000 in
set_option maxHeartbeats 8000000 in
theorem refPosVOf (l : List PosV) (u : Un) (A : Option Addr) (c : Nat) (w : World) (hl : l.length ≤ 1000000) (hr : Rd w A 3 (l.map encPosV)) (hg : ∀ x ∈ l, GoodPosV w x) :
    Calls Try.prog 40 #[.slice A l.length c, .agg #[.int .i64 u.acc, .int .i64 u.cli]] w fun e w' => ∃ A2 c2, e = .returned (.slice A2 (ofK (l.map lgPosV) u).length c2) ∧ Rs w' 2 ((ofK (l.map lgPosV) u).map encLeg) A2 c2 ∧ Below w.heap.size w w' := by
  have HR := Lib.hid hr
  have HG := Lib.hid hg
  clear hr hg
  obtain ⟨R, hR⟩ : ∃ R, R = ofK (l.map lgPosV) u := ⟨_, rfl⟩
  rw [← hR]
  have HRR := Lib.hid hR
  clear hR
  go_enter Try.func40, Try.ntmps40
  go_wp2_with fail
  go_loopw [5] (fun i wr => ∃ k : Nat, k ≤ l.length ∧ i = .int .i64 k ∧ R = ofK ((l.drop k).map lgPosV) u ∧ Below w.heap.size w wr ∧ w.heap.size < wr.heap.size ∧ wr.cell? ⟨w.heap.size, 0, none⟩ = some (.int .i64 u.acc) ∧ wr.cell? ⟨w.heap.size, 1, none⟩ = some (.int .i64 u.cli)) (fun i _ => l.length - (intOf i).toNat)
  case atStart => exact ⟨0, Nat.zero_le _, rfl, HRR.out, by (repeat' (first | (with_reducible exact Below.refl _ _) | (with_reducible assumption) | (with_reducible refine Below.alloc ?_ ?_ _) | (with_reducible refine Below.setCell ?_ ?_ _) | (with_reducible refine Below.drew ?_) | (with_reducible refine below_drewN ?_ _) | (with_reducible refine below_via ?_ (by with_reducible assumption) ?_) | omega | (simp; done) | (simp; omega))), by simp, by simp [go_sem], by simp [go_sem]⟩
  case round =>
    obtain ⟨k, hk, rfl, hv, hbl, hsz, g0, g1⟩ := hrel
    have HV := Lib.hid hv
    have Hbl := Lib.hid hbl
    have hz := hbl.size
    clear hv hbl
    by_cases hlt : k < l.length
    · have kl : (k : Int) < (l.length : Int) := by omega
      have dl : decide ((k : Int) < (l.length : Int)) = true := by simpa using hlt
      have hgk := HG.out l[k] (List.getElem_mem hlt)
      have HGK := Lib.hid (hgk.2.keep Hbl.out)
      have hd := lg_atPosV hlt
      clear hgk
      obtain ⟨b, o, rfl, hb, hc⟩ := HR.out k (encPosV l[k]) (by simp [hlt])
      have e0 := (Hbl.out.cell (p := ⟨b, o + k * 3 + 0, none⟩) hb).trans (hc 0 _ rfl)
      have e1 := (Hbl.out.cell (p := ⟨b, o + k * 3 + 1, none⟩) hb).trans (hc 1 _ rfl)
      have e2 := (Hbl.out.cell (p := ⟨b, o + k * 3 + 2, none⟩) hb).trans (hc 2 _ rfl)
      simp only [Nat.add_zero] at e0
      clear hc
      have hbw : b < wr.heap.size := by omega
      rcases un_tPosV (x := l[k].unit) (u := u) with h | h
      · have HN := Lib.hid (show R = l[k].legs.val from by rw [HV.out, hd]; unfold ofK; rw [if_pos (show (lgPosV l[k]).unit = u from h)]; rfl)
        rw [h] at e0 e1
        clear hd h
        go_wp2_with fail
        go_quiet (fail)
        go_wp2_with fail
        go_ret
        exact ⟨l[k].legs.A, l[k].legs.c, by rw [HN.out]; rfl, by rw [HN.out]; exact HGK.out.keep (by (repeat' (first | (with_reducible exact Below.refl _ _) | (with_reducible assumption) | (with_reducible refine Below.alloc ?_ ?_ _) | (with_reducible refine Below.setCell ?_ ?_ _) | (with_reducible refine Below.drew ?_) | (with_reducible refine below_drewN ?_ _) | (with_reducible refine below_via ?_ (by with_reducible assumption) ?_) | omega | (simp; done) | (simp; omega)))), by have hbl := Hbl.out; (repeat' (first | (with_reducible exact Below.refl _ _) | (with_reducible assumption) | (with_reducible refine Below.alloc ?_ ?_ _) | (with_reducible refine Below.setCell ?_ ?_ _) | (with_reducible refine Below.drew ?_) | (with_reducible refine below_drewN ?_ _) | (with_reducible refine below_via ?_ (by with_reducible assumption) ?_) | omega | (simp; done) | (simp; omega)))⟩
      · have HN := Lib.hid (show R = ofK ((l.drop (k + 1)).map lgPosV) u from by rw [HV.out, hd, ofK, if_neg (show ¬ (lgPosV l[k]).unit = u from un_dPosV h)])
        clear hd
        rcases h with h | h
        all_goals
          go_wp2_with fail
          go_quiet (fail)
          go_wp2_with fail
          go_roundw
          case rel => exact ⟨k + 1, by omega, by go_num, HN.out, by have hbl := Hbl.out; (repeat' (first | (with_reducible exact Below.refl _ _) | (with_reducible assumption) | (with_reducible refine Below.alloc ?_ ?_ _) | (with_reducible refine Below.setCell ?_ ?_ _) | (with_reducible refine Below.drew ?_) | (with_reducible refine below_drewN ?_ _) | (with_reducible refine below_via ?_ (by with_reducible assumption) ?_) | omega | (simp; done) | (simp; omega))), by simp; omega, by simp [go_sem, g0], by simp [go_sem, g1]⟩
          case measure => simp [intOf]; omega
    · have dl : decide ((k : Int) < (l.length : Int)) = false := by simpa using hlt
      have HD := Lib.hid (show R = [] from by rw [HV.out, drop_all (l := l) (k := k) (by omega)]; rfl)
      go_wp2_with fail
      go_ret
      exact ⟨none, 0, by rw [HD.out]; rfl, by rw [HD.out]; exact Rs.empty _ _, by have hbl := Hbl.out; (repeat' (first | (with_reducible exact Below.refl _ _) | (with_reducible assumption) | (with_reducible refine Below.alloc ?_ ?_ _) | (with_reducible refine Below.setCell ?_ ?_ _) | (with_reducible refine Below.drew ?_) | (with_reducible refine below_drewN ?_ _) | (with_reducible refine below_via ?_ (by with_reducible assumption) ?_) | omega | (simp; done) | (simp; omega)))⟩
theorem lg_eqPosV {x y : PosV} (h : lgPosV x = lgPosV y) : x.unit.acc = y.unit.acc ∧ x.unit.cli = y.unit.cli ∧ x.legs.val = y.legs.val := by
  simp only [lgPosV, Row.mk.injEq] at h
  exact ⟨by rw [h.1], by rw [h.1], h.2⟩
set_option maxRecDepth 100000 in
set_option maxHeartbeats 8000000 in
theorem refPosVSame (l m : List PosV) (A B : Option Addr) (c d : Nat) (w : World) (hlm : l.map lgPosV = m.map lgPosV) (hl : l.length ≤ 1000000) (ha : Rd w A 3 (l.map encPosV)) (hb : Rd w B 3 (m.map encPosV)) (hgl : ∀ x ∈ l, GoodPosV w x) (hgm : ∀ x ∈ m, GoodPosV w x) :
    Calls Try.prog 45 #[.slice A l.length c, .slice B m.length d] w fun e w' => e = .returned (.bool true) ∧ Below w.heap.size w w' := by
  have HA := Lib.hid ha
  have HB := Lib.hid hb
  have HGL := Lib.hid hgl
  have HGM := Lib.hid hgm
  have hml : m.length = l.length := by have := congrArg List.length hlm; simpa using this.symm
  have HE := Lib.hid (fun k (h1 : k < l.length) (h2 : k < m.length) => show lgPosV l[k] = lgPosV m[k] from by
    have h3 := congrArg (fun z => z[k]?) hlm
    simpa [List.getElem?_map, h1, h2] using h3)
  have HML := Lib.hid hml
  rw [hml]
  clear ha hb hgl hgm hlm hml
  go_enter Try.func45, Try.ntmps45
  go_wp2_with fail
  go_loopw [5] (fun i wr => ∃ k : Nat, k ≤ l.length ∧ i = .int .i64 k ∧ Below w.heap.size w wr) (fun i _ => l.length - (intOf i).toNat)
  case atStart => exact ⟨0, Nat.zero_le _, rfl, Below.refl _ _⟩
  case round =>
    obtain ⟨k, hk, rfl, hbl⟩ := hrel
    have Hbl := Lib.hid hbl
    have hz := hbl.size
    clear hbl
    by_cases hlt : k < l.length
    · have kl : (k : Int) < (l.length : Int) := by omega
      have dl : decide ((k : Int) < (l.length : Int)) = true := by simpa using hlt
      have hkm : k < m.length := by rw [HML.out]; exact hlt
      have hx := HGL.out l[k] (List.getElem_mem hlt)
      have hy := HGM.out m[k] (List.getElem_mem hkm)
      have he := lg_eqPosV (HE.out k hlt hkm)
      obtain ⟨b1, o1, rfl, hb1, hc1⟩ := HA.out k (encPosV l[k]) (by simp [hlt])
      obtain ⟨b2, o2, rfl, hb2, hc2⟩ := HB.out k (encPosV m[k]) (by simp [hkm])
      unfold GoodPosV at hy
      unfold encPosV at hc2
      rw [← he.1, ← he.2.1, ← he.2.2] at hc2
      rw [← he.2.2] at hy
      generalize m[k].legs.A = B' at hc2 hy
      generalize m[k].legs.c = d' at hc2 hy
      have e0 := (Hbl.out.cell (p := ⟨b1, o1 + k * 3 + 0, none⟩) hb1).trans (hc1 0 _ rfl)
      have e1 := (Hbl.out.cell (p := ⟨b1, o1 + k * 3 + 1, none⟩) hb1).trans (hc1 1 _ rfl)
      have e2 := (Hbl.out.cell (p := ⟨b1, o1 + k * 3 + 2, none⟩) hb1).trans (hc1 2 _ rfl)
      have f0 := (Hbl.out.cell (p := ⟨b2, o2 + k * 3 + 0, none⟩) hb2).trans (hc2 0 _ rfl)
      have f1 := (Hbl.out.cell (p := ⟨b2, o2 + k * 3 + 1, none⟩) hb2).trans (hc2 1 _ rfl)
      have f2 := (Hbl.out.cell (p := ⟨b2, o2 + k * 3 + 2, none⟩) hb2).trans (hc2 2 _ rfl)
      simp only [Nat.add_zero] at e0 f0
      have HX := Lib.hid (fun W (h : Below w.heap.size w W) => ref11Same l[k].legs.val l[k].legs.A B' l[k].legs.c d' W (by have := hx.1; omega) (hx.2.keep h).rd (hy.2.keep h).rd)
      clear hc1 hc2 he hx hy
      go_wp2_with fail
      go_region_held3 (fun w' => (w'.cell? ⟨b1, o1 + k * 3, none⟩ = some (.int .i64 l[k].unit.acc) ∧ w'.cell? ⟨b1, o1 + k * 3 + 1, none⟩ = some (.int .i64 l[k].unit.cli) ∧ w'.cell? ⟨b1, o1 + k * 3 + 2, none⟩ = some (.slice l[k].legs.A l[k].legs.val.length l[k].legs.c)) ∧ w'.cell? ⟨b2, o2 + k * 3, none⟩ = some (.int .i64 l[k].unit.acc) ∧ w'.cell? ⟨b2, o2 + k * 3 + 1, none⟩ = some (.int .i64 l[k].unit.cli) ∧ w'.cell? ⟨b2, o2 + k * 3 + 2, none⟩ = some (.slice B' l[k].legs.val.length d')) (first | (simp [go_sem]; done) | (repeat' (first | (with_reducible assumption) | (with_reducible refine And.intro ?_ ?_) | (with_reducible refine cell_drew ?_) | (with_reducible refine cell_via (by with_reducible assumption) ?_ ?_) | (simp [*]; done) | (simp [go_sem]; done) | (with_reducible refine cell_alloc ?_ ?_) | (with_reducible refine cell_set_far ?_ ?_) | omega | (simp; omega)))) (first | (go_at_call 38; (with_reducible refine (HX.out _ (by have hbl := Hbl.out; (repeat' (first | (with_reducible exact Below.refl _ _) | (with_reducible assumption) | (with_reducible refine Below.alloc ?_ ?_ _) | (with_reducible refine Below.setCell ?_ ?_ _) | (with_reducible refine Below.drew ?_) | (with_reducible refine below_drewN ?_ _) | (with_reducible refine below_via ?_ (by with_reducible assumption) ?_) | omega | (simp; done) | (simp; omega))))).mono ?_); rintro e w1 ⟨rfl, hb1⟩; obtain ⟨fc1, fg1, hc1, hf1, hz1⟩ := bget hb1; (try simp at hz1)) | fail)
      all_goals
        go_wp2_with fail
        go_roundw
        case rel => exact ⟨k + 1, by omega, by go_num, by have hbl := Hbl.out; (repeat' (first | (with_reducible exact Below.refl _ _) | (with_reducible assumption) | (with_reducible refine Below.alloc ?_ ?_ _) | (with_reducible refine Below.setCell ?_ ?_ _) | (with_reducible refine Below.drew ?_) | (with_reducible refine below_drewN ?_ _) | (with_reducible refine below_via ?_ (by with_reducible assumption) ?_) | omega | (simp; done) | (simp; omega)))⟩
        case measure => simp [intOf]; omega
    · have dl : decide ((k : Int) < (l.length : Int)) = false := by simpa using hlt
      go_wp2_with fail
      go_ret
      exact ⟨rfl, by have hbl := Hbl.out; (repeat' (first | (with_reducible exact Below.refl _ _) | (with_reducible assumption) | (with_reducible refine Below.alloc ?_ ?_ _) | (with_reducible refine Below.setCell ?_ ?_ _) | (with_reducible refine Below.drew ?_) | (with_reducible refine below_drewN ?_ _) | (with_reducible refine below_via ?_ (by with_reducible assumption) ?_) | omega | (simp; done) | (simp; omega)))⟩
theorem row3PosV (a b : Int) (A : Option Addr) (n m : Nat) : ∀ r ∈ [[Value.int .i64 a, .int .i64 b, .slice A n m]], r.length = 3 ∧ ∀ u ∈ r, u.oneCell' = true := by
  intro r hr
  simp only [List.mem_singleton] at hr
  subst hr
  refine ⟨rfl, ?_⟩
  simp only [List.mem_cons, List.not_mem_nil, or_false, forall_eq_or_imp, forall_eq]
  exact ⟨rfl, rfl, rfl⟩
/-- A row with at most so many of its list. -/
def fewPosV (x : PosV) : PosV := { x with legs := ⟨x.legs.A, x.legs.c, x.legs.val.take 12⟩ }
theorem fewPosV_good {w : World} {x : PosV} (h : Rs w 2 (x.legs.val.map encLeg) x.legs.A x.legs.c) : GoodPosV w (fewPosV x) ∧ (fewPosV x).legs.val.length ≤ 12 := by
  have h1 : (fewPosV x).legs.val.length ≤ 12 := by simp [fewPosV]; omega
  refine ⟨⟨by omega, ?_⟩, h1⟩
  have := h.take 12
  rw [← List.map_take] at this
  exact this
set_option maxRecDepth 100000 in
set_option maxHeartbeats 8000000 in
theorem law19Few (l : List PosV) (A : Option Addr) (c : Nat) (w : World) (hl : l.length ≤ maxLen) (hr : Rd w A 3 (l.map encPosV)) (hg : ∀ x ∈ l, Rs w 2 (x.legs.val.map encLeg) x.legs.A x.legs.c) :
    Calls Try.prog 35 #[.slice A l.length c] w fun e w' => ∃ v, e = .returned v ∧ Own w' w.heap.size 140 3 v (((l.take 12).map fewPosV).map encPosV) ∧ Below w.heap.size w w' := by
  have HR := Lib.hid hr
  have HG := Lib.hid hg
  have hml : (l.length : Int) ≤ 9223372036854775807 := by unfold maxLen at hl; omega
  clear hr hg hl
  go_enter Try.func35, Try.ntmps35
  go_wp2_with fail
  go_loopw [3, 4] (fun v i wr => ∃ q : Nat, q ≤ l.length ∧ q ≤ 12 ∧ i = .int .i64 q ∧ Own wr w.heap.size 140 3 v (((l.take q).map fewPosV).map encPosV) ∧ Below w.heap.size w wr) (fun _ i _ => l.length - (intOf i).toNat)
  case atStart => exact ⟨0, Nat.zero_le _, Nat.zero_le _, rfl, Own.nil _ _ _ _, by (repeat' (first | (with_reducible exact Below.refl _ _) | (with_reducible assumption) | (with_reducible refine Below.alloc ?_ ?_ _) | (with_reducible refine Below.setCell ?_ ?_ _) | (with_reducible refine Below.drew ?_) | (with_reducible refine below_drewN ?_ _) | (with_reducible refine below_via ?_ (by with_reducible assumption) ?_) | omega | (simp; done) | (simp; omega)))⟩
  case round =>
    obtain ⟨k, hq, hq10, rfl, hown, hbl⟩ := hrel
    have Hown := Lib.hid hown
    have Hbl := Lib.hid hbl
    have hz := hbl.size
    clear hown hbl
    by_cases hgo : k < l.length ∧ k < 12
    · obtain ⟨hlt, h10⟩ := hgo
      have hqi : (k : Int) < (l.length : Int) := by omega
      have dl : decide ((k : Int) < (l.length : Int)) = true := by simpa using hlt
      have d10 : decide ((k : Int) < 12) = true := by simp; omega
      have hlen : ((l.take k).map fewPosV).length ≤ 12 := by simp; omega
      have hx := HG.out l[k] (List.getElem_mem hlt)
      obtain ⟨b, o, rfl, hb, hc⟩ := HR.out k (encPosV l[k]) (by simp [hlt])
      have e0 := (Hbl.out.cell (p := ⟨b, o + k * 3 + 0, none⟩) hb).trans (hc 0 _ rfl)
      have e1 := (Hbl.out.cell (p := ⟨b, o + k * 3 + 1, none⟩) hb).trans (hc 1 _ rfl)
      have e2 := (Hbl.out.cell (p := ⟨b, o + k * 3 + 2, none⟩) hb).trans (hc 2 _ rfl)
      simp only [Nat.add_zero] at e0
      clear hc
      have hbw : b < wr.heap.size := by omega
      obtain ⟨m, hm⟩ : ∃ m, (l[k].legs.val.take 12).length = m := ⟨_, rfl⟩
      have CF := Lib.hid (fun W (h : Below w.heap.size w W) => few_inPosV l[k].legs.val m hm l[k].legs.A l[k].legs.c W (hx.keep h))
      have HS : Hid (((l.take (k + 1)).map fewPosV).map encPosV = ((l.take k).map fewPosV).map encPosV ++ [[.int .i64 l[k].unit.acc, .int .i64 l[k].unit.cli, .slice l[k].legs.A m l[k].legs.c]]) := by
        unfold Hid
        rw [map_snoc hlt fewPosV, List.map_append]
        congr 1
        simp only [List.map_cons, List.map_nil, encPosV, fewPosV, hm]
      clear hx hm
      go_wp2_with fail
      go_region_held3 (fun w' => (w'.cell? ⟨b, o + k * 3, none⟩ = some (.int .i64 l[k].unit.acc) ∧ w'.cell? ⟨b, o + k * 3 + 1, none⟩ = some (.int .i64 l[k].unit.cli) ∧ w'.cell? ⟨b, o + k * 3 + 2, none⟩ = some (.slice l[k].legs.A l[k].legs.val.length l[k].legs.c))) (first | (simp [go_sem]; done) | (repeat' (first | (with_reducible assumption) | (with_reducible refine And.intro ?_ ?_) | (with_reducible refine cell_drew ?_) | (with_reducible refine cell_via (by with_reducible assumption) ?_ ?_) | (simp [*]; done) | (simp [go_sem]; done) | (with_reducible refine cell_alloc ?_ ?_) | (with_reducible refine cell_set_far ?_ ?_) | omega | (simp; omega)))) (first | (go_at_call 13; (with_reducible refine (CF.out _ (by have hbl := Hbl.out; (repeat' (first | (with_reducible exact Below.refl _ _) | (with_reducible assumption) | (with_reducible refine Below.alloc ?_ ?_ _) | (with_reducible refine Below.setCell ?_ ?_ _) | (with_reducible refine Below.drew ?_) | (with_reducible refine below_drewN ?_ _) | (with_reducible refine below_via ?_ (by with_reducible assumption) ?_) | omega | (simp; done) | (simp; omega))))).mono ?_); rintro e w1 ⟨rfl, hb1⟩; obtain ⟨fc1, fg1, hc1, hf1, hz1⟩ := bget hb1; (try simp at hz1)) | (refine step_app rfl _ _ _ rfl elPosV w.heap.size _ _ rfl (Hown.out.keep (by (repeat' (first | (with_reducible exact Below.refl _ _) | (with_reducible assumption) | (with_reducible refine Below.alloc ?_ ?_ _) | (with_reducible refine Below.setCell ?_ ?_ _) | (with_reducible refine Below.drew ?_) | (with_reducible refine below_drewN ?_ _) | (with_reducible refine below_via ?_ (by with_reducible assumption) ?_) | omega | (simp; done) | (simp; omega))))) (some ⟨_, 0, none⟩) 1 1 rfl [[.int .i64 l[k].unit.acc, .int .i64 l[k].unit.cli, .slice l[k].legs.A m l[k].legs.c]] rfl (fun h => by cases h) (rd_oneN (by simp)) (row3PosV _ _ _ _ _) (by unfold maxLen; simp; omega) (by simp; omega) (by first | omega | (simp; done) | (simp; omega)) ?_; intro v4 w4 hown4 hb4; have HO4 := Lib.hid hown4; clear hown4; obtain ⟨fc4, fg4, hc4, hf4, hz4⟩ := bget hb4; (try simp at hz4)) | fail)
      all_goals
        go_wp2_with fail
        go_roundw
        case rel => exact ⟨k + 1, by omega, by omega, by go_num, by rw [HS.out]; exact HO4.out, by have hbl := Hbl.out; (repeat' (first | (with_reducible exact Below.refl _ _) | (with_reducible assumption) | (with_reducible refine Below.alloc ?_ ?_ _) | (with_reducible refine Below.setCell ?_ ?_ _) | (with_reducible refine Below.drew ?_) | (with_reducible refine below_drewN ?_ _) | (with_reducible refine below_via ?_ (by with_reducible assumption) ?_) | omega | (simp; done) | (simp; omega)))⟩
        case measure => simp [intOf]; omega
    · have HT := Lib.hid (show l.take k = l.take 12 from by
        rcases Nat.lt_or_ge k 12 with h | h
        · rw [List.take_of_length_le (by omega), List.take_of_length_le (by omega)]
        · rw [show k = 12 by omega])
      by_cases hlt : k < l.length
      · have dl : decide ((k : Int) < (l.length : Int)) = true := by simpa using hlt
        have d10 : decide ((k : Int) < 12) = false := by simp; omega
        go_wp2_with fail
        go_ret
        exact ⟨_, rfl, by rw [← HT.out]; exact Hown.out, Hbl.out⟩
      · have dl : decide ((k : Int) < (l.length : Int)) = false := by simpa using hlt
        go_wp2_with fail
        go_ret
        exact ⟨_, rfl, by rw [← HT.out]; exact Hown.out, Hbl.out⟩
end Go.Proofs.Ytiidplinmempcaa

/- The law VecAdds: its walk. -/
namespace Go.Proofs.Ytiidplinmempcaa
open Go.RowKit
theorem addL_len (ls : List (List Leg)) : (addL ls).length ≤ 8 := by
  unfold addL vecL
  split
  · split
    · exact sumsL_len _ 8
    · simp
  · simp
theorem few12_len (ls : List (List Leg)) : (few12 ls).length ≤ 10 := by unfold few12; rw [List.length_map, List.length_take]; omega
theorem few12_short (ls : List (List Leg)) : Short (few12 ls) := by
  refine ⟨by have := few12_len ls; omega, fun l hl => ?_⟩
  unfold few12 at hl
  obtain ⟨l', _, rfl⟩ := List.mem_map.1 hl
  rw [List.length_take]; omega
theorem few12_64 {ls : List (List Leg)} (h : ∀ l ∈ ls, Legs64 l) : ∀ l ∈ few12 ls, Legs64 l := by
  intro l hl
  unfold few12 at hl
  obtain ⟨l', h1, rfl⟩ := List.mem_map.1 hl
  intro x hx
  exact h l' (List.mem_of_mem_take h1) x (List.mem_of_mem_take hx)
end Go.Proofs.Ytiidplinmempcaa

/- Vectors: plain laws. -/
namespace Go.Proofs.Ytiidplinmempcaa
open Go.RowKit
theorem isF_cons {a : Int} {x : Leg} {l : List Leg} : isF a (x :: l) = true ↔ a < x.inst ∧ x.inst ≤ 8 ∧ x.qty ≠ 0 ∧ isF x.inst l = true := by
  simp [isF, and_assoc]
theorem getF_low : ∀ {l : List Leg} {a i : Int}, isF a l = true → i ≤ a → getF i l = 0
  | [], _, _, _, _ => rfl
  | x :: l, a, i, h, hi => by
    obtain ⟨h1, _, _, h4⟩ := isF_cons.1 h
    rw [getF, if_neg (by omega)]
    exact getF_low h4 (by omega)
theorem vec_ext : ∀ {l m : List Leg} {a : Int}, isF a l = true → isF a m = true → (∀ i, a < i → i ≤ 8 → getF i l = getF i m) → l = m
  | [], [], _, _, _, _ => rfl
  | [], y :: m, a, _, hm, h => by
    obtain ⟨h1, h2, h3, _⟩ := isF_cons.1 hm
    have := h y.inst h1 h2
    simp [getF] at this
    exact absurd this.symm h3
  | x :: l, [], a, hl, _, h => by
    obtain ⟨h1, h2, h3, _⟩ := isF_cons.1 hl
    have := h x.inst h1 h2
    simp [getF] at this
    exact absurd this h3
  | x :: l, y :: m, a, hl, hm, h => by
    obtain ⟨a1, a2, a3, a4⟩ := isF_cons.1 hl
    obtain ⟨b1, b2, b3, b4⟩ := isF_cons.1 hm
    rcases Int.lt_trichotomy x.inst y.inst with h1 | h1 | h1
    · have := h x.inst a1 a2
      rw [getF, if_pos rfl, getF, if_neg (by omega), getF_low b4 (by omega)] at this
      exact absurd this a3
    · have hq := h x.inst a1 a2
      rw [getF, if_pos rfl, getF, if_pos h1.symm] at hq
      have hxy : x = y := by cases x; cases y; simp_all
      subst hxy
      congr 1
      refine vec_ext (a := x.inst) a4 b4 fun i h2 h3 => ?_
      have := h i (by omega) h3
      rwa [getF, if_neg (by omega), getF, if_neg (by omega)] at this
    · have := h y.inst b1 b2
      rw [getF, if_neg (by omega), getF_low a4 (by omega), getF, if_pos rfl] at this
      exact absurd this.symm b3
theorem isF_snoc : ∀ {l : List Leg} {a : Int} {x : Leg}, isF a l = true → (∀ y ∈ l, y.inst < x.inst) → a < x.inst → x.inst ≤ 8 → x.qty ≠ 0 → isF a (l ++ [x]) = true
  | [], a, x, _, _, h1, h2, h3 => by simp [isF, h1, h2, h3]
  | y :: l, a, x, h, hy, h1, h2, h3 => by
    obtain ⟨a1, a2, a3, a4⟩ := isF_cons.1 h
    rw [List.cons_append, isF_cons]
    exact ⟨a1, a2, a3, isF_snoc a4 (fun z hz => hy z (by simp [hz])) (hy y (by simp)) h2 h3⟩
theorem sumsL_le (f : Int → Int) : ∀ n, ∀ y ∈ sumsL f n, 1 ≤ y.inst ∧ y.inst ≤ n
  | 0, y, h => by simp [sumsL] at h
  | n + 1, y, h => by
    simp only [sumsL, List.mem_append] at h
    rcases h with h | h
    · have := sumsL_le f n y h; omega
    · split at h
      · simp at h
      · simp at h; subst h; simp; omega
theorem sumsL_is (f : Int → Int) : ∀ n : Nat, n ≤ 8 → isF 0 (sumsL f n) = true
  | 0, _ => rfl
  | n + 1, h => by
    have ih := sumsL_is f n (by omega)
    simp only [sumsL]
    split
    · simpa using ih
    · exact isF_snoc ih (fun y hy => by have := sumsL_le f n y hy; simp; omega) (by show (0 : Int) < (n : Int) + 1; omega) (by show (n : Int) + 1 ≤ 8; omega) (by simpa)
theorem getF_snoc {l : List Leg} {x : Leg} {i : Int} (h : x.inst ≠ i) : getF i (l ++ [x]) = getF i l := by
  induction l with
  | nil => simp [getF, h]
  | cons y l ih => simp only [List.cons_append, getF, ih]
theorem getF_none {l : List Leg} {i : Int} (h : ∀ y ∈ l, y.inst ≠ i) : getF i l = 0 := by
  induction l with
  | nil => rfl
  | cons y l ih => rw [getF, if_neg (h y (by simp)), ih fun z hz => h z (by simp [hz])]
theorem getF_last {l : List Leg} {x : Leg} (h : ∀ y ∈ l, y.inst ≠ x.inst) : getF x.inst (l ++ [x]) = x.qty := by
  induction l with
  | nil => simp [getF]
  | cons y l ih => rw [List.cons_append, getF, if_neg (h y (by simp)), ih fun z hz => h z (by simp [hz])]
theorem getF_sums (f : Int → Int) (i : Int) (h1 : 1 ≤ i) : ∀ n : Nat, i ≤ n → getF i (sumsL f n) = f i
  | 0, h => by omega
  | n + 1, h => by
    simp only [sumsL]
    by_cases hi : i = (n : Int) + 1
    · subst hi
      have hne : ∀ y ∈ sumsL f n, y.inst ≠ (n : Int) + 1 := fun y hy => by have := sumsL_le f n y hy; omega
      split
      · rename_i h0; rw [List.append_nil, getF_none hne, h0]
      · exact getF_last (x := ⟨(n : Int) + 1, f ((n : Int) + 1)⟩) hne
    · have ih := getF_sums f i h1 n (by omega)
      split
      · rw [List.append_nil]; exact ih
      · rw [getF_snoc (by simp; omega)]; exact ih
theorem isV_addL (ls : List (List Leg)) : isV (addL ls) = true := by
  unfold addL vecL
  split
  · split
    · exact sumsL_is _ 8 (Nat.le_refl _)
    · rfl
  · rfl
theorem addL_no {ls : List (List Leg)} (h : (addC ls == 0) = false) : addL ls = [] := by
  unfold addC vecC at h
  unfold addL vecL
  split
  · rename_i h1
    rw [if_pos h1] at h
    split
    · rename_i h2; rw [if_pos h2] at h; simp at h
    · rfl
  · rfl
theorem sumG_comm (a b : List Leg) : sumG [a, b] = sumG [b, a] := by
  funext i; unfold sumG; simp; omega
theorem allV_comm (a b : List Leg) : allV [a, b] = allV [b, a] := by unfold allV; simp [Bool.and_comm]
theorem addC_comm (a b : List Leg) : addC [a, b] = addC [b, a] := by unfold addC; rw [sumG_comm, allV_comm]
theorem addL_comm (a b : List Leg) : addL [a, b] = addL [b, a] := by unfold addL; rw [sumG_comm, allV_comm]
theorem isF_neg : ∀ {l : List Leg} {a : Int}, isF a l = true → isF a (negR l) = true
  | [], _, _ => rfl
  | x :: l, a, h => by
    obtain ⟨h1, h2, h3, h4⟩ := isF_cons.1 h
    show isF a (⟨x.inst, 0 - x.qty⟩ :: negR l) = true
    rw [isF_cons]
    exact ⟨h1, h2, by simp; omega, isF_neg h4⟩
theorem getF_neg (i : Int) : ∀ l : List Leg, getF i (negR l) = - getF i l
  | [] => rfl
  | x :: l => by
    show getF i (⟨x.inst, 0 - x.qty⟩ :: negR l) = _
    simp only [getF]
    split
    · omega
    · exact getF_neg i l
theorem fit_iff {f : Int → Int} : ∀ {n : Nat}, fitN f n = true ↔ ∀ i : Int, 1 ≤ i → i ≤ n → In64 (f i)
  | 0 => by simp [fitN]; intro i h1 h2; omega
  | n + 1 => by
    simp only [fitN, Bool.and_eq_true]
    rw [fit_iff (n := n), in64_iff]
    constructor
    · rintro ⟨h1, h2⟩ i hi1 hi2
      by_cases h : i < (n : Int) + 1
      · exact h1 i hi1 (by omega)
      · have : i = (n : Int) + 1 := by omega
        subst this; exact h2
    · intro h
      exact ⟨fun i h1 h2 => h i h1 (by omega), h _ (by omega) (by omega)⟩
theorem getF_mem {l : List Leg} {i : Int} : getF i l = 0 ∨ ∃ x ∈ l, x.inst = i ∧ getF i l = x.qty := by
  induction l with
  | nil => left; rfl
  | cons x l ih =>
    simp only [getF]
    split
    · right; exact ⟨x, by simp, by assumption, rfl⟩
    · rcases ih with h | ⟨y, hy, h1, h2⟩
      · left; exact h
      · right; exact ⟨y, by simp [hy], h1, h2⟩
theorem getF_of_mem : ∀ {l : List Leg} {a : Int} {x : Leg}, isF a l = true → x ∈ l → getF x.inst l = x.qty ∧ a < x.inst ∧ x.inst ≤ 8
  | [], _, _, _, h => by cases h
  | y :: l, a, x, h, hx => by
    obtain ⟨h1, h2, h3, h4⟩ := isF_cons.1 h
    rcases List.mem_cons.1 hx with rfl | hx
    · exact ⟨by rw [getF, if_pos rfl], h1, h2⟩
    · obtain ⟨k1, k2, k3⟩ := getF_of_mem h4 hx
      exact ⟨by rw [getF, if_neg (by omega)]; exact k1, by omega, k3⟩
theorem fit_neg {l : List Leg} (hv : isV l = true) : fitN (fun i => - getF i l) 8 = l.all (fun x => in64 (0 - x.qty)) := by
  rw [Bool.eq_iff_iff, fit_iff, List.all_eq_true]
  constructor
  · intro h x hx
    obtain ⟨h1, h2, h3⟩ := getF_of_mem hv hx
    have := h x.inst (by omega) (by omega)
    rw [h1] at this
    rw [in64_iff]
    have e : 0 - x.qty = - x.qty := by omega
    rw [e]; exact this
  · intro h i _ _
    rcases getF_mem (l := l) (i := i) with h1 | ⟨x, hx, _, h1⟩
    · rw [h1]; simp [In64]
    · rw [h1]
      have := in64_iff.1 (h x hx)
      have e : 0 - x.qty = - x.qty := by omega
      rw [← e]; exact this
theorem sums_neg {l : List Leg} (hv : isV l = true) : sumsL (fun i => - getF i l) 8 = negR l :=
  vec_ext (a := 0) (sumsL_is _ 8 (Nat.le_refl _)) (isF_neg hv) fun i h1 h2 => by rw [getF_sums _ i (by omega) 8 (by omega), getF_neg]
theorem negC_ref (l : List Leg) : (if isV l then vecC (fun i => - getF i l) else 3) = negC l := by
  unfold negC vecC
  cases hv : isV l
  · rfl
  · rw [fit_neg hv]
theorem negL_ref (l : List Leg) : (if isV l then vecL (fun i => - getF i l) else []) = negL l := by
  unfold negL vecL
  cases hv : isV l
  · rfl
  · rw [fit_neg hv, sums_neg hv]
theorem negL_len (l : List Leg) : (negL l).length ≤ l.length := by
  unfold negL negR
  split
  · split <;> simp
  · simp
theorem neg64 {l : List Leg} : Legs64 (negL l) := by
  unfold negL
  split
  · split
    · rename_i h
      intro x hx
      unfold negR at hx
      obtain ⟨y, hy, rfl⟩ := List.mem_map.1 hx
      exact in64_iff.1 (List.all_eq_true.1 h y hy)
    · intro x hx; cases hx
  · intro x hx; cases hx
/-- What a vector that can be turned is with its other side. -/
theorem neg_ok {l : List Leg} (h : (negC l == 0) = true) : isV l = true ∧ negL l = negR l ∧ isV (negR l) = true ∧ addC [l, negR l] = 0 ∧ addL [l, negR l] = [] := by
  have h0 : negC l = 0 := by simpa using h
  unfold negC at h0
  cases hv : isV l
  · rw [hv] at h0; cases h0
  rw [hv] at h0
  cases ha : l.all (fun x => in64 (0 - x.qty))
  · rw [ha] at h0; cases h0
  have hn : isV (negR l) = true := isF_neg hv
  have hal : allV [l, negR l] = true := by unfold allV; simp [hv, hn]
  have hs : sumG [l, negR l] = fun _ => 0 := by
    funext i; unfold sumG; simp [getF_neg]; omega
  have hf : fitN (fun _ => (0 : Int)) 8 = true := by decide
  have hl : sumsL (fun _ => (0 : Int)) 8 = [] := by decide
  refine ⟨rfl, by unfold negL; rw [hv, ha]; rfl, hn, ?_, ?_⟩
  · unfold addC vecC; rw [hal, hs, hf]; rfl
  · unfold addL vecL; rw [hal, hs, hf, hl]; rfl
theorem neg_no {l : List Leg} (h : (negC l == 0) = false) : negL l = [] := by
  unfold negC at h
  unfold negL
  split
  · rename_i h1
    rw [if_pos h1] at h
    split
    · rename_i h2; rw [if_pos h2] at h; simp at h
    · rfl
  · rfl
theorem neg_same {l : List Leg} (h : isV l = true) : decide (l = negR l) = ((l.length : Int) == 0) := by
  cases l with
  | nil => rfl
  | cons x l =>
    obtain ⟨_, _, h3, _⟩ := isF_cons.1 h
    have h1 : ¬ (x :: l = negR (x :: l)) := by
      intro e
      have : x :: l = ⟨x.inst, 0 - x.qty⟩ :: negR l := e
      injection this with e1 _
      have := congrArg Leg.qty e1
      simp only [] at this
      omega
    rw [decide_eq_false h1]
    symm
    rw [beq_eq_false_iff_ne]
    simp; omega
end Go.Proofs.Ytiidplinmempcaa

/- Contracts of the reference's Neg, Gross (11). -/
namespace Go.Proofs.Ytiidplinmempcaa
open Go.RowKit
set_option maxRecDepth 100000 in
set_option maxHeartbeats 4000000 in
theorem ref11Neg (l : List Leg) (A : Option Addr) (c : Nat) (w : World) (hl : l.length ≤ 1099511627776) (h64 : Legs64 l) (hr : Rd w A 2 (l.map encLeg)) :
    Calls Try.prog 102 #[.slice A l.length c] w (LegsPost w (negC l) (negL l)) := by
  have HR := Lib.hid hr
  have H64 := Lib.hid h64
  have c1 := fun W (h : Rd W A 2 (l.map encLeg)) => refIs11 l A c W hl h
  have HC := Lib.hid (negC_ref l)
  have HA := Lib.hid (negL_ref l)
  clear hr h64
  cases hv : isV l
  · rw [hv] at c1 HC HA
    have C1 := Lib.hid c1
    clear c1 hv
    go_enter Try.func102, Try.ntmps102
    go_wp2_with (go_at_call 76; (with_reducible refine (C1.out _ HR.out).mono ?_); rintro e w1 ⟨rfl, hb1⟩; obtain ⟨fc1, fg1, hc1, hf1, hz1⟩ := bget hb1; try simp at hz1)
    go_ret2
    exact ⟨_, by rw [← HC.out]; rfl, by rw [← HA.out]; exact Own.nil _ _ _ _, by (repeat' (first | (with_reducible exact Below.refl _ _) | (with_reducible assumption) | (with_reducible refine Below.alloc ?_ ?_ _) | (with_reducible refine Below.setCell ?_ ?_ _) | (with_reducible refine Below.drew ?_) | (with_reducible refine below_drewN ?_ _) | (with_reducible refine below_via ?_ (by with_reducible assumption) ?_) | omega | (simp; done) | (simp; omega)))⟩
  rw [hv] at c1 HC HA
  have C1 := Lib.hid c1
  have hmk := make8
  clear c1 hv
  go_enter Try.func102, Try.ntmps102
  go_wp2_with (go_at_call 76; (with_reducible refine (C1.out _ HR.out).mono ?_); rintro e w2 ⟨rfl, hb2⟩; obtain ⟨fc2, fg2, hc2, hf2, hz2⟩ := bget hb2; (try simp at hz2); have Hb2 := Lib.hid hb2; clear hb2)
  clear hmk hc2 hf2
  go_loopw [5] (fun i wr => ∃ j : Nat, j ≤ 8 ∧ i = .int .i64 j ∧ OwnB wr w.heap.size (66 + j) (.slice (some ⟨w2.heap.size, 0, none⟩) 8 8) (mix (f8 (fun i => - getF i l)) (f8 (sumG [])) j) ∧ Below w.heap.size w wr) (fun i _ => 8 - (intOf i).toNat)
  case atStart => exact ⟨0, Nat.zero_le _, rfl, by rw [mix_zero, f8_zero]; exact ownB_zeros w2 8 (by unfold maxLen; omega) _ rfl (by omega) _, by have hb2 := Hb2.out; (repeat' (first | (with_reducible exact Below.refl _ _) | (with_reducible assumption) | (with_reducible refine Below.alloc ?_ ?_ _) | (with_reducible refine Below.setCell ?_ ?_ _) | (with_reducible refine Below.drew ?_) | (with_reducible refine below_drewN ?_ _) | (with_reducible refine below_via ?_ (by with_reducible assumption) ?_) | omega | (simp; done) | (simp; omega)))⟩
  case round =>
    obtain ⟨j, hj, rfl, hown, hbl⟩ := hrel
    have Hown := Lib.hid hown
    have Hbl := Lib.hid hbl
    have hz := hbl.size
    clear hown hbl
    by_cases h8 : j < 8
    · have hfz := Hown.out.frozen.1
      have hgz := Hown.out.frozen.2.2
      obtain ⟨s, A1, l1, d1, e0, e1, _, hl1⟩ := Hown.out.at (mix_at (by rw [f8_len, f8_len]) (by rw [f8_len]; exact h8) (f8_at _ h8))
      have c3 := fun W (h : Rd W A 2 (l.map encLeg)) => refGet11 l ((j : Int) + 1) A c W hl h
      have I3 := get64 (i := (j : Int) + 1) H64.out
      have HAT := Lib.hid (f8_at (fun i => - getF i l) h8)
      obtain ⟨n, hn⟩ : ∃ n, n = getF ((j : Int) + 1) l := ⟨_, rfl⟩
      rw [← hn] at c3 I3 HAT
      have C3 := Lib.hid c3
      have HK3 := Lib.hid (HR.out.keep Hbl.out)
      have jb : (j : Int) < 8 := by omega
      clear c3 hn
      go_wp2_with (first | (go_at_call 84; (with_reducible refine (C3.out _ (HK3.out.keep (by (repeat' (first | (with_reducible exact Below.refl _ _) | (with_reducible assumption) | (with_reducible refine Below.alloc ?_ ?_ _) | (with_reducible refine Below.setCell ?_ ?_ _) | (with_reducible refine Below.drew ?_) | (with_reducible refine below_drewN ?_ _) | (with_reducible refine below_via ?_ (by with_reducible assumption) ?_) | omega | (simp; done) | (simp; omega)))))).mono ?_); rintro e w3 ⟨rfl, hb3⟩; obtain ⟨fc3, fg3, hc3, hf3, hz3⟩ := bget hb3; try simp at hz3) | (go_at_call 25; (with_reducible refine (bigOf n _ I3).mono ?_); rintro e w4 ⟨s4, A4, l4, c4, rfl, hB4, hl4, hb4⟩; have HB4 := Lib.hid hB4; clear hB4; obtain ⟨fc4, fg4, hc4, hf4, hz4⟩ := bget hb4; (try simp at hz4)) | (go_at_call 133; (with_reducible refine (bigNeg n s4 l4 A4 c4 (65 + j) _ (by omega) (by omega) (HB4.out.keep (by (repeat' (first | (with_reducible exact Below.refl _ _) | (with_reducible assumption) | (with_reducible refine Below.alloc ?_ ?_ _) | (with_reducible refine Below.setCell ?_ ?_ _) | (with_reducible refine Below.drew ?_) | (with_reducible refine below_drewN ?_ _) | (with_reducible refine below_via ?_ (by with_reducible assumption) ?_) | omega | (simp; done) | (simp; omega)))))).mono ?_); rintro e w5 ⟨s5, A5, l5, c5, rfl, hB5, hl5, hb5⟩; have HB5 := Lib.hid hB5; clear hB5; obtain ⟨fc5, fg5, hc5, hf5, hz5⟩ := bget hb5; (try simp at hz5)))
      have HNX := Lib.hid (mix_set (a := f8 (fun i => - getF i l)) (b := f8 (sumG [])) (k := j) (by rw [f8_len, f8_len]) (by rw [f8_len]; exact h8) HAT.out).symm
      have HST := Lib.hid ((Hown.out.keep (w' := w5) (by (repeat' (first | (with_reducible exact Below.refl _ _) | (with_reducible assumption) | (with_reducible refine Below.alloc ?_ ?_ _) | (with_reducible refine Below.setCell ?_ ?_ _) | (with_reducible refine Below.drew ?_) | (with_reducible refine below_drewN ?_ _) | (with_reducible refine below_via ?_ (by with_reducible assumption) ?_) | omega | (simp; done) | (simp; omega))))).store (M := 66 + (j + 1)) (i := j) (by rw [mix_len (by rw [f8_len, f8_len]) (by rw [f8_len]; omega), f8_len]; exact h8) HB5.out (by omega) (by omega))
      have Hb5 : Hid (Below w.heap.size w w5) := by have hbl := Hbl.out; unfold Hid; (repeat' (first | (with_reducible exact Below.refl _ _) | (with_reducible assumption) | (with_reducible refine Below.alloc ?_ ?_ _) | (with_reducible refine Below.setCell ?_ ?_ _) | (with_reducible refine Below.drew ?_) | (with_reducible refine below_drewN ?_ _) | (with_reducible refine below_via ?_ (by with_reducible assumption) ?_) | omega | (simp; done) | (simp; omega)))
      have hgg := Hown.out.frozen.2.1
      go_roundw
      case rel => exact ⟨j + 1, by omega, by go_num, by rw [HNX.out]; exact HST.out, by have hbl := Hb5.out; (repeat' (first | (with_reducible exact Below.refl _ _) | (with_reducible assumption) | (with_reducible refine Below.alloc ?_ ?_ _) | (with_reducible refine Below.setCell ?_ ?_ _) | (with_reducible refine Below.drew ?_) | (with_reducible refine below_drewN ?_ _) | (with_reducible refine below_via ?_ (by with_reducible assumption) ?_) | omega | (simp; done) | (simp; omega)))⟩
      case measure => simp [intOf]; omega
    · obtain rfl : j = 8 := by omega
      have ho := Hown.out
      rw [mix_all (by rw [f8_len]; omega) (by rw [f8_len]; omega)] at ho
      have HO := Lib.hid (ho.mono (M := 900000) (Nat.le_refl _) (by omega))
      clear ho
      go_wp2_with (go_at_call 85; (with_reducible refine (ref11Of (fun i => - getF i l) _ _ w.heap.size 900000 _ (by omega) HO.out).mono ?_); rintro e w5 ⟨v, rfl, hown5, hb5⟩)
      go_ret2
      exact ⟨_, by rw [← HC.out]; rfl, by rw [← HA.out]; exact hown5.mono hz, by (have hbl := Hbl.out; (repeat' (first | (with_reducible exact Below.refl _ _) | (with_reducible assumption) | (with_reducible refine Below.alloc ?_ ?_ _) | (with_reducible refine Below.setCell ?_ ?_ _) | (with_reducible refine Below.drew ?_) | (with_reducible refine below_drewN ?_ _) | (with_reducible refine below_via ?_ (by with_reducible assumption) ?_) | omega | (simp; done) | (simp; omega))))⟩
end Go.Proofs.Ytiidplinmempcaa

/- Contract of the reference's Gross (11). -/
namespace Go.Proofs.Ytiidplinmempcaa
open Go.RowKit
theorem isBig_abs {w : World} {n : Int} {s : Bool} {A : Option Addr} {l : List Int} {c : Nat} (h : IsBig w n s A l c) : IsBig w (iabs n) false A l c :=
  ⟨h.rd, h.bit, h.top, by rw [h.val]; unfold iabs; split <;> (try split) <;> omega, h.cap, h.room, by symm; rw [decide_eq_false_iff_not]; unfold iabs; split <;> omega⟩
theorem absL_snoc {l : List Leg} {k : Nat} (h : k < l.length) : (absL (l.take (k + 1))).sum = (absL (l.take k)).sum + iabs l[k].qty := by
  unfold absL; rw [map_snoc h, List.sum_append]; simp
end Go.Proofs.Ytiidplinmempcaa

/- The law VecBack: its walk. -/
namespace Go.Proofs.Ytiidplinmempcaa
open Go.RowKit
/-- The legs of a row that was handed in, as the law takes them: 12 at most. -/
theorem take12 {w : World} {l0 : List Leg} {A : Option Addr} {c : Nat} (hr : Rs w 2 (l0.map encLeg) A c) (h64 : Legs64 l0) : ∃ l, l = l0.take 12 ∧ l.length ≤ 12 ∧ Legs64 l ∧ Rs w 2 (l.map encLeg) A c :=
  ⟨_, rfl, by rw [List.length_take]; omega, fun x hx => h64 x (List.mem_of_mem_take hx), hr.takeL 12⟩
theorem addC_len (ls : List (List Leg)) : (addL ls).length ≤ 8 := addL_len ls
end Go.Proofs.Ytiidplinmempcaa

/- The law VecTurns: its walk. -/
namespace Go.Proofs.Ytiidplinmempcaa
open Go.RowKit
theorem rss_one {α : Type} {k : Nat} {enc : α → List Value} {W : World} {g : Nat} {v1 : Value} {l1 : List α} (h1 : IsSl k enc W v1 l1) (hg : g < W.heap.size) (c1 : W.cell? ⟨g, 0, none⟩ = some v1) : RsS k enc W [l1] (some ⟨g, 0, none⟩) 1 := by
  refine ⟨⟨[v1], ⟨rfl, fun i a b ha hb => ?_⟩, ⟨fun i r hr => ⟨g, 0, rfl, hg, fun j v hv => ?_⟩, by simp, by unfold maxLen; omega, fun e => by cases e⟩⟩⟩
  · match i with
    | 0 => simp at ha hb; subst ha hb; exact h1
    | i + 1 => simp at ha
  · match i with
    | 0 =>
      simp [enc1] at hr; subst hr
      match j with
      | 0 => simp at hv; subst hv; simpa using c1
      | j + 1 => simp at hv
    | i + 1 => simp at hr
theorem ref11Add1 (l1 : List Leg) (g : Nat) (w : World) (v1 : Value) (h1 : l1.length ≤ 1099511627776) (q1 : Legs64 l1) (r1 : IsSl 2 encLeg w v1 l1) (hg : g < w.heap.size) (c1 : w.cell? ⟨g, 0, none⟩ = some v1) :
    Calls Try.prog 23 #[.slice (some ⟨g, 0, none⟩) 1 1] w (LegsPost w (addC [l1]) (addL [l1])) :=
  ref11Add [l1] (some ⟨g, 0, none⟩) 1 w (by simp) ⟨by simp, by simp [h1]⟩ (by simp [q1]) (rss_one r1 hg c1)
theorem ref11Add2 (l1 l2 : List Leg) (g : Nat) (w : World) (v1 v2 : Value) (h1 : l1.length ≤ 1099511627776) (h2 : l2.length ≤ 1099511627776) (q1 : Legs64 l1) (q2 : Legs64 l2) (r1 : IsSl 2 encLeg w v1 l1) (r2 : IsSl 2 encLeg w v2 l2) (hg : g < w.heap.size) (c1 : w.cell? ⟨g, 0, none⟩ = some v1) (c2 : w.cell? ⟨g, 1, none⟩ = some v2) :
    Calls Try.prog 23 #[.slice (some ⟨g, 0, none⟩) 2 2] w (LegsPost w (addC [l1, l2]) (addL [l1, l2])) :=
  ref11Add [l1, l2] (some ⟨g, 0, none⟩) 2 w (by simp) ⟨by simp, by simp [h1, h2]⟩ (by simp [q1, q2]) (rss_two r1 r2 hg c1 c2)
theorem add_nil (l : List Leg) : addC [l, []] = addC [l] ∧ addL [l, []] = addL [l] := by
  have h1 : allV [l, []] = allV [l] := by unfold allV; simp [isV, isF]
  have h2 : sumG [l, []] = sumG [l] := by funext i; unfold sumG; simp [getF]
  unfold addC addL
  rw [h1, h2]; exact ⟨rfl, rfl⟩
theorem add_bad (l : List Leg) (x : Leg) (h : x.qty = 0) : addC [l, [x]] = 3 ∧ addL [l, [x]] = [] := by
  have h1 : allV [l, [x]] = false := by unfold allV; simp [isV, isF, h]
  unfold addC addL
  rw [h1]; exact ⟨rfl, rfl⟩
theorem with_yes {l : List Leg} {x : Leg} (h : (x.qty == 0) = false) : withC l x = addC [l, [x]] ∧ withL l x = addL [l, [x]] := by
  have hne : x.qty ≠ 0 := by simpa using h
  have e : withLs l x = [l, [x]] := by unfold withLs; rw [if_neg hne]
  exact ⟨by unfold withC; rw [if_neg (fun h => hne h.1), e], by unfold withL; rw [if_neg (fun h => hne h.1), e]⟩
theorem with_zero {l : List Leg} {x : Leg} (h : (x.qty == 0) = true) (h1 : 1 ≤ x.inst) (h2 : x.inst ≤ 8) : withC l x = addC [l] ∧ withL l x = addL [l] := by
  have hz : x.qty = 0 := by simpa using h
  have e : withLs l x = [l, []] := by unfold withLs; rw [if_pos hz]
  exact ⟨by unfold withC; rw [if_neg (by omega), e, (add_nil l).1], by unfold withL; rw [if_neg (by omega), e, (add_nil l).2]⟩
theorem with_bad {l : List Leg} {x : Leg} (h : (x.qty == 0) = true) (h1 : ¬ (1 ≤ x.inst ∧ x.inst ≤ 8)) : withC l x = addC [l, [x]] ∧ withL l x = addL [l, [x]] := by
  have hz : x.qty = 0 := by simpa using h
  obtain ⟨e1, e2⟩ := add_bad l x hz
  unfold withC withL
  rw [if_pos ⟨hz, by omega⟩, if_pos ⟨hz, by omega⟩, e1, e2]; exact ⟨rfl, rfl⟩
theorem withL_len (l : List Leg) (x : Leg) : (withL l x).length ≤ 8 := by
  unfold withL; split
  · simp
  · exact addL_len _
end Go.Proofs.Ytiidplinmempcaa
