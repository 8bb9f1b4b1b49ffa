/- Joined: Bk2, Bk3. -/
import Derived.Test.YtiidplinmempcaaJb7
import Derived.Test.YtiidplinmempcaaJb2
import Derived.Test.YtiidplinmempcaaJb3
import Derived.Test.YtiidplinmempcaaJz7
/- Books: contracts of book.Of, the reference's book.Of, Same; the law's Few. -/
namespace Go.Proofs.Ytiidplinmempcaa
open Go.RowKit
set_option maxRecDepth 100000 in
set_option maxHeartbeats 1000000 in
theorem legClone (l : List Leg) (A : Option Addr) (c : Nat) (w : World) (hl : l.length ≤ 1099511627776) (hr : Rs w 2 (l.map encLeg) A c) :
    Calls Try.prog 95 #[.slice A l.length c] w fun e w' => ∃ v, e = .returned v ∧ Own w' w.heap.size 116 2 v (l.map encLeg) ∧ Below w.heap.size w w' := by
  have Hr := Lib.hid hr
  have hnil := fun W : World => Lib.run_eql_slice_nil (P := Try.prog) W 23 116 A l.length c 0 0 Try.underlying23
  rcases A with _ | ad
  · have hl0 : l = [] := List.map_eq_nil_iff.1 hr.nilrows
    have hc0 : c = 0 := hr.nil rfl
    subst hl0 hc0
    simp only [List.length_nil] at hnil ⊢
    clear hr
    go_enter Try.func95, Try.ntmps95
    go_wp2_with fail
    go_ret
    exact ⟨_, rfl, Own.nil _ _ _ _, by (repeat' (first | (with_reducible exact Below.refl _ _) | (with_reducible assumption) | (with_reducible refine Below.alloc ?_ ?_ _) | (with_reducible refine Below.setCell ?_ ?_ _) | (with_reducible refine Below.drew ?_) | (with_reducible refine below_drewN ?_ _) | (with_reducible refine below_via ?_ (by with_reducible assumption) ?_) | omega | (simp; done) | (simp; omega)))⟩
  · clear hr
    go_enter Try.func95, Try.ntmps95
    go_wp2_with (at_builtin; refine wpList_app rfl _ _ _ rfl elLeg w.heap.size _ [] rfl (Own.made w (Nat.le_refl _)) (some ad) l.length c rfl (l.map encLeg) (by simp) (fun h => by cases h) (Hr.out.keep ((Below.refl _ _).alloc (Nat.le_refl _) _)).rd (rowsLeg l) (by unfold maxLen; simp; omega) (by simp; omega) (by simp) ?_; intro v' w3 hown3 hb3)
    go_ret
    exact ⟨v', rfl, by simpa using hown3, ((Below.refl _ _).alloc (Nat.le_refl _) _).trans hb3⟩
theorem few_inPosV (l : List Leg) (m : Nat) (hm : (l.take 12).length = m) (A : Option Addr) (c : Nat) (w : World) (hr : Rs w 2 (l.map encLeg) A c) :
    Calls Try.prog 13 #[.slice A l.length c] w fun e w' => e = .returned (.slice A m c) ∧ Below w.heap.size w w' :=
  (law11FewN l m (Lib.hid hm) A c w (by have h1 := hr.cap; have h2 := hr.room; rw [List.length_map] at h1; omega) hr).mono fun e w' h => ⟨h.1, by rw [← h.2]; exact Below.refl _ _⟩
set_option maxRecDepth 100000 in
set_option maxHeartbeats 8000000 in
theorem bookOf (l : List PosV) (u : Un) (A : Option Addr) (c : Nat) (w : World) (hl : l.length ≤ 1000000) (hr : Rd w A 3 (l.map encPosV)) (hg : ∀ x ∈ l, GoodPosV w x) :
    Calls Try.prog 39 #[.slice A l.length c, .agg #[.int .i64 u.acc, .int .i64 u.cli]] w fun e w' => ∃ v, e = .returned v ∧ Own w' w.heap.size 116 2 v ((ofK (l.map lgPosV) u).map encLeg) ∧ Below w.heap.size w w' := by
  have HR := Lib.hid hr
  have HG := Lib.hid hg
  clear hr hg
  go_enter Try.func39, Try.ntmps39
  go_wp2_with fail
  go_loopw [9] (fun i wr => ∃ k : Nat, k ≤ l.length ∧ i = .int .i64 k ∧ ofK (l.map lgPosV) u = ofK ((l.drop k).map lgPosV) u ∧ Below w.heap.size w wr ∧ w.heap.size < wr.heap.size ∧ wr.cell? ⟨w.heap.size, 0, none⟩ = some (.int .i64 u.acc) ∧ wr.cell? ⟨w.heap.size, 1, none⟩ = some (.int .i64 u.cli)) (fun i _ => l.length - (intOf i).toNat)
  case atStart => exact ⟨0, Nat.zero_le _, rfl, rfl, by (repeat' (first | (with_reducible exact Below.refl _ _) | (with_reducible assumption) | (with_reducible refine Below.alloc ?_ ?_ _) | (with_reducible refine Below.setCell ?_ ?_ _) | (with_reducible refine Below.drew ?_) | (with_reducible refine below_drewN ?_ _) | (with_reducible refine below_via ?_ (by with_reducible assumption) ?_) | omega | (simp; done) | (simp; omega))), by simp, by simp [go_sem], by simp [go_sem]⟩
  case round =>
    obtain ⟨k, hk, rfl, hv, hbl, hsz, g0, g1⟩ := hrel
    have HV := Lib.hid hv
    have Hbl := Lib.hid hbl
    have hz := hbl.size
    clear hv hbl
    by_cases hlt : k < l.length
    · have kl : (k : Int) < (l.length : Int) := by omega
      have dl : decide ((k : Int) < (l.length : Int)) = true := by simpa using hlt
      have hgk := HG.out l[k] (List.getElem_mem hlt)
      have hli := hgk.1
      have HGK := Lib.hid (hgk.2.keep Hbl.out)
      have hd := lg_atPosV hlt
      clear hgk
      obtain ⟨b, o, rfl, hb, hc⟩ := HR.out k (encPosV l[k]) (by simp [hlt])
      have e0 := (Hbl.out.cell (p := ⟨b, o + k * 3 + 0, none⟩) hb).trans (hc 0 _ rfl)
      have e1 := (Hbl.out.cell (p := ⟨b, o + k * 3 + 1, none⟩) hb).trans (hc 1 _ rfl)
      have e2 := (Hbl.out.cell (p := ⟨b, o + k * 3 + 2, none⟩) hb).trans (hc 2 _ rfl)
      simp only [Nat.add_zero] at e0
      clear hc
      have hbw : b < wr.heap.size := by omega
      rcases un_tPosV (x := l[k].unit) (u := u) with h | h
      · have HN := Lib.hid (show ofK (l.map lgPosV) u = l[k].legs.val from by rw [HV.out, hd]; unfold ofK; rw [if_pos (show (lgPosV l[k]).unit = u from h)]; rfl)
        rw [h] at e0 e1
        clear hd h
        go_wp2_with (first | (go_at_call 95; (with_reducible refine (legClone l[k].legs.val l[k].legs.A l[k].legs.c _ (by omega) (HGK.out.keep (by (repeat' (first | (with_reducible exact Below.refl _ _) | (with_reducible assumption) | (with_reducible refine Below.alloc ?_ ?_ _) | (with_reducible refine Below.setCell ?_ ?_ _) | (with_reducible refine Below.drew ?_) | (with_reducible refine below_drewN ?_ _) | (with_reducible refine below_via ?_ (by with_reducible assumption) ?_) | omega | (simp; done) | (simp; omega)))))).mono ?_); rintro e w3 ⟨v3, rfl, hown3, hb3⟩; obtain ⟨fc3, fg3, hc3, hf3, hz3⟩ := bget hb3; (try simp at hz3)) | fail)
        go_ret
        exact ⟨_, rfl, by rw [HN.out]; exact hown3.mono (by first | omega | (simp; done) | (simp; omega)), by have hbl := Hbl.out; (repeat' (first | (with_reducible exact Below.refl _ _) | (with_reducible assumption) | (with_reducible refine Below.alloc ?_ ?_ _) | (with_reducible refine Below.setCell ?_ ?_ _) | (with_reducible refine Below.drew ?_) | (with_reducible refine below_drewN ?_ _) | (with_reducible refine below_via ?_ (by with_reducible assumption) ?_) | omega | (simp; done) | (simp; omega)))⟩
      · have HN := Lib.hid (show ofK (l.map lgPosV) u = ofK ((l.drop (k + 1)).map lgPosV) u from by rw [HV.out, hd, ofK, if_neg (show ¬ (lgPosV l[k]).unit = u from un_dPosV h)])
        clear hd
        rcases h with h | h
        all_goals
          go_wp2_with fail
          go_roundw
          case rel => exact ⟨k + 1, by omega, by go_num, HN.out, by have hbl := Hbl.out; (repeat' (first | (with_reducible exact Below.refl _ _) | (with_reducible assumption) | (with_reducible refine Below.alloc ?_ ?_ _) | (with_reducible refine Below.setCell ?_ ?_ _) | (with_reducible refine Below.drew ?_) | (with_reducible refine below_drewN ?_ _) | (with_reducible refine below_via ?_ (by with_reducible assumption) ?_) | omega | (simp; done) | (simp; omega))), by simp; omega, by simp [go_sem, g0, hsz], by simp [go_sem, g1, hsz]⟩
          case measure => simp [intOf]; omega
    · have dl : decide ((k : Int) < (l.length : Int)) = false := by simpa using hlt
      have HD := Lib.hid (drop_all (l := l) (k := k) (by omega))
      go_wp2_with fail
      go_ret
      exact ⟨_, rfl, by rw [HV.out, HD.out]; exact Own.nil _ _ _ _, by have hbl := Hbl.out; (repeat' (first | (with_reducible exact Below.refl _ _) | (with_reducible assumption) | (with_reducible refine Below.alloc ?_ ?_ _) | (with_reducible refine Below.setCell ?_ ?_ _) | (with_reducible refine Below.drew ?_) | (with_reducible refine below_drewN ?_ _) | (with_reducible refine below_via ?_ (by with_reducible assumption) ?_) | omega | (simp; done) | (simp; omega)))⟩
set_option maxRecDepth 100000 in
set_option maxHeartbeats 8000000 in
theorem refPosVOf (l : List PosV) (u : Un) (A : Option Addr) (c : Nat) (w : World) (hl : l.length ≤ 1000000) (hr : Rd w A 3 (l.map encPosV)) (hg : ∀ x ∈ l, GoodPosV w x) :
    Calls Try.prog 40 #[.slice A l.length c, .agg #[.int .i64 u.acc, .int .i64 u.cli]] w fun e w' => ∃ A2 c2, e = .returned (.slice A2 (ofK (l.map lgPosV) u).length c2) ∧ Rs w' 2 ((ofK (l.map lgPosV) u).map encLeg) A2 c2 ∧ Below w.heap.size w w' := by
  have HR := Lib.hid hr
  have HG := Lib.hid hg
  clear hr hg
  obtain ⟨R, hR⟩ : ∃ R, R = ofK (l.map lgPosV) u := ⟨_, rfl⟩
  rw [← hR]
  have HRR := Lib.hid hR
  clear hR
  go_enter Try.func40, Try.ntmps40
  go_wp2_with fail
  go_loopw [5] (fun i wr => ∃ k : Nat, k ≤ l.length ∧ i = .int .i64 k ∧ R = ofK ((l.drop k).map lgPosV) u ∧ Below w.heap.size w wr ∧ w.heap.size < wr.heap.size ∧ wr.cell? ⟨w.heap.size, 0, none⟩ = some (.int .i64 u.acc) ∧ wr.cell? ⟨w.heap.size, 1, none⟩ = some (.int .i64 u.cli)) (fun i _ => l.length - (intOf i).toNat)
  case atStart => exact ⟨0, Nat.zero_le _, rfl, HRR.out, by (repeat' (first | (with_reducible exact Below.refl _ _) | (with_reducible assumption) | (with_reducible refine Below.alloc ?_ ?_ _) | (with_reducible refine Below.setCell ?_ ?_ _) | (with_reducible refine Below.drew ?_) | (with_reducible refine below_drewN ?_ _) | (with_reducible refine below_via ?_ (by with_reducible assumption) ?_) | omega | (simp; done) | (simp; omega))), by simp, by simp [go_sem], by simp [go_sem]⟩
  case round =>
    obtain ⟨k, hk, rfl, hv, hbl, hsz, g0, g1⟩ := hrel
    have HV := Lib.hid hv
    have Hbl := Lib.hid hbl
    have hz := hbl.size
    clear hv hbl
    by_cases hlt : k < l.length
    · have kl : (k : Int) < (l.length : Int) := by omega
      have dl : decide ((k : Int) < (l.length : Int)) = true := by simpa using hlt
      have hgk := HG.out l[k] (List.getElem_mem hlt)
      have HGK := Lib.hid (hgk.2.keep Hbl.out)
      have hd := lg_atPosV hlt
      clear hgk
      obtain ⟨b, o, rfl, hb, hc⟩ := HR.out k (encPosV l[k]) (by simp [hlt])
      have e0 := (Hbl.out.cell (p := ⟨b, o + k * 3 + 0, none⟩) hb).trans (hc 0 _ rfl)
      have e1 := (Hbl.out.cell (p := ⟨b, o + k * 3 + 1, none⟩) hb).trans (hc 1 _ rfl)
      have e2 := (Hbl.out.cell (p := ⟨b, o + k * 3 + 2, none⟩) hb).trans (hc 2 _ rfl)
      simp only [Nat.add_zero] at e0
      clear hc
      have hbw : b < wr.heap.size := by omega
      rcases un_tPosV (x := l[k].unit) (u := u) with h | h
      · have HN := Lib.hid (show R = l[k].legs.val from by rw [HV.out, hd]; unfold ofK; rw [if_pos (show (lgPosV l[k]).unit = u from h)]; rfl)
        rw [h] at e0 e1
        clear hd h
        go_wp2_with fail
        go_quiet (fail)
        go_wp2_with fail
        go_ret
        exact ⟨l[k].legs.A, l[k].legs.c, by rw [HN.out]; rfl, by rw [HN.out]; exact HGK.out.keep (by (repeat' (first | (with_reducible exact Below.refl _ _) | (with_reducible assumption) | (with_reducible refine Below.alloc ?_ ?_ _) | (with_reducible refine Below.setCell ?_ ?_ _) | (with_reducible refine Below.drew ?_) | (with_reducible refine below_drewN ?_ _) | (with_reducible refine below_via ?_ (by with_reducible assumption) ?_) | omega | (simp; done) | (simp; omega)))), by have hbl := Hbl.out; (repeat' (first | (with_reducible exact Below.refl _ _) | (with_reducible assumption) | (with_reducible refine Below.alloc ?_ ?_ _) | (with_reducible refine Below.setCell ?_ ?_ _) | (with_reducible refine Below.drew ?_) | (with_reducible refine below_drewN ?_ _) | (with_reducible refine below_via ?_ (by with_reducible assumption) ?_) | omega | (simp; done) | (simp; omega)))⟩
      · have HN := Lib.hid (show R = ofK ((l.drop (k + 1)).map lgPosV) u from by rw [HV.out, hd, ofK, if_neg (show ¬ (lgPosV l[k]).unit = u from un_dPosV h)])
        clear hd
        rcases h with h | h
        all_goals
          go_wp2_with fail
          go_quiet (fail)
          go_wp2_with fail
          go_roundw
          case rel => exact ⟨k + 1, by omega, by go_num, HN.out, by have hbl := Hbl.out; (repeat' (first | (with_reducible exact Below.refl _ _) | (with_reducible assumption) | (with_reducible refine Below.alloc ?_ ?_ _) | (with_reducible refine Below.setCell ?_ ?_ _) | (with_reducible refine Below.drew ?_) | (with_reducible refine below_drewN ?_ _) | (with_reducible refine below_via ?_ (by with_reducible assumption) ?_) | omega | (simp; done) | (simp; omega))), by simp; omega, by simp [go_sem, g0], by simp [go_sem, g1]⟩
          case measure => simp [intOf]; omega
    · have dl : decide ((k : Int) < (l.length : Int)) = false := by simpa using hlt
      have HD := Lib.hid (show R = [] from by rw [HV.out, drop_all (l := l) (k := k) (by omega)]; rfl)
      go_wp2_with fail
      go_ret
      exact ⟨none, 0, by rw [HD.out]; rfl, by rw [HD.out]; exact Rs.empty _ _, by have hbl := Hbl.out; (repeat' (first | (with_reducible exact Below.refl _ _) | (with_reducible assumption) | (with_reducible refine Below.alloc ?_ ?_ _) | (with_reducible refine Below.setCell ?_ ?_ _) | (with_reducible refine Below.drew ?_) | (with_reducible refine below_drewN ?_ _) | (with_reducible refine below_via ?_ (by with_reducible assumption) ?_) | omega | (simp; done) | (simp; omega)))⟩
theorem lg_eqPosV {x y : PosV} (h : lgPosV x = lgPosV y) : x.unit.acc = y.unit.acc ∧ x.unit.cli = y.unit.cli ∧ x.legs.val = y.legs.val := by
  simp only [lgPosV, Row.mk.injEq] at h
  exact ⟨by rw [h.1], by rw [h.1], h.2⟩
set_option maxRecDepth 100000 in
set_option maxHeartbeats 8000000 in
theorem refPosVSame (l m : List PosV) (A B : Option Addr) (c d : Nat) (w : World) (hlm : l.map lgPosV = m.map lgPosV) (hl : l.length ≤ 1000000) (ha : Rd w A 3 (l.map encPosV)) (hb : Rd w B 3 (m.map encPosV)) (hgl : ∀ x ∈ l, GoodPosV w x) (hgm : ∀ x ∈ m, GoodPosV w x) :
    Calls Try.prog 45 #[.slice A l.length c, .slice B m.length d] w fun e w' => e = .returned (.bool true) ∧ Below w.heap.size w w' := by
  have HA := Lib.hid ha
  have HB := Lib.hid hb
  have HGL := Lib.hid hgl
  have HGM := Lib.hid hgm
  have hml : m.length = l.length := by have := congrArg List.length hlm; simpa using this.symm
  have HE := Lib.hid (fun k (h1 : k < l.length) (h2 : k < m.length) => show lgPosV l[k] = lgPosV m[k] from by
    have h3 := congrArg (fun z => z[k]?) hlm
    simpa [List.getElem?_map, h1, h2] using h3)
  have HML := Lib.hid hml
  rw [hml]
  clear ha hb hgl hgm hlm hml
  go_enter Try.func45, Try.ntmps45
  go_wp2_with fail
  go_loopw [5] (fun i wr => ∃ k : Nat, k ≤ l.length ∧ i = .int .i64 k ∧ Below w.heap.size w wr) (fun i _ => l.length - (intOf i).toNat)
  case atStart => exact ⟨0, Nat.zero_le _, rfl, Below.refl _ _⟩
  case round =>
    obtain ⟨k, hk, rfl, hbl⟩ := hrel
    have Hbl := Lib.hid hbl
    have hz := hbl.size
    clear hbl
    by_cases hlt : k < l.length
    · have kl : (k : Int) < (l.length : Int) := by omega
      have dl : decide ((k : Int) < (l.length : Int)) = true := by simpa using hlt
      have hkm : k < m.length := by rw [HML.out]; exact hlt
      have hx := HGL.out l[k] (List.getElem_mem hlt)
      have hy := HGM.out m[k] (List.getElem_mem hkm)
      have he := lg_eqPosV (HE.out k hlt hkm)
      obtain ⟨b1, o1, rfl, hb1, hc1⟩ := HA.out k (encPosV l[k]) (by simp [hlt])
      obtain ⟨b2, o2, rfl, hb2, hc2⟩ := HB.out k (encPosV m[k]) (by simp [hkm])
      unfold GoodPosV at hy
      unfold encPosV at hc2
      rw [← he.1, ← he.2.1, ← he.2.2] at hc2
      rw [← he.2.2] at hy
      generalize m[k].legs.A = B' at hc2 hy
      generalize m[k].legs.c = d' at hc2 hy
      have e0 := (Hbl.out.cell (p := ⟨b1, o1 + k * 3 + 0, none⟩) hb1).trans (hc1 0 _ rfl)
      have e1 := (Hbl.out.cell (p := ⟨b1, o1 + k * 3 + 1, none⟩) hb1).trans (hc1 1 _ rfl)
      have e2 := (Hbl.out.cell (p := ⟨b1, o1 + k * 3 + 2, none⟩) hb1).trans (hc1 2 _ rfl)
      have f0 := (Hbl.out.cell (p := ⟨b2, o2 + k * 3 + 0, none⟩) hb2).trans (hc2 0 _ rfl)
      have f1 := (Hbl.out.cell (p := ⟨b2, o2 + k * 3 + 1, none⟩) hb2).trans (hc2 1 _ rfl)
      have f2 := (Hbl.out.cell (p := ⟨b2, o2 + k * 3 + 2, none⟩) hb2).trans (hc2 2 _ rfl)
      simp only [Nat.add_zero] at e0 f0
      have HX := Lib.hid (fun W (h : Below w.heap.size w W) => ref11Same l[k].legs.val l[k].legs.A B' l[k].legs.c d' W (by have := hx.1; omega) (hx.2.keep h).rd (hy.2.keep h).rd)
      clear hc1 hc2 he hx hy
      go_wp2_with fail
      go_region_held3 (fun w' => (w'.cell? ⟨b1, o1 + k * 3, none⟩ = some (.int .i64 l[k].unit.acc) ∧ w'.cell? ⟨b1, o1 + k * 3 + 1, none⟩ = some (.int .i64 l[k].unit.cli) ∧ w'.cell? ⟨b1, o1 + k * 3 + 2, none⟩ = some (.slice l[k].legs.A l[k].legs.val.length l[k].legs.c)) ∧ w'.cell? ⟨b2, o2 + k * 3, none⟩ = some (.int .i64 l[k].unit.acc) ∧ w'.cell? ⟨b2, o2 + k * 3 + 1, none⟩ = some (.int .i64 l[k].unit.cli) ∧ w'.cell? ⟨b2, o2 + k * 3 + 2, none⟩ = some (.slice B' l[k].legs.val.length d')) (first | (simp [go_sem]; done) | (repeat' (first | (with_reducible assumption) | (with_reducible refine And.intro ?_ ?_) | (with_reducible refine cell_drew ?_) | (with_reducible refine cell_via (by with_reducible assumption) ?_ ?_) | (simp [*]; done) | (simp [go_sem]; done) | (with_reducible refine cell_alloc ?_ ?_) | (with_reducible refine cell_set_far ?_ ?_) | omega | (simp; omega)))) (first | (go_at_call 38; (with_reducible refine (HX.out _ (by have hbl := Hbl.out; (repeat' (first | (with_reducible exact Below.refl _ _) | (with_reducible assumption) | (with_reducible refine Below.alloc ?_ ?_ _) | (with_reducible refine Below.setCell ?_ ?_ _) | (with_reducible refine Below.drew ?_) | (with_reducible refine below_drewN ?_ _) | (with_reducible refine below_via ?_ (by with_reducible assumption) ?_) | omega | (simp; done) | (simp; omega))))).mono ?_); rintro e w1 ⟨rfl, hb1⟩; obtain ⟨fc1, fg1, hc1, hf1, hz1⟩ := bget hb1; (try simp at hz1)) | fail)
      all_goals
        go_wp2_with fail
        go_roundw
        case rel => exact ⟨k + 1, by omega, by go_num, by have hbl := Hbl.out; (repeat' (first | (with_reducible exact Below.refl _ _) | (with_reducible assumption) | (with_reducible refine Below.alloc ?_ ?_ _) | (with_reducible refine Below.setCell ?_ ?_ _) | (with_reducible refine Below.drew ?_) | (with_reducible refine below_drewN ?_ _) | (with_reducible refine below_via ?_ (by with_reducible assumption) ?_) | omega | (simp; done) | (simp; omega)))⟩
        case measure => simp [intOf]; omega
    · have dl : decide ((k : Int) < (l.length : Int)) = false := by simpa using hlt
      go_wp2_with fail
      go_ret
      exact ⟨rfl, by have hbl := Hbl.out; (repeat' (first | (with_reducible exact Below.refl _ _) | (with_reducible assumption) | (with_reducible refine Below.alloc ?_ ?_ _) | (with_reducible refine Below.setCell ?_ ?_ _) | (with_reducible refine Below.drew ?_) | (with_reducible refine below_drewN ?_ _) | (with_reducible refine below_via ?_ (by with_reducible assumption) ?_) | omega | (simp; done) | (simp; omega)))⟩
theorem row3PosV (a b : Int) (A : Option Addr) (n m : Nat) : ∀ r ∈ [[Value.int .i64 a, .int .i64 b, .slice A n m]], r.length = 3 ∧ ∀ u ∈ r, u.oneCell' = true := by
  intro r hr
  simp only [List.mem_singleton] at hr
  subst hr
  refine ⟨rfl, ?_⟩
  simp only [List.mem_cons, List.not_mem_nil, or_false, forall_eq_or_imp, forall_eq]
  exact ⟨rfl, rfl, rfl⟩
/-- A row with at most so many of its list. -/
def fewPosV (x : PosV) : PosV := { x with legs := ⟨x.legs.A, x.legs.c, x.legs.val.take 12⟩ }
theorem fewPosV_good {w : World} {x : PosV} (h : Rs w 2 (x.legs.val.map encLeg) x.legs.A x.legs.c) : GoodPosV w (fewPosV x) ∧ (fewPosV x).legs.val.length ≤ 12 := by
  have h1 : (fewPosV x).legs.val.length ≤ 12 := by simp [fewPosV]; omega
  refine ⟨⟨by omega, ?_⟩, h1⟩
  have := h.take 12
  rw [← List.map_take] at this
  exact this
set_option maxRecDepth 100000 in
set_option maxHeartbeats 8000000 in
theorem law19Few (l : List PosV) (A : Option Addr) (c : Nat) (w : World) (hl : l.length ≤ maxLen) (hr : Rd w A 3 (l.map encPosV)) (hg : ∀ x ∈ l, Rs w 2 (x.legs.val.map encLeg) x.legs.A x.legs.c) :
    Calls Try.prog 35 #[.slice A l.length c] w fun e w' => ∃ v, e = .returned v ∧ Own w' w.heap.size 140 3 v (((l.take 12).map fewPosV).map encPosV) ∧ Below w.heap.size w w' := by
  have HR := Lib.hid hr
  have HG := Lib.hid hg
  have hml : (l.length : Int) ≤ 9223372036854775807 := by unfold maxLen at hl; omega
  clear hr hg hl
  go_enter Try.func35, Try.ntmps35
  go_wp2_with fail
  go_loopw [3, 4] (fun v i wr => ∃ q : Nat, q ≤ l.length ∧ q ≤ 12 ∧ i = .int .i64 q ∧ Own wr w.heap.size 140 3 v (((l.take q).map fewPosV).map encPosV) ∧ Below w.heap.size w wr) (fun _ i _ => l.length - (intOf i).toNat)
  case atStart => exact ⟨0, Nat.zero_le _, Nat.zero_le _, rfl, Own.nil _ _ _ _, by (repeat' (first | (with_reducible exact Below.refl _ _) | (with_reducible assumption) | (with_reducible refine Below.alloc ?_ ?_ _) | (with_reducible refine Below.setCell ?_ ?_ _) | (with_reducible refine Below.drew ?_) | (with_reducible refine below_drewN ?_ _) | (with_reducible refine below_via ?_ (by with_reducible assumption) ?_) | omega | (simp; done) | (simp; omega)))⟩
  case round =>
    obtain ⟨k, hq, hq10, rfl, hown, hbl⟩ := hrel
    have Hown := Lib.hid hown
    have Hbl := Lib.hid hbl
    have hz := hbl.size
    clear hown hbl
    by_cases hgo : k < l.length ∧ k < 12
    · obtain ⟨hlt, h10⟩ := hgo
      have hqi : (k : Int) < (l.length : Int) := by omega
      have dl : decide ((k : Int) < (l.length : Int)) = true := by simpa using hlt
      have d10 : decide ((k : Int) < 12) = true := by simp; omega
      have hlen : ((l.take k).map fewPosV).length ≤ 12 := by simp; omega
      have hx := HG.out l[k] (List.getElem_mem hlt)
      obtain ⟨b, o, rfl, hb, hc⟩ := HR.out k (encPosV l[k]) (by simp [hlt])
      have e0 := (Hbl.out.cell (p := ⟨b, o + k * 3 + 0, none⟩) hb).trans (hc 0 _ rfl)
      have e1 := (Hbl.out.cell (p := ⟨b, o + k * 3 + 1, none⟩) hb).trans (hc 1 _ rfl)
      have e2 := (Hbl.out.cell (p := ⟨b, o + k * 3 + 2, none⟩) hb).trans (hc 2 _ rfl)
      simp only [Nat.add_zero] at e0
      clear hc
      have hbw : b < wr.heap.size := by omega
      obtain ⟨m, hm⟩ : ∃ m, (l[k].legs.val.take 12).length = m := ⟨_, rfl⟩
      have CF := Lib.hid (fun W (h : Below w.heap.size w W) => few_inPosV l[k].legs.val m hm l[k].legs.A l[k].legs.c W (hx.keep h))
      have HS : Hid (((l.take (k + 1)).map fewPosV).map encPosV = ((l.take k).map fewPosV).map encPosV ++ [[.int .i64 l[k].unit.acc, .int .i64 l[k].unit.cli, .slice l[k].legs.A m l[k].legs.c]]) := by
        unfold Hid
        rw [map_snoc hlt fewPosV, List.map_append]
        congr 1
        simp only [List.map_cons, List.map_nil, encPosV, fewPosV, hm]
      clear hx hm
      go_wp2_with fail
      go_region_held3 (fun w' => (w'.cell? ⟨b, o + k * 3, none⟩ = some (.int .i64 l[k].unit.acc) ∧ w'.cell? ⟨b, o + k * 3 + 1, none⟩ = some (.int .i64 l[k].unit.cli) ∧ w'.cell? ⟨b, o + k * 3 + 2, none⟩ = some (.slice l[k].legs.A l[k].legs.val.length l[k].legs.c))) (first | (simp [go_sem]; done) | (repeat' (first | (with_reducible assumption) | (with_reducible refine And.intro ?_ ?_) | (with_reducible refine cell_drew ?_) | (with_reducible refine cell_via (by with_reducible assumption) ?_ ?_) | (simp [*]; done) | (simp [go_sem]; done) | (with_reducible refine cell_alloc ?_ ?_) | (with_reducible refine cell_set_far ?_ ?_) | omega | (simp; omega)))) (first | (go_at_call 13; (with_reducible refine (CF.out _ (by have hbl := Hbl.out; (repeat' (first | (with_reducible exact Below.refl _ _) | (with_reducible assumption) | (with_reducible refine Below.alloc ?_ ?_ _) | (with_reducible refine Below.setCell ?_ ?_ _) | (with_reducible refine Below.drew ?_) | (with_reducible refine below_drewN ?_ _) | (with_reducible refine below_via ?_ (by with_reducible assumption) ?_) | omega | (simp; done) | (simp; omega))))).mono ?_); rintro e w1 ⟨rfl, hb1⟩; obtain ⟨fc1, fg1, hc1, hf1, hz1⟩ := bget hb1; (try simp at hz1)) | (refine step_app rfl _ _ _ rfl elPosV w.heap.size _ _ rfl (Hown.out.keep (by (repeat' (first | (with_reducible exact Below.refl _ _) | (with_reducible assumption) | (with_reducible refine Below.alloc ?_ ?_ _) | (with_reducible refine Below.setCell ?_ ?_ _) | (with_reducible refine Below.drew ?_) | (with_reducible refine below_drewN ?_ _) | (with_reducible refine below_via ?_ (by with_reducible assumption) ?_) | omega | (simp; done) | (simp; omega))))) (some ⟨_, 0, none⟩) 1 1 rfl [[.int .i64 l[k].unit.acc, .int .i64 l[k].unit.cli, .slice l[k].legs.A m l[k].legs.c]] rfl (fun h => by cases h) (rd_oneN (by simp)) (row3PosV _ _ _ _ _) (by unfold maxLen; simp; omega) (by simp; omega) (by first | omega | (simp; done) | (simp; omega)) ?_; intro v4 w4 hown4 hb4; have HO4 := Lib.hid hown4; clear hown4; obtain ⟨fc4, fg4, hc4, hf4, hz4⟩ := bget hb4; (try simp at hz4)) | fail)
      all_goals
        go_wp2_with fail
        go_roundw
        case rel => exact ⟨k + 1, by omega, by omega, by go_num, by rw [HS.out]; exact HO4.out, by have hbl := Hbl.out; (repeat' (first | (with_reducible exact Below.refl _ _) | (with_reducible assumption) | (with_reducible refine Below.alloc ?_ ?_ _) | (with_reducible refine Below.setCell ?_ ?_ _) | (with_reducible refine Below.drew ?_) | (with_reducible refine below_drewN ?_ _) | (with_reducible refine below_via ?_ (by with_reducible assumption) ?_) | omega | (simp; done) | (simp; omega)))⟩
        case measure => simp [intOf]; omega
    · have HT := Lib.hid (show l.take k = l.take 12 from by
        rcases Nat.lt_or_ge k 12 with h | h
        · rw [List.take_of_length_le (by omega), List.take_of_length_le (by omega)]
        · rw [show k = 12 by omega])
      by_cases hlt : k < l.length
      · have dl : decide ((k : Int) < (l.length : Int)) = true := by simpa using hlt
        have d10 : decide ((k : Int) < 12) = false := by simp; omega
        go_wp2_with fail
        go_ret
        exact ⟨_, rfl, by rw [← HT.out]; exact Hown.out, Hbl.out⟩
      · have dl : decide ((k : Int) < (l.length : Int)) = false := by simpa using hlt
        go_wp2_with fail
        go_ret
        exact ⟨_, rfl, by rw [← HT.out]; exact Hown.out, Hbl.out⟩
end Go.Proofs.Ytiidplinmempcaa

/- Books: contracts of copied, slices.Delete, Insert, place. -/
namespace Go.Proofs.Ytiidplinmempcaa
open Go.RowKit
theorem zone_PosV (z : Value) (h : (Try.prog.info? 140).bind (·.zero) = some z) : ∀ u ∈ z.cells, u.oneCell' = true := by
  have e : (Try.prog.info? 140).bind (·.zero) = some (.agg #[.int .i64 0, .int .i64 0, .slice none 0 0]) := by kernel_rfl
  rw [h] at e
  injection e with e
  subst e
  simp [Value.cells]
  decide
theorem insPosAt_over (w : World) (gv g o lb cb m vc : Nat) (x : PosV) (cur : Array Value) (hv : Blk w gv 140 #[.int .i64 x.unit.acc, .int .i64 x.unit.cli, .slice x.legs.A x.legs.val.length x.legs.c]) (hg : Blk w g 140 cur) (hne : gv ≠ g) (hc : cur.size ≠ 0) :
    (callFunc 140 #[.slice (some ⟨gv, 0, none⟩) m vc, .slice (some ⟨g, o, none⟩) lb cb]).run Try.prog w = .ok (.value (.bool false)) w := by
  rw [run_callFunc_extern Try.func140 (by kernel_rfl) (by kernel_rfl) (by kernel_rfl) (e := Extern.SlicesOverlaps.overlaps #[72, 72] #[4]) (by kernel_rfl),
    Lib.run_overlaps_apart w 72 4 140 Try.underlying72 3 (fun _ => by kernel_rfl) ⟨gv, 0, none⟩ ⟨g, o, none⟩ m vc lb cb hne _ _ _ _ hv.shape hg.shape hc (hv.frozen 0) (hv.frozen _)]
  rfl
set_option maxRecDepth 100000 in
set_option maxHeartbeats 4000000 in
theorem insPosAt (l : List PosV) (x : PosV) (i : Nat) (v : Value) (base gv : Nat) (w : World) (hi : i ≤ l.length) (hl : l.length ≤ 1048576) (hbs : base ≤ w.heap.size) (hown : Own w base 140 3 v (l.map encPosV)) (hv : Blk w gv 140 #[.int .i64 x.unit.acc, .int .i64 x.unit.cli, .slice x.legs.A x.legs.val.length x.legs.c]) (hne : v.ownBlock ≠ some gv) :
    Calls Try.prog 100 #[v, .int .i64 i, .slice (some ⟨gv, 0, none⟩) 1 1] w fun e w' => ∃ v', e = .returned v' ∧ Own w' base 140 3 v' ((l.take i ++ x :: l.drop i).map encPosV) ∧ Below base w w' ∧ w.grownBy w' v.ownBlock := by
  have HOWN := Lib.hid hown
  have HV := Lib.hid hv
  have hil : (i : Int) ≤ (l.length : Int) := by omega
  obtain ⟨A, c, hv0, hrs, hform⟩ := hown.rs
  have hcap := hrs.cap
  have hroom := hrs.room
  rw [List.length_map] at hv0 hcap
  unfold maxLen at hroom
  subst hv0
  have HRD := Lib.hid hrs.rd
  clear hown hrs hv
  cases he : ((i : Int) == (l.length : Int))
  rotate_left
  · have hie : i = l.length := by have := eq_of_beq he; omega
    have HE := Lib.hid (show (l.take i ++ x :: l.drop i).map encPosV = l.map encPosV ++ [encPosV x] from by rw [hie, List.take_length, List.drop_length]; simp)
    have hie1 : i ≤ l.length ∧ l.length ≤ i := by omega
    clear hie
    have tailc : (A = none ∧ l.length = 0 ∧ c = 0 ∧ i = 0) ∨ (∃ g, A = some ⟨g, 0, none⟩ ∧ c = i) ∨ (∃ g, A = some ⟨g, 0, none⟩ ∧ ¬ c = i) := by
      rcases hform with ⟨h1, h2, h3⟩ | ⟨g, h1, _⟩
      · left; exact ⟨h1, by simpa using congrArg List.length h2, h3, by have := congrArg List.length h2; simp at this; rw [this] at hie1; simpa using hie1.1⟩
      · right
        by_cases h : c = i
        · left; exact ⟨g, h1, h⟩
        · right; exact ⟨g, h1, h⟩
    rcases tailc with ⟨rfl, hl0, rfl, rfl⟩ | ⟨g, rfl, hc⟩ | ⟨g, rfl, hc⟩
    · have hl1 : l = [] := List.eq_nil_of_length_eq_zero hl0
      subst hl1
      simp only [List.length_nil]
      go_enter Try.func100, Try.ntmps100
      go_wp2_with (at_builtin; refine wpList_appG rfl _ _ _ rfl elPosV base (.slice none 0 0) [] rfl (Own.nil _ _ _ _) ⟨gv, 0, none⟩ 1 1 rfl [encPosV x] rfl HV.out.rd (rowsPosV [x]) (by unfold maxLen; first | (simp; done) | omega | (simp; omega)) (by first | (simp; done) | omega | (simp; omega)) hbs ?_; intro v' w3 hown3 hb3 hg3)
      go_ret
      exact ⟨v', rfl, by simpa using hown3, hb3, hg3⟩
    · have hc' : ¬ c < i := by omega
      have hc2 : c ≤ i ∧ i ≤ c := by omega
      subst hc
      go_enter Try.func100, Try.ntmps100
      go_wp2_with (at_builtin; refine wpList_appG rfl _ _ _ rfl elPosV base (.slice (some ⟨g, 0, none⟩) l.length c) (l.map encPosV) rfl HOWN.out ⟨gv, 0, none⟩ 1 1 rfl [encPosV x] rfl HV.out.rd (rowsPosV [x]) (by unfold maxLen; first | (simp; done) | omega | (simp; omega)) (by first | (simp; done) | omega | (simp; omega)) hbs ?_; intro v' w3 hown3 hb3 hg3)
      go_ret
      exact ⟨v', rfl, by rw [HE.out]; exact hown3, hb3, hg3⟩
    · have hc' : ¬ i = c := by omega
      go_enter Try.func100, Try.ntmps100
      go_wp2_with (at_builtin; refine wpList_appG rfl _ _ _ rfl elPosV base (.slice (some ⟨g, 0, none⟩) l.length c) (l.map encPosV) rfl HOWN.out ⟨gv, 0, none⟩ 1 1 rfl [encPosV x] rfl HV.out.rd (rowsPosV [x]) (by unfold maxLen; first | (simp; done) | omega | (simp; omega)) (by first | (simp; done) | omega | (simp; omega)) hbs ?_; intro v' w3 hown3 hb3 hg3)
      go_ret
      exact ⟨v', rfl, by rw [HE.out]; exact hown3, hb3, hg3⟩
  have hlt : i < l.length := by
    rcases Nat.lt_or_ge i l.length with h | h
    · exact h
    · exfalso
      have e : (i : Int) = (l.length : Int) := by omega
      rw [e] at he
      simp at he
  obtain ⟨g, rfl, hgb, hgl⟩ : ∃ g, A = some ⟨g, 0, none⟩ ∧ base ≤ g ∧ g < w.heap.size := by
    rcases hform with ⟨_, h2, _⟩ | h
    · exfalso; have := congrArg List.length h2; simp at this; rw [this] at hlt; simp at hlt
    · exact h
  have hgne : g ≠ gv := by simpa [Value.ownBlock] using hne
  have hci : ¬ c = i := by omega
  have hci' : ¬ i = c := by omega
  have HX : Hid ((l.take i ++ x :: l.drop i).map encPosV = (l.map encPosV).take i ++ encPosV x :: (l.map encPosV).drop i) := by unfold Hid; simp [List.map_take, List.map_drop]
  have hrl : i < (l.map encPosV).length := by rw [List.length_map]; exact hlt
  have il : (i : Int) < (l.length : Int) := by omega
  by_cases hgrow : c < l.length + 1
  · have hg1 : decide ((c : Int) < (l.length : Int) + 1) = true := by simp; omega
    have RT := Lib.hid (rd_take' HRD.out i)
    have rdr := rd_dropR HRD.out i
    rw [Nat.zero_add] at rdr
    have RDR := Lib.hid rdr
    clear rdr
    have lt1 : ((l.map encPosV).take i).length = i := by rw [List.length_take]; omega
    have LT1 := Lib.hid lt1
    have LD1 := Lib.hid (show ((l.map encPosV).drop i).length = l.length - i from by simp)
    have HRW := Lib.hid (rowsPosV l)
    clear hform lt1
    go_enter Try.func100, Try.ntmps100
    go_wp2_with (first | (at_builtin; refine wpList_appZ rfl _ _ _ _ (kn := .i64) (by kernel_rfl) rfl elPosV (sLen := i) (sCap := c) (m := l.length + 1 - i) (N := l.length + 1) rfl rfl (by omega) LT1.out RT.out (fun r hr => (HRW.out r (List.mem_of_mem_take hr)).1) (by omega) (by omega) (by omega) (by unfold maxLen; omega) (by omega) ?_; intro w3 c3 junk hj hown3 hb3; have HJ := Lib.hid hj; have hc3 := hown3.rd.2.2; have hjl : l.length + 1 ≤ c3 := (by have := hown3.rd.2.1; omega); have hm3 : c3 ≤ 9223372036854775807 := (by have := hc3.2; unfold maxLen at this; omega); have HO3 := Lib.hid hown3; have Hb3 := Lib.hid hb3; have hz3 := hb3.size; have hi3 : ¬ c3 = i := (by omega); have hi3' : ¬ i = c3 := (by omega); clear hj hown3 hc3 hb3) | (refine wpList_copyR rfl _ _ _ _ rfl elPosV (base := w.heap.size) (g := w.heap.size) (n := l.length + 1) (d := i) (sLen := 1) (src := [encPosV x]) rfl rfl HO3.out (by change 1 = min _ _; omega) (by change i + 1 ≤ _; omega) (HV.out.below Hb3.out HV.out.lt).rd (rowsPosV [x]) ?_; intro w4 hown4 ho4; have HO4 := Lib.hid hown4; have Ho4 := Lib.hid ho4; have hz4 := ho4.size; clear hown4 ho4))
    have S1 := Lib.hid (show ((l.map encPosV).drop i).length = Nat.min (l.length - i) (l.length - i) from by rw [LD1.out]; change _ = min _ _; omega)
    have S2 := Lib.hid (show i + 1 + ((l.map encPosV).drop i).length ≤ l.length + 1 from by rw [LD1.out]; omega)
    have S3 := Lib.hid (show g ≠ w.heap.size from by omega)
    have wk : IntKind.i64.wrap ((i : Int) + 1) = (i : Int) + 1 := IntWalk.i64_in _ (by omega)
    have tk : ((i : Int) + 1).toNat = i + 1 := by omega
    have nk : (0 : Int) ≤ (i : Int) + 1 := by omega
    have ck : ¬ c3 = i + 1 := by omega
    have il1 : (i : Int) ≤ (l.length : Int) + 1 := by omega
    go_region_law (refine step_copyR rfl (.tmp 50) (.tmp 53) 72 72 rfl elPosV (base := w.heap.size) (g := w.heap.size) (n := l.length + 1) (c := c3) (d := i + 1) (dLen := l.length - i) (dCap := c3 - (i + 1)) (sLen := l.length - i) (sCap := c - i) (ad := ⟨g, i * 3, none⟩) (rows := lay ((l.map encPosV).take i ++ junk) [encPosV x] i) (src := (l.map encPosV).drop i) ?_ ?_ HO4.out.drew S1.out S2.out ((RDR.out.keep Hb3.out).only rfl Ho4.out S3.out).drew (fun r hr => HRW.out r (List.mem_of_mem_drop hr)) ?_; go_simp; go_simp; intro w5 hown5 ho5; have HO5 := Lib.hid hown5; have Ho5 := Lib.hid ho5.undrew; clear hown5 ho5)
    clear wk tk nk
    go_wp2_with fail
    go_ret
    refine ⟨_, rfl, ?_, ?_, ?_⟩
    · rw [HX.out, ← ins_grow hrl (by rw [HJ.out, List.length_map])]
      exact HO5.out.mono hbs
    · exact below_only (below_only (Hb3.out.mono hbs) Ho4.out (by omega) hbs) Ho5.out (by omega) hbs
    · exact grown_of_below (below_only (below_only Hb3.out Ho4.out (by omega) (Nat.le_refl _)) Ho5.out (by omega) (Nat.le_refl _))
  · have hg1 : decide ((c : Int) < (l.length : Int) + 1) = false := by simp; omega
    obtain ⟨junk, hj, hfull⟩ := HOWN.out.full
    have hhead := hfull.head (m := l.length + 1) (by omega)
    obtain ⟨cur, hcur⟩ := HOWN.out.blk rfl
    have hcs : cur.size ≠ 0 := by
      obtain ⟨cur', h1, _, _, _, _, h2, _⟩ := HOWN.out.raw
      unfold Blk at hcur
      rw [hcur] at h1
      injection h1 with h1
      injection h1 with h1 _ _
      subst h1
      omega
    have HJ := Lib.hid (show 0 < junk.length from by omega)
    have HH := Lib.hid hhead
    have hov := fun lb cb => insPosAt_over w gv g ((i + 1) * 3) lb cb 1 1 x cur HV.out hcur (fun e => hgne e.symm) hcs
    have LD1 := Lib.hid (show ((l.map encPosV).drop i).length = l.length - i from by simp)
    have HRW := Lib.hid (rowsPosV l)
    have rdr := rd_dropR HRD.out i
    rw [Nat.zero_add] at rdr
    have RDR := Lib.hid rdr
    clear rdr
    clear hform hfull hhead hcur hcs hj
    go_enter Try.func100, Try.ntmps100
    go_wp2_with fail
    clear hov
    have S1 := Lib.hid (show ((l.map encPosV).drop i).length = Nat.min (l.length + 1 - i) (l.length - i) from by rw [LD1.out]; change _ = min _ _; omega)
    have S2 := Lib.hid (show i + 1 + ((l.map encPosV).drop i).length ≤ l.length + 1 from by rw [LD1.out]; omega)
    have wk : IntKind.i64.wrap ((i : Int) + 1) = (i : Int) + 1 := IntWalk.i64_in _ (by omega)
    have tk : ((i : Int) + 1).toNat = i + 1 := by omega
    have nk : (0 : Int) ≤ (i : Int) + 1 := by omega
    have ck : ¬ c = i + 1 := by omega
    have il1 : (i : Int) ≤ (l.length : Int) + 1 := by omega
    go_region_law (refine step_copyR rfl (.tmp 73) (.tmp 76) 72 72 rfl elPosV (base := base) (g := g) (n := l.length + 1) (c := c) (d := i + 1) (dLen := l.length - i) (dCap := c - (i + 1)) (sLen := l.length + 1 - i) (sCap := c - i) (ad := ⟨g, i * 3, none⟩) (rows := (l.map encPosV ++ junk).take (l.length + 1)) (src := (l.map encPosV).drop i) ?_ ?_ HH.out.drew S1.out S2.out RDR.out.drew (fun r hr => HRW.out r (List.mem_of_mem_drop hr)) ?_; go_simp; go_simp; intro w5 hown5 ho5; have HO5 := Lib.hid hown5; have Ho5 := Lib.hid ho5.undrew; clear hown5 ho5)
    clear wk tk nk
    go_wp2_with (refine wpList_copyR rfl _ _ _ _ rfl elPosV (base := base) (g := g) (n := l.length + 1) (c := c) (d := i) (sLen := 1) (src := [encPosV x]) rfl rfl HO5.out (by change 1 = min _ _; omega) (by change i + 1 ≤ _; omega) (HV.out.only Ho5.out (fun e => hgne e.symm)).rd (rowsPosV [x]) ?_; intro w6 hown6 ho6; have HO6 := Lib.hid hown6; have Ho6 := Lib.hid ho6; clear hown6 ho6)
    go_ret
    refine ⟨_, rfl, ?_, ?_, ?_⟩
    · rw [HX.out, ← ins_room hrl HJ.out, List.length_map]
      exact HO6.out
    · exact below_only (below_only (Below.refl _ _) Ho5.out hbs hgb) Ho6.out (by have := Ho5.out.size; omega) hgb
    · exact grown_of_only Ho5.out Ho6.out
/-- A list of the call's own. -/
def OwnP (w : World) (base : Nat) (y : PosV) : Prop := y.legs.val.length ≤ 1000000 ∧ Own w base 116 2 (.slice y.legs.A y.legs.val.length y.legs.c) (y.legs.val.map encLeg)
theorem OwnP.good {w : World} {base : Nat} {y : PosV} (h : OwnP w base y) : GoodPosV w y := ⟨h.1, h.2.good⟩
theorem OwnP.away {w w' : World} {base : Nat} {y : PosV} (h : OwnP w base y) (ha : Away 140 w w') : OwnP w' base y := ⟨h.1, h.2.away ha (by decide)⟩
theorem OwnP.mono {w : World} {base b : Nat} {y : PosV} (h : OwnP w base y) (hb : b ≤ base) : OwnP w b y := ⟨h.1, h.2.mono hb⟩
set_option maxRecDepth 100000 in
set_option maxHeartbeats 8000000 in
theorem bookCopied (l : List PosV) (A : Option Addr) (c : Nat) (w : World) (hl : l.length ≤ 1000000) (hr : Rd w A 3 (l.map encPosV)) (hg : ∀ x ∈ l, GoodPosV w x) :
    Calls Try.prog 98 #[.slice A l.length c] w fun e w' => ∃ (v : Value) (ys : List PosV), e = .returned v ∧ ys.map lgPosV = l.map lgPosV ∧ Own w' w.heap.size 140 3 v (ys.map encPosV) ∧ (∀ y ∈ ys, OwnP w' w.heap.size y) ∧ Below w.heap.size w w' := by
  have HR := Lib.hid hr
  have HG := Lib.hid hg
  clear hr hg
  go_enter Try.func98, Try.ntmps98
  go_wp2_with fail
  go_loopw [3, 8] (fun v i wr => ∃ (k : Nat) (ys : List PosV), k ≤ l.length ∧ i = .int .i64 k ∧ ys.map lgPosV = (l.take k).map lgPosV ∧ Own wr w.heap.size 140 3 v (ys.map encPosV) ∧ (∀ y ∈ ys, OwnP wr w.heap.size y) ∧ Below w.heap.size w wr) (fun _ i _ => l.length - (intOf i).toNat)
  case atStart => exact ⟨0, [], Nat.zero_le _, rfl, rfl, Own.nil _ _ _ _, fun y hy => absurd hy (by simp), Below.refl _ _⟩
  case round =>
    obtain ⟨k, ys, hk, rfl, hlg, hown, hgd, hbl⟩ := hrel
    have Hlg := Lib.hid hlg
    have Hown := Lib.hid hown
    have Hgd := Lib.hid hgd
    have Hbl := Lib.hid hbl
    have hz := hbl.size
    have hyl : ys.length = k := by have := congrArg List.length hlg; simp only [List.length_map, List.length_take] at this; omega
    clear hlg hown hgd hbl
    by_cases hlt : k < l.length
    · have kl : (k : Int) < (l.length : Int) := by omega
      have dl : decide ((k : Int) < (l.length : Int)) = true := by simpa using hlt
      have hgk := HG.out l[k] (List.getElem_mem hlt)
      have hli := hgk.1
      have HLI := Lib.hid hli
      have HGK := Lib.hid (hgk.2.keep Hbl.out)
      clear hgk
      obtain ⟨b, o, rfl, hb, hc⟩ := HR.out k (encPosV l[k]) (by simp [hlt])
      have e0 := (Hbl.out.cell (p := ⟨b, o + k * 3 + 0, none⟩) hb).trans (hc 0 _ rfl)
      have e1 := (Hbl.out.cell (p := ⟨b, o + k * 3 + 1, none⟩) hb).trans (hc 1 _ rfl)
      have e2 := (Hbl.out.cell (p := ⟨b, o + k * 3 + 2, none⟩) hb).trans (hc 2 _ rfl)
      simp only [Nat.add_zero] at e0
      clear hc
      have hbw : b < wr.heap.size := by omega
      have HM := Lib.hid (show (l.take (k + 1)).map lgPosV = (l.take k).map lgPosV ++ [lgPosV l[k]] from map_snoc hlt _)
      go_wp2_with fail
      go_region_held3 (fun w' => w'.cell? ⟨wr.heap.size, 0, none⟩ = some (.int .i64 l[k].unit.acc) ∧ w'.cell? ⟨wr.heap.size, 1, none⟩ = some (.int .i64 l[k].unit.cli) ∧ w'.cell? ⟨wr.heap.size, 2, none⟩ = some (.slice l[k].legs.A l[k].legs.val.length l[k].legs.c)) (first | (simp [go_sem]; done) | (repeat' (first | (with_reducible assumption) | (with_reducible refine And.intro ?_ ?_) | (with_reducible refine cell_drew ?_) | (with_reducible refine cell_via (by with_reducible assumption) ?_ ?_) | (simp [*]; done) | (simp [go_sem]; done) | (with_reducible refine cell_alloc ?_ ?_) | (with_reducible refine cell_set_far ?_ ?_) | omega | (simp; omega)))) (first | (go_at_call 95; (with_reducible refine (legClone l[k].legs.val l[k].legs.A l[k].legs.c _ (by omega) (HGK.out.keep (by (repeat' (first | (with_reducible exact Below.refl _ _) | (with_reducible assumption) | (with_reducible refine Below.alloc ?_ ?_ _) | (with_reducible refine Below.setCell ?_ ?_ _) | (with_reducible refine Below.drew ?_) | (with_reducible refine below_drewN ?_ _) | (with_reducible refine below_via ?_ (by with_reducible assumption) ?_) | omega | (simp; done) | (simp; omega)))))).mono ?_); rintro e w3 ⟨v3, rfl, hown3, hb3⟩; obtain ⟨A3, c3, hv3, hrs3, hform3⟩ := hown3.rs; rw [List.length_map] at hv3; subst hv3; have HO3 := Lib.hid hown3; clear hown3 hrs3 hform3; obtain ⟨fc3, fg3, hc3, hf3, hz3⟩ := bget hb3; (try simp at hz3)) | (refine step_appG rfl _ _ _ rfl elPosV w.heap.size _ _ rfl (Hown.out.keep (by (repeat' (first | (with_reducible exact Below.refl _ _) | (with_reducible assumption) | (with_reducible refine Below.alloc ?_ ?_ _) | (with_reducible refine Below.setCell ?_ ?_ _) | (with_reducible refine Below.drew ?_) | (with_reducible refine below_drewN ?_ _) | (with_reducible refine below_via ?_ (by with_reducible assumption) ?_) | omega | (simp; done) | (simp; omega))))) ⟨_, 0, none⟩ 1 1 rfl [[.int .i64 l[k].unit.acc, .int .i64 l[k].unit.cli, .slice A3 l[k].legs.val.length c3]] rfl (rd_oneN (by simp)) (row3PosV _ _ _ _ _) (by unfold maxLen; simp; omega) (by simp; omega) (by first | omega | (simp; done) | (simp; omega)) ?_; intro v4 w4 hown4 hb4 hg4; have q0 : w4.cell? ⟨wr.heap.size, 0, none⟩ = some (.int .i64 l[k].unit.acc) := (grown_at hg4 (by simp; omega) (fun e => absurd (Hown.out.block _ e).2 (by omega)) 0).trans (by simp [go_sem, hc3, ↓IntWalk.iteOmega]); have q1 : w4.cell? ⟨wr.heap.size, 1, none⟩ = some (.int .i64 l[k].unit.cli) := (grown_at hg4 (by simp; omega) (fun e => absurd (Hown.out.block _ e).2 (by omega)) 1).trans (by simp [go_sem, hc3, ↓IntWalk.iteOmega]); have q2 : w4.cell? ⟨wr.heap.size, 2, none⟩ = some (.slice l[k].legs.A l[k].legs.val.length l[k].legs.c) := (grown_at hg4 (by simp; omega) (fun e => absurd (Hown.out.block _ e).2 (by omega)) 2).trans (by simp [go_sem, hc3, ↓IntWalk.iteOmega]); have HO4 := Lib.hid hown4; have HG4 := Lib.hid hg4; clear hown4 hg4; obtain ⟨fc4, fg4, hc4, hf4, hz4⟩ := bget hb4; (try simp at hz4)) | fail)
      all_goals
        go_wp2_with fail
        go_roundw
        case rel =>
          have h03 : Below wr.heap.size wr w3 := by clear hb4; (repeat' (first | (with_reducible exact Below.refl _ _) | (with_reducible assumption) | (with_reducible refine Below.alloc ?_ ?_ _) | (with_reducible refine Below.setCell ?_ ?_ _) | (with_reducible refine Below.drew ?_) | (with_reducible refine below_drewN ?_ _) | (with_reducible refine below_via ?_ (by with_reducible assumption) ?_) | omega | (simp; done) | (simp; omega)))
          have h3a := (Below.refl w3.heap.size w3).alloc (Nat.le_refl _) (.cells #[.int .i64 l[k].unit.acc, .int .i64 l[k].unit.cli, .slice A3 l[k].legs.val.length c3] 140)
          have ha0 : Away 140 wr w3 := Away.below h03
          have ho3 := HO3.out.mono (b := w.heap.size) (by simp; omega)
          have ha4 : Away 140 w3 w4 := (Away.below h3a).trans (Away.grown HG4.out (Own.typed ((Hown.out.keep h03).keep h3a)))
          refine ⟨k + 1, ys ++ [⟨l[k].unit, ⟨A3, c3, l[k].legs.val⟩⟩], by omega, by go_num, ?_, ?_, ?_, ?_⟩
          · rw [HM.out, List.map_append, Hlg.out]; rfl
          · rw [List.map_append]; exact HO4.out
          · intro y hy
            rcases List.mem_append.1 hy with h | h
            · exact (Hgd.out y h).away (ha0.trans ha4)
            · rw [List.mem_singleton] at h
              subst h
              exact (show OwnP w3 w.heap.size ⟨l[k].unit, ⟨A3, c3, l[k].legs.val⟩⟩ from ⟨HLI.out, ho3⟩).away ha4
          · have hbl := Hbl.out
            (repeat' (first | (with_reducible exact Below.refl _ _) | (with_reducible assumption) | (with_reducible refine Below.alloc ?_ ?_ _) | (with_reducible refine Below.setCell ?_ ?_ _) | (with_reducible refine Below.drew ?_) | (with_reducible refine below_drewN ?_ _) | (with_reducible refine below_via ?_ (by with_reducible assumption) ?_) | omega | (simp; done) | (simp; omega)))
        case measure => simp [intOf]; omega
    · have dl : decide ((k : Int) < (l.length : Int)) = false := by simpa using hlt
      have HM := Lib.hid (show l.take k = l from List.take_of_length_le (by omega))
      go_wp2_with fail
      go_ret
      exact ⟨_, ys, rfl, by rw [Hlg.out, HM.out], Hown.out, Hgd.out, Hbl.out⟩
set_option maxRecDepth 100000 in
set_option maxHeartbeats 8000000 in
theorem bookPlace (l : List PosV) (u : Un) (A : Option Addr) (c : Nat) (w : World) (hl : l.length ≤ 1000000) (hr : Rd w A 3 (l.map encPosV)) :
    Calls Try.prog 97 #[.slice A l.length c, .agg #[.int .i64 u.acc, .int .i64 u.cli]] w fun e w' => e = .returned (.tuple #[.int .i64 (plK (l.map lgPosV) u : Nat), .bool (thK (l.map lgPosV) u)]) ∧ Below w.heap.size w w' := by
  have HR := Lib.hid hr
  have HPL := Lib.hid (show plK (l.map lgPosV) u = 0 + plK ((l.drop 0).map lgPosV) u from by simp)
  have HTL := Lib.hid (show thK (l.map lgPosV) u = thK ((l.drop 0).map lgPosV) u from rfl)
  generalize plK (l.map lgPosV) u = P at *
  generalize thK (l.map lgPosV) u = T at *
  clear hr
  go_enter Try.func97, Try.ntmps97
  go_wp2_with fail
  go_loopw [10] (fun i wr => ∃ k : Nat, k ≤ l.length ∧ i = .int .i64 k ∧ (P = k + plK ((l.drop k).map lgPosV) u ∧ T = thK ((l.drop k).map lgPosV) u) ∧ Below w.heap.size w wr ∧ w.heap.size < wr.heap.size ∧ wr.cell? ⟨w.heap.size, 0, none⟩ = some (.int .i64 u.acc) ∧ wr.cell? ⟨w.heap.size, 1, none⟩ = some (.int .i64 u.cli)) (fun i _ => l.length - (intOf i).toNat)
  case atStart => exact ⟨0, Nat.zero_le _, rfl, ⟨HPL.out, HTL.out⟩, by (repeat' (first | (with_reducible exact Below.refl _ _) | (with_reducible assumption) | (with_reducible refine Below.alloc ?_ ?_ _) | (with_reducible refine Below.setCell ?_ ?_ _) | (with_reducible refine Below.drew ?_) | (with_reducible refine below_drewN ?_ _) | (with_reducible refine below_via ?_ (by with_reducible assumption) ?_) | omega | (simp; done) | (simp; omega))), by simp, by simp [go_sem], by simp [go_sem]⟩
  case round =>
    obtain ⟨k, hk, rfl, hv, hbl, hsz, g0, g1⟩ := hrel
    have HV := Lib.hid hv
    have Hbl := Lib.hid hbl
    have hz := hbl.size
    clear hv hbl
    by_cases hlt : k < l.length
    · have kl : (k : Int) < (l.length : Int) := by omega
      have dl : decide ((k : Int) < (l.length : Int)) = true := by simpa using hlt
      have hd := lg_atPosV hlt
      obtain ⟨b, o, rfl, hb, hc⟩ := HR.out k (encPosV l[k]) (by simp [hlt])
      have e0 := (Hbl.out.cell (p := ⟨b, o + k * 3 + 0, none⟩) hb).trans (hc 0 _ rfl)
      have e1 := (Hbl.out.cell (p := ⟨b, o + k * 3 + 1, none⟩) hb).trans (hc 1 _ rfl)
      have e2 := (Hbl.out.cell (p := ⟨b, o + k * 3 + 2, none⟩) hb).trans (hc 2 _ rfl)
      simp only [Nat.add_zero] at e0
      clear hc
      have hbw : b < wr.heap.size := by omega
      cases hlo : lessU l[k].unit u
      · have CO := Lib.hid (fun W => hlo ▸ acctLess l[k].unit u W)
        have hpl := plK_ge (x := lgPosV l[k]) (t := (l.drop (k + 1)).map lgPosV) (u := u) hlo
        rw [← hd] at hpl
        rcases un_tPosV (x := l[k].unit) (u := u) with h | h
        · have HN := Lib.hid (show P = k ∧ T = true from ⟨by rw [HV.out.1, hpl.1]; rfl, by rw [HV.out.2, hpl.2]; exact decide_eq_true h⟩)
          rw [h] at e0 e1 CO
          clear hpl hd h hlo
          go_wp2_with (first | (go_at_call 93; (with_reducible refine (CO.out _).mono ?_); rintro e w1 ⟨rfl, hb1⟩; obtain ⟨fc1, fg1, hc1, hf1, hz1⟩ := bget hb1; (try simp at hz1)) | fail)
          go_quiet (fail)
          go_wp2_with fail
          go_ret2
          exact ⟨by rw [HN.out.1, HN.out.2]; rfl, by have hbl := Hbl.out; (repeat' (first | (with_reducible exact Below.refl _ _) | (with_reducible assumption) | (with_reducible refine Below.alloc ?_ ?_ _) | (with_reducible refine Below.setCell ?_ ?_ _) | (with_reducible refine Below.drew ?_) | (with_reducible refine below_drewN ?_ _) | (with_reducible refine below_via ?_ (by with_reducible assumption) ?_) | omega | (simp; done) | (simp; omega)))⟩
        · have HN := Lib.hid (show P = k ∧ T = false from ⟨by rw [HV.out.1, hpl.1]; rfl, by rw [HV.out.2, hpl.2]; exact decide_eq_false (un_dPosV h)⟩)
          clear hpl hd hlo
          rcases h with h | h
          all_goals
            go_wp2_with (first | (go_at_call 93; (with_reducible refine (CO.out _).mono ?_); rintro e w1 ⟨rfl, hb1⟩; obtain ⟨fc1, fg1, hc1, hf1, hz1⟩ := bget hb1; (try simp at hz1)) | fail)
            go_quiet (fail)
            go_wp2_with fail
            go_ret2
            exact ⟨by rw [HN.out.1, HN.out.2]; rfl, by have hbl := Hbl.out; (repeat' (first | (with_reducible exact Below.refl _ _) | (with_reducible assumption) | (with_reducible refine Below.alloc ?_ ?_ _) | (with_reducible refine Below.setCell ?_ ?_ _) | (with_reducible refine Below.drew ?_) | (with_reducible refine below_drewN ?_ _) | (with_reducible refine below_via ?_ (by with_reducible assumption) ?_) | omega | (simp; done) | (simp; omega)))⟩
      · have CO := Lib.hid (fun W => hlo ▸ acctLess l[k].unit u W)
        have hpl := plK_lt (x := lgPosV l[k]) (t := (l.drop (k + 1)).map lgPosV) (u := u) hlo
        rw [← hd] at hpl
        have HN := Lib.hid (show P = k + 1 + plK ((l.drop (k + 1)).map lgPosV) u ∧ T = thK ((l.drop (k + 1)).map lgPosV) u from ⟨by rw [HV.out.1, hpl.1]; omega, by rw [HV.out.2, hpl.2]⟩)
        clear hpl hd hlo
        go_wp2_with (first | (go_at_call 93; (with_reducible refine (CO.out _).mono ?_); rintro e w1 ⟨rfl, hb1⟩; obtain ⟨fc1, fg1, hc1, hf1, hz1⟩ := bget hb1; (try simp at hz1)) | fail)
        go_roundw
        case rel => exact ⟨k + 1, by omega, by go_num, HN.out, by have hbl := Hbl.out; (repeat' (first | (with_reducible exact Below.refl _ _) | (with_reducible assumption) | (with_reducible refine Below.alloc ?_ ?_ _) | (with_reducible refine Below.setCell ?_ ?_ _) | (with_reducible refine Below.drew ?_) | (with_reducible refine below_drewN ?_ _) | (with_reducible refine below_via ?_ (by with_reducible assumption) ?_) | omega | (simp; done) | (simp; omega))), by first | omega | (simp at hz1; omega), by simp [hc1, go_sem, g0, hsz], by simp [hc1, go_sem, g1, hsz]⟩
        case measure => simp [intOf]; omega
    · have dl : decide ((k : Int) < (l.length : Int)) = false := by simpa using hlt
      have HD := Lib.hid (drop_all (l := l) (k := k) (by omega))
      obtain rfl : k = l.length := by omega
      have HN := Lib.hid (show P = l.length ∧ T = false from ⟨by rw [HV.out.1, HD.out]; rfl, by rw [HV.out.2, HD.out]; rfl⟩)
      go_wp2_with fail
      go_ret2
      exact ⟨by rw [HN.out.1, HN.out.2]; rfl, by have hbl := Hbl.out; (repeat' (first | (with_reducible exact Below.refl _ _) | (with_reducible assumption) | (with_reducible refine Below.alloc ?_ ?_ _) | (with_reducible refine Below.setCell ?_ ?_ _) | (with_reducible refine Below.drew ?_) | (with_reducible refine below_drewN ?_ _) | (with_reducible refine below_via ?_ (by with_reducible assumption) ?_) | omega | (simp; done) | (simp; omega)))⟩
set_option maxRecDepth 100000 in
set_option maxHeartbeats 8000000 in
theorem delPosAt (l : List PosV) (i : Nat) (v : Value) (base : Nat) (w : World) (hi : i < l.length) (hl : l.length ≤ 1048576) (hbs : base ≤ w.heap.size) (hown : Own w base 140 3 v (l.map encPosV)) :
    Calls Try.prog 99 #[v, .int .i64 i, .int .i64 ((i : Int) + 1)] w fun e w' => ∃ v', e = .returned v' ∧ Own w' base 140 3 v' ((l.take i ++ l.drop (i + 1)).map encPosV) ∧ Below base w w' ∧ Away 140 w w' := by
  obtain ⟨A, c, hv0, hrs, hform⟩ := hown.rs
  have hcap := hrs.cap
  have hroom := hrs.room
  rw [List.length_map] at hv0 hcap
  unfold maxLen at hroom
  subst hv0
  obtain ⟨g, rfl, hg1, hg2⟩ := hown.at (by rw [List.length_map]; omega)
  have HO := Lib.hid hown
  have HHD := Lib.hid (show Own w base 140 3 (.slice (some ⟨g, 0, none⟩) i c) ((l.take i).map encPosV) from by have := hown.head (m := i) (by omega); rw [← List.map_take] at this; exact this)
  have HTL := Lib.hid (show Rd w (some ⟨g, (i + 1) * 3, none⟩) 3 ((l.drop (i + 1)).map encPosV) from by have := rd_dropR hrs.rd (i + 1); rw [← List.map_drop, Nat.zero_add] at this; exact this)
  have HLL := Lib.hid (show ((l.drop (i + 1)).map encPosV).length = l.length - (i + 1) from by simp)
  have HLM := Lib.hid (show (l.take i ++ l.drop (i + 1)).length = l.length - 1 from by simp; omega)
  obtain ⟨m, hm⟩ : ∃ m, l.length = i + 1 + m := ⟨l.length - (i + 1), by omega⟩
  have HLL2 := Lib.hid (show ((l.drop (i + 1)).map encPosV).length = m from by rw [HLL.out]; omega)
  have HM := Lib.hid hm
  rw [hm] at hcap
  rw [hm]
  have ci : ¬ c = i := by omega
  have ci' : ¬ i = c := by omega
  clear hown hrs hform
  have HZ := Lib.hid (fun (z : Value) (h : (Try.prog.info? 140).bind (·.zero) = some z) => zone_PosV z h)
  have HF := Lib.hid (fun (W : World) (h : Own W base 140 3 (.slice (some ⟨g, 0, none⟩) (i + m) c) ((l.take i).map encPosV ++ (l.drop (i + 1)).map encPosV)) => show ∃ junk, Own W base 140 3 (.slice (some ⟨g, 0, none⟩) (i + 1 + m) c) junk ∧ junk.take (i + m) = (l.take i ++ l.drop (i + 1)).map encPosV from by
    obtain ⟨junk, hj, hf⟩ := h.full
    have hrl : ((l.take i).map encPosV ++ (l.drop (i + 1)).map encPosV).length = i + m := by simp; omega
    refine ⟨_, hf.head (m := i + 1 + m) (by omega), ?_⟩
    rw [List.take_take, Nat.min_eq_left (by omega), List.take_append_of_le_length (by omega), List.take_of_length_le (by omega), List.map_append])
  have ic : (i : Int) ≤ (c : Int) := by omega
  have ii1 : (i : Int) ≤ (i : Int) + 1 := by omega
  have i1m : (i : Int) + 1 ≤ (i : Int) + 1 + (m : Int) := by omega
  have i1c : (i : Int) + 1 + (m : Int) ≤ (c : Int) := by omega
  clear hm hi hl HLL HLM
  have wk : IntKind.i64.wrap ((i : Int) + 1) = (i : Int) + 1 := IntWalk.i64_in _ (by omega)
  have tk : ((i : Int) + 1).toNat = i + 1 := by omega
  have nk : (0 : Int) ≤ (i : Int) + 1 := by omega
  have ne1 : ((i : Int) == (i : Int) + 1) = false := by rw [beq_eq_false_iff_ne]; omega
  by_cases hc1 : c = i + 1
  · obtain rfl : m = 0 := by omega
    have hnil : (l.drop (i + 1)).map encPosV = [] := List.eq_nil_of_length_eq_zero HLL2.out
    have HNL := Lib.hid hnil
    clear hnil
    have ci1 : c ≤ i + 1 ∧ i + 1 ≤ c := by omega
    subst hc1
    go_enter Try.func99, Try.ntmps99
    go_wp2_with fail
    go_region_law (refine step_appIn rfl (.tmp 22) (.tmp 25) 72 rfl elPosV (base := base) (g := g) (n := i) (c := i + 1) (m := 0) (sc := 0) (ad := ⟨g, 0, none⟩) (rows := (l.take i).map encPosV) (news := (l.drop (i + 1)).map encPosV) ?_ ?_ HHD.out.drew HLL2.out (by omega) (by rw [HNL.out]; exact fun j r h => by simp at h) (rowsPosV _) ?_; go_simp; go_simp; intro w5 hown5 ho5; have HO5 := Lib.hid hown5; have Ho5 := Lib.hid ho5.undrew; clear hown5 ho5)
    clear wk tk nk
    obtain ⟨junk, hjo, hjt⟩ := HF.out _ HO5.out
    have HJO := Lib.hid hjo
    have HJT := Lib.hid hjt
    clear hjo hjt
    go_wp2_with (refine wpList_clearR rfl _ _ rfl elPosV HZ.out (base := base) (g := g) (n := i + 1 + 0) (c := i + 1) (i := i + 0) rfl (fun _ => rfl) (by omega) (by omega) HJO.out ?_; intro w6 hown6 ho6; have HO6 := Lib.hid hown6; have Ho6 := Lib.hid ho6; clear hown6 ho6)
    go_ret
    exact ⟨_, rfl, by rw [← HJT.out]; exact HO6.out, below_only (below_only (Below.refl _ _) Ho5.out hbs hg1) Ho6.out (by have := Ho5.out.size; omega) hg1, (Away.only Ho5.out (HO.out.typed g rfl)).trans (Away.only Ho6.out (HJO.out.typed g rfl))⟩
  · have hc1' : ¬ i + 1 = c := fun h => hc1 h.symm
    go_enter Try.func99, Try.ntmps99
    go_wp2_with fail
    go_region_law (refine step_appIn rfl (.tmp 22) (.tmp 25) 72 rfl elPosV (base := base) (g := g) (n := i) (c := c) (m := m) (sc := c - (i + 1)) (ad := ⟨g, (i + 1) * 3, none⟩) (rows := (l.take i).map encPosV) (news := (l.drop (i + 1)).map encPosV) ?_ ?_ HHD.out.drew HLL2.out (by omega) HTL.out.drew (rowsPosV _) ?_; go_simp; go_simp; intro w5 hown5 ho5; have HO5 := Lib.hid hown5; have Ho5 := Lib.hid ho5.undrew; clear hown5 ho5)
    clear wk tk nk
    obtain ⟨junk, hjo, hjt⟩ := HF.out _ HO5.out
    have HJO := Lib.hid hjo
    have HJT := Lib.hid hjt
    clear hjo hjt
    have im1 : (i : Int) + (m : Int) ≤ (c : Int) := by omega
    have im2 : (i : Int) + (m : Int) ≤ (i : Int) + 1 + (m : Int) := by omega
    have cim : ¬ c = i + m := by omega
    have cim' : ¬ i + m = c := by omega
    go_wp2_with (refine wpList_clearR rfl _ _ rfl elPosV HZ.out (base := base) (g := g) (n := i + 1 + m) (c := c) (i := i + m) rfl (fun _ => rfl) rfl (by omega) HJO.out ?_; intro w6 hown6 ho6; have HO6 := Lib.hid hown6; have Ho6 := Lib.hid ho6; clear hown6 ho6)
    go_ret
    exact ⟨_, rfl, by rw [← HJT.out]; exact HO6.out, below_only (below_only (Below.refl _ _) Ho5.out hbs hg1) Ho6.out (by have := Ho5.out.size; omega) hg1, (Away.only Ho5.out (HO.out.typed g rfl)).trans (Away.only Ho6.out (HJO.out.typed g rfl))⟩
end Go.Proofs.Ytiidplinmempcaa
