/- Accounts: contracts of acct.Has, slices.Index, BinarySearch of whole numbers, Clone, Insert. -/
import Derived.Test.YtemhhojenocddaaAcct1
import Derived.Test.YtemhhojenocddaaAway
namespace Go.Proofs.Ytemhhojenocddaa
open Go.RowKit
theorem un_test {x u : Un} : x = u ∨ ((x.acc == u.acc) = false) ∨ ((x.cli == u.cli) = false) := by
  by_cases h : x = u
  · exact .inl h
  · exact .inr (neqUn h)
set_option maxRecDepth 100000 in
set_option maxHeartbeats 4000000 in
theorem unIndex (l : List Un) (u : Un) (A : Option Addr) (c : Nat) (w : World) (hl : l.length ≤ 1099511627776) (hr : Rd w A 2 (l.map encUn)) :
    Calls Try.prog 93 #[.slice A l.length c, .agg #[.int .i64 u.acc, .int .i64 u.cli]] w fun e w' => e = .returned (.int .i64 (idxOf (fun x : Un => decide (u = x)) l)) ∧ Below w.heap.size w w' := by
  have HR := Lib.hid hr
  clear hr
  go_enter Try.func93, Try.ntmps93
  go_wp2_with fail
  go_loopw [8] (fun i wr => ∃ k : Nat, k ≤ l.length ∧ i = .int .i64 k ∧ Below w.heap.size w wr ∧ w.heap.size < wr.heap.size ∧ (wr.cell? ⟨w.heap.size, 0, none⟩ = some (.int .i64 u.acc) ∧ wr.cell? ⟨w.heap.size, 1, none⟩ = some (.int .i64 u.cli)) ∧ ∀ j (_ : j < l.length), j < k → (fun x : Un => decide (u = x)) l[j] = false) (fun i _ => l.length - (intOf i).toNat)
  case atStart => exact ⟨0, Nat.zero_le _, rfl, by (repeat' (first | (with_reducible exact Below.refl _ _) | (with_reducible assumption) | (with_reducible refine Below.alloc ?_ ?_ _) | (with_reducible refine Below.setCell ?_ ?_ _) | (with_reducible refine Below.drew ?_) | (with_reducible refine below_drewN ?_ _) | (with_reducible refine below_via ?_ (by with_reducible assumption) ?_) | omega | (simp; done) | (simp; omega))), by simp, by simp [go_sem], fun j _ h => absurd h (by omega)⟩
  case round =>
    obtain ⟨k, hk, rfl, hbl, hsz, ⟨g0, g1⟩, hno⟩ := hrel
    have Hbl := Lib.hid hbl
    have Hno := Lib.hid hno
    have hz := hbl.size
    clear hbl hno
    by_cases hlt : k < l.length
    · have kl : (k : Int) < (l.length : Int) := by omega
      have dl : decide ((k : Int) < (l.length : Int)) = true := by simpa using hlt
      obtain ⟨b, o, rfl, hb, hc⟩ := HR.out k (encUn l[k]) (by simp [hlt])
      have c0 := (Hbl.out.cell (p := ⟨b, o + k * 2 + 0, none⟩) hb).trans (hc 0 _ rfl)
      have c1 := (Hbl.out.cell (p := ⟨b, o + k * 2 + 1, none⟩) hb).trans (hc 1 _ rfl)
      simp only [Nat.add_zero] at c0
      clear hc
      rcases un_test (x := u) (u := l[k]) with he | he | he
      · have hi := idx_hit (p := fun x : Un => decide (u = x)) hlt (by simpa using he) Hno.out
        have Hi := Lib.hid hi
        rw [← he] at c0 c1
        clear hi he
        go_wp2_with fail
        go_quiet (fail)
        go_wp2_with fail
        go_ret
        exact ⟨by rw [Hi.out]; rfl, by have hbl := Hbl.out; (repeat' (first | (with_reducible exact Below.refl _ _) | (with_reducible assumption) | (with_reducible refine Below.alloc ?_ ?_ _) | (with_reducible refine Below.setCell ?_ ?_ _) | (with_reducible refine Below.drew ?_) | (with_reducible refine below_drewN ?_ _) | (with_reducible refine below_via ?_ (by with_reducible assumption) ?_) | omega | (simp; done) | (simp; omega)))⟩
      all_goals
        have Hm := Lib.hid (decide_eq_false (show ¬ u = l[k] from by intro e; rw [e] at he; simp at he))
        go_wp2_with fail
        go_quiet (fail)
        go_wp2_with fail
        go_roundw
        case rel => exact ⟨k + 1, by omega, by go_num, by have hbl := Hbl.out; (repeat' (first | (with_reducible exact Below.refl _ _) | (with_reducible assumption) | (with_reducible refine Below.alloc ?_ ?_ _) | (with_reducible refine Below.setCell ?_ ?_ _) | (with_reducible refine Below.drew ?_) | (with_reducible refine below_drewN ?_ _) | (with_reducible refine below_via ?_ (by with_reducible assumption) ?_) | omega | (simp; done) | (simp; omega))), by simpa using hsz, by simp [go_sem, g0, g1], fun j hj h => by
          rcases Nat.lt_or_ge j k with h1 | h1
          · exact Hno.out j hj h1
          · obtain rfl : j = k := by omega
            exact Hm.out⟩
        case measure => simp [intOf]; omega
    · have dl : decide ((k : Int) < (l.length : Int)) = false := by simpa using hlt
      have hi := idx_miss (p := fun x : Un => decide (u = x)) (l := l) (fun j hj => Hno.out j hj (by omega))
      have Hi := Lib.hid hi
      clear hi
      go_wp2_with fail
      go_ret
      exact ⟨by rw [Hi.out]; rfl, Hbl.out⟩
theorem idx_un (l : List Un) (u : Un) : decide (0 ≤ idxOf (fun x : Un => decide (u = x)) l) = decide (u ∈ l) := by
  unfold idxOf
  cases h : l.findIdx? (fun x : Un => decide (u = x)) with
  | none =>
    rw [List.findIdx?_eq_none_iff] at h
    have : ¬ u ∈ l := fun hu => by have := h u hu; simp at this
    simp [this]
  | some k =>
    rw [List.findIdx?_eq_some_iff_getElem] at h
    obtain ⟨hk, h1, _⟩ := h
    have : u ∈ l := by have e : u = l[k] := by simpa using h1
                       rw [e]; exact List.getElem_mem hk
    simp [this]
set_option maxRecDepth 100000 in
set_option maxHeartbeats 1000000 in
theorem unContains (l : List Un) (u : Un) (A : Option Addr) (c : Nat) (w : World) (hl : l.length ≤ 1099511627776) (hr : Rd w A 2 (l.map encUn)) :
    Calls Try.prog 59 #[.slice A l.length c, .agg #[.int .i64 u.acc, .int .i64 u.cli]] w fun e w' => e = .returned (.bool (decide (u ∈ l))) ∧ Below w.heap.size w w' := by
  have HR := Lib.hid hr
  have HI := Lib.hid (idx_un l u)
  clear hr
  go_enter Try.func59, Try.ntmps59
  go_wp2_with (go_at_call 93; (with_reducible refine (unIndex l u A c _ hl (HR.out.keep (by (repeat' (first | (with_reducible exact Below.refl _ _) | (with_reducible assumption) | (with_reducible refine Below.alloc ?_ ?_ _) | (with_reducible refine Below.setCell ?_ ?_ _) | (with_reducible refine Below.drew ?_) | (with_reducible refine below_drewN ?_ _) | (with_reducible refine below_via ?_ (by with_reducible assumption) ?_) | omega | (simp; done) | (simp; omega)))))).mono ?_); rintro e w1 ⟨rfl, hb1⟩; obtain ⟨fc1, fg1, hc1, hf1, hz1⟩ := bget hb1; try simp at hz1)
  go_ret
  exact ⟨by rw [← HI.out]; rfl, by (repeat' (first | (with_reducible exact Below.refl _ _) | (with_reducible assumption) | (with_reducible refine Below.alloc ?_ ?_ _) | (with_reducible refine Below.setCell ?_ ?_ _) | (with_reducible refine Below.drew ?_) | (with_reducible refine below_drewN ?_ _) | (with_reducible refine below_via ?_ (by with_reducible assumption) ?_) | omega | (simp; done) | (simp; omega)))⟩
theorem units_len (x : Acct) : (unitsA x).length ≤ x.clients.length + 1 := by
  unfold unitsA; split <;> simp
set_option maxRecDepth 100000 in
set_option maxHeartbeats 4000000 in
theorem acctHas (x : Acct) (u : Un) (A : Option Addr) (c : Nat) (w : World) (hl : x.clients.length ≤ 1000000) (hr : Rd w A 1 (x.clients.map encI)) :
    Calls Try.prog 16 #[.agg #[.int .i64 x.id, .int .i64 x.member, .int .i64 x.kind, .slice A x.clients.length c], .agg #[.int .i64 u.acc, .int .i64 u.cli]] w fun e w' => e = .returned (.bool (hasA x u)) ∧ Below w.heap.size w w' := by
  have HR := Lib.hid hr
  have hul := units_len x
  have C1 := Lib.hid (fun W h => acctUnits x A c W (by omega) h)
  have C2 := Lib.hid (fun A c W h => unContains (unitsA x) u A c W (by omega) h)
  have HU : hasA x u = decide (u ∈ unitsA x) := rfl
  rw [HU]
  clear hr HU
  generalize unitsA x = l at *
  go_enter Try.func16, Try.ntmps16
  go_wp2_with fail
  go_region_held3 (fun w' => (w'.cell? ⟨w.heap.size, 0, none⟩ = some (.int .i64 x.id) ∧ w'.cell? ⟨w.heap.size, 1, none⟩ = some (.int .i64 x.member) ∧ w'.cell? ⟨w.heap.size, 2, none⟩ = some (.int .i64 x.kind) ∧ w'.cell? ⟨w.heap.size, 3, none⟩ = some (.slice A x.clients.length c)) ∧ w'.cell? ⟨w.heap.size + 1, 0, none⟩ = some (.int .i64 u.acc) ∧ w'.cell? ⟨w.heap.size + 1, 1, none⟩ = some (.int .i64 u.cli)) (first | (simp [go_sem]; done) | (repeat' (first | (with_reducible assumption) | (with_reducible refine And.intro ?_ ?_) | (with_reducible refine cell_drew ?_) | (with_reducible refine cell_via (by with_reducible assumption) ?_ ?_) | (simp [*]; done) | (simp [go_sem]; done) | (with_reducible refine cell_alloc ?_ ?_) | (with_reducible refine cell_set_far ?_ ?_) | omega | (simp; omega)))) (first | (go_at_call 14; (with_reducible refine (C1.out _ (HR.out.keep (by (repeat' (first | (with_reducible exact Below.refl _ _) | (with_reducible assumption) | (with_reducible refine Below.alloc ?_ ?_ _) | (with_reducible refine Below.setCell ?_ ?_ _) | (with_reducible refine Below.drew ?_) | (with_reducible refine below_drewN ?_ _) | (with_reducible refine below_via ?_ (by with_reducible assumption) ?_) | omega | (simp; done) | (simp; omega)))))).mono ?_); rintro e w1 ⟨_, rfl, ⟨A1, c1, rfl, hrs1⟩, hb1⟩; have HS1 := Lib.hid hrs1.rd; clear hrs1; obtain ⟨fc1, fg1, hc1, hf1, hz1⟩ := bget hb1; (try simp at hz1)) | (go_at_call 59; (with_reducible refine (C2.out _ _ _ (HS1.out.keep (by (repeat' (first | (with_reducible exact Below.refl _ _) | (with_reducible assumption) | (with_reducible refine Below.alloc ?_ ?_ _) | (with_reducible refine Below.setCell ?_ ?_ _) | (with_reducible refine Below.drew ?_) | (with_reducible refine below_drewN ?_ _) | (with_reducible refine below_via ?_ (by with_reducible assumption) ?_) | omega | (simp; done) | (simp; omega)))))).mono ?_); rintro e w2 ⟨rfl, hb2⟩; obtain ⟨fc2, fg2, hc2, hf2, hz2⟩ := bget hb2; (try simp at hz2)) | fail)
  all_goals
    go_wp2_with fail
    go_ret
    exact ⟨rfl, by (repeat' (first | (with_reducible exact Below.refl _ _) | (with_reducible assumption) | (with_reducible refine Below.alloc ?_ ?_ _) | (with_reducible refine Below.setCell ?_ ?_ _) | (with_reducible refine Below.drew ?_) | (with_reducible refine below_drewN ?_ _) | (with_reducible refine below_via ?_ (by with_reducible assumption) ?_) | omega | (simp; done) | (simp; omega)))⟩
set_option maxHeartbeats 400000 in
theorem lessInt (a b : Int) (w : World) :
    Calls Try.prog 94 #[.int .i64 a, .int .i64 b] w fun e w' => e = .returned (.bool (decide (a < b))) ∧ w = w' := by
  go_enter Try.func94, Try.ntmps94
  go_wp2
  all_goals (go_ret; exact ⟨by first | rfl | (simp; done), rfl⟩)
set_option maxHeartbeats 400000 in
theorem nanInt (a : Int) (w : World) :
    Calls Try.prog 95 #[.int .i64 a] w fun e w' => e = .returned (.bool false) ∧ w = w' := by
  go_enter Try.func95, Try.ntmps95
  go_wp2
  all_goals (go_ret; exact ⟨by first | rfl | (simp; done), rfl⟩)
set_option maxRecDepth 100000 in
set_option maxHeartbeats 4000000 in
theorem intSearch (l : List Int) (t : Int) (A : Option Addr) (c : Nat) (w : World) (hl : l.length ≤ 1048576) (hr : Rd w A 1 (l.map encI)) (hs : ∀ i j (_ : i < j) (hj : j < l.length), (fun x : Int => decide (x < t)) l[j] = true → (fun x : Int => decide (x < t)) l[i] = true) :
    Calls Try.prog 60 #[.slice A l.length c, .int .i64 t] w fun e w' => e = .returned (.tuple #[.int .i64 ((l.takeWhile (fun x : Int => decide (x < t))).length : Nat), .bool (atB (fun x : Int => x == t) l (l.takeWhile (fun x : Int => decide (x < t))).length)]) ∧ Below w.heap.size w w' := by
  have HR := Lib.hid hr
  have HSO := Lib.hid hs
  clear hr hs
  go_enter Try.func60, Try.ntmps60
  go_wp2_with fail
  go_loopw [7, 8] (fun i j wr => ∃ (a b : Nat), a ≤ b ∧ b ≤ l.length ∧ i = .int .i64 a ∧ j = .int .i64 b ∧ (∀ q (_ : q < l.length), q < a → (fun x : Int => decide (x < t)) l[q] = true) ∧ (∀ q (_ : q < l.length), b ≤ q → (fun x : Int => decide (x < t)) l[q] = false) ∧ wr = w) (fun i j _ => (intOf j).toNat - (intOf i).toNat)
  case atStart => exact ⟨0, l.length, Nat.zero_le _, Nat.le_refl _, rfl, rfl, fun q _ h => absurd h (by omega), fun q h1 h2 => absurd h1 (by omega), rfl⟩
  case round =>
    obtain ⟨p, q, hpq, hql, rfl, rfl, hlo, hhi, rfl⟩ := hrel
    have Hlo := Lib.hid hlo
    have Hhi := Lib.hid hhi
    clear hlo hhi
    by_cases hlt : p < q
    · have d1 : decide ((p : Int) < (q : Int)) = true := by simpa using hlt
      obtain ⟨h, hh⟩ : ∃ h, h = (p + q) / 2 := ⟨_, rfl⟩
      have hhp : p ≤ h ∧ h < q := by omega
      have hhl : h < l.length := by omega
      have hhi : ((p : Int) + (q : Int)) / 2 < (l.length : Int) := by omega
      have w9 : IntKind.i64.wrap ((p : Int) + (q : Int)) = (p : Int) + (q : Int) := by rw [IntKind.wrap_i64]; omega
      have w8 : IntKind.u64.wrap ((p : Int) + (q : Int)) = (p : Int) + (q : Int) := by rw [IntKind.wrap_u64]; omega
      obtain ⟨b, o, rfl, hb, hc⟩ := HR.out h (encI l[h]) (by simp [hhl])
      have e0 := hc 0 _ rfl
      simp only [Nat.add_zero, Nat.mul_one] at e0
      clear hc
      subst hh
      cases hm : decide (l[(p + q) / 2] < t)
      · have Hm := Lib.hid hm
        go_wp2_with (go_at_call 94; (with_reducible refine (lessInt _ _ _).mono ?_); rw [Hm.out]; rintro e w3 ⟨rfl, rfl⟩)
        go_roundw
        case rel =>
          refine ⟨p, (p + q) / 2, by omega, by omega, rfl, by go_num, Hlo.out, ?_, by trivial⟩
          intro q' hq' h1
          cases h2 : decide (l[q'] < t)
          · rfl
          · exfalso
            by_cases h3 : (p + q) / 2 < q'
            · have h4 := HSO.out ((p + q) / 2) q' h3 hq' h2
              have h5 : decide (l[(p + q) / 2] < t) = true := h4
              rw [Hm.out] at h5; cases h5
            · have h6 : q' = (p + q) / 2 := by omega
              subst h6
              rw [Hm.out] at h2; cases h2
        case measure => simp [intOf]; omega
      · have Hm := Lib.hid hm
        have w5 : IntKind.i64.wrap (((p : Int) + (q : Int)) / 2 + 1) = ((p : Int) + (q : Int)) / 2 + 1 := by rw [IntKind.wrap_i64]; omega
        go_wp2_with (go_at_call 94; (with_reducible refine (lessInt _ _ _).mono ?_); rw [Hm.out]; rintro e w3 ⟨rfl, rfl⟩)
        go_roundw
        case rel =>
          refine ⟨(p + q) / 2 + 1, q, by omega, by omega, by go_num, rfl, ?_, Hhi.out, by trivial⟩
          intro q' hq' h1
          by_cases h3 : q' < (p + q) / 2
          · exact HSO.out q' ((p + q) / 2) h3 hhl Hm.out
          · have h6 : q' = (p + q) / 2 := by omega
            subst h6
            exact Hm.out
        case measure => simp [intOf]; omega
    · obtain rfl : p = q := by omega
      have d1 : decide ((p : Int) < (p : Int)) = false := by simp
      have hw := while_cut (p := fun x : Int => decide (x < t)) (fun j hj h => Hlo.out j hj h) hql (fun h => Hhi.out p h (Nat.le_refl _))
      have hlen : (l.takeWhile (fun x : Int => decide (x < t))).length = p := by rw [hw.1, List.length_take]; omega
      have HL := Lib.hid hlen
      clear hw hlen
      by_cases hpl : p < l.length
      · have d2 : decide ((p : Int) < (l.length : Int)) = true := by simpa using hpl
        have hpi : (p : Int) < (l.length : Int) := by omega
        obtain ⟨b, o, rfl, hb, hc⟩ := HR.out p (encI l[p]) (by simp [hpl])
        have e0 := hc 0 _ rfl
        simp only [Nat.add_zero, Nat.mul_one] at e0
        clear hc
        have HG := Lib.hid (atB_some (p := fun x : Int => x == t) hpl)
        cases hm : (l[p] == t)
        all_goals
          have Hm := Lib.hid hm
          go_wp2_with (first | (go_at_call 95; (with_reducible refine (nanInt _ _).mono ?_); rintro e w3 ⟨rfl, rfl⟩) | fail)
          go_ret2
          exact ⟨by rw [HL.out, HG.out, Hm.out]; rfl, Below.refl _ _⟩
      · have d2 : decide ((p : Int) < (l.length : Int)) = false := by simpa using hpl
        have HG := Lib.hid (atB_none (p := fun x : Int => x == t) (Nat.le_of_not_lt hpl))
        go_wp2_with fail
        go_ret2
        exact ⟨by rw [HL.out, HG.out]; rfl, Below.refl _ _⟩
set_option maxRecDepth 100000 in
set_option maxHeartbeats 1000000 in
theorem natsClone (l : List Int) (A : Option Addr) (c : Nat) (w : World) (hl : l.length ≤ 1099511627776) (hr : Rs w 1 (l.map encI) A c) :
    Calls Try.prog 62 #[.slice A l.length c] w fun e w' => ∃ v, e = .returned v ∧ Own w' w.heap.size 3 1 v (l.map encI) ∧ Below w.heap.size w w' := by
  have Hr := Lib.hid hr
  have hnil := fun W : World => Lib.run_eql_slice_nil (P := Try.prog) W 22 3 A l.length c 0 0 Try.underlying22
  rcases A with _ | ad
  · have hl0 : l = [] := List.map_eq_nil_iff.1 hr.nilrows
    have hc0 : c = 0 := hr.nil rfl
    subst hl0 hc0
    simp only [List.length_nil] at hnil ⊢
    clear hr
    go_enter Try.func62, Try.ntmps62
    go_wp2_with fail
    go_ret
    exact ⟨_, rfl, Own.nil _ _ _ _, by (repeat' (first | (with_reducible exact Below.refl _ _) | (with_reducible assumption) | (with_reducible refine Below.alloc ?_ ?_ _) | (with_reducible refine Below.setCell ?_ ?_ _) | (with_reducible refine Below.drew ?_) | (with_reducible refine below_drewN ?_ _) | (with_reducible refine below_via ?_ (by with_reducible assumption) ?_) | omega | (simp; done) | (simp; omega)))⟩
  · clear hr
    go_enter Try.func62, Try.ntmps62
    go_wp2_with (at_builtin; refine wpList_app rfl _ _ _ rfl elN w.heap.size _ [] rfl (Own.made w (Nat.le_refl _)) (some ad) l.length c rfl (l.map encI) (by simp) (fun h => by cases h) (Hr.out.keep ((Below.refl _ _).alloc (Nat.le_refl _) _)).rd (rowsJ l) (by unfold maxLen; simp; omega) (by simp; omega) (by simp) ?_; intro v' w3 hown3 hb3)
    go_ret
    exact ⟨v', rfl, by simpa using hown3, ((Below.refl _ _).alloc (Nat.le_refl _) _).trans hb3⟩
end Go.Proofs.Ytemhhojenocddaa
