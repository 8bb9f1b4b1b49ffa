/- Layer 15's laws: few; plain facts for tables. -/
import Derived.Test.YtemhhojenocddaaAcctL1
import Derived.Test.YtemhhojenocddaaAcct6
namespace Go.Proofs.Ytemhhojenocddaa
open Go.RowKit
set_option maxRecDepth 100000 in
set_option maxHeartbeats 8000000 in
theorem law15few (l : List AcctV) (A : Option Addr) (c : Nat) (w : World) (hl : l.length ≤ maxLen) (hr : Rd w A 4 (l.map encAcctV)) (hg : ∀ x ∈ l, GoodA w x) :
    Calls Try.prog 23 #[.slice A l.length c] w fun e w' => ∃ v, e = .returned v ∧ Own w' w.heap.size 24 4 v (((l.take 20).map shortV).map encAcctV) ∧ Below w.heap.size w w' := by
  have HR := Lib.hid hr
  have HG := Lib.hid hg
  have hml : (l.length : Int) ≤ 9223372036854775807 := by unfold maxLen at hl; omega
  clear hr hg hl
  go_enter Try.func23, Try.ntmps23
  go_wp2_with fail
  go_loopw [3, 4] (fun v i wr => ∃ q : Nat, q ≤ l.length ∧ q ≤ 20 ∧ i = .int .i64 q ∧ Own wr w.heap.size 24 4 v (((l.take q).map shortV).map encAcctV) ∧ Below w.heap.size w wr) (fun _ i _ => l.length - (intOf i).toNat)
  case atStart => exact ⟨0, Nat.zero_le _, Nat.zero_le _, rfl, Own.nil _ _ _ _, by (repeat' (first | (with_reducible exact Below.refl _ _) | (with_reducible assumption) | (with_reducible refine Below.alloc ?_ ?_ _) | (with_reducible refine Below.setCell ?_ ?_ _) | (with_reducible refine Below.drew ?_) | (with_reducible refine below_drewN ?_ _) | (with_reducible refine below_via ?_ (by with_reducible assumption) ?_) | omega | (simp; done) | (simp; omega)))⟩
  case round =>
    obtain ⟨q, hq, hq20, rfl, hown, hbl⟩ := hrel
    have Hown := Lib.hid hown
    have Hbl := Lib.hid hbl
    have hz := hbl.size
    clear hown hbl
    by_cases hgo : q < l.length ∧ q < 20
    · obtain ⟨hlt, h20⟩ := hgo
      have hqi : (q : Int) < (l.length : Int) := by omega
      have dl : decide ((q : Int) < (l.length : Int)) = true := by simpa using hlt
      have d20 : decide ((q : Int) < 20) = true := by simp; omega
      obtain ⟨b, o, rfl, hb, hc⟩ := HR.out q (encAcctV l[q]) (by simp [hlt])
      have e0 := (Hbl.out.cell (p := ⟨b, o + q * 4 + 0, none⟩) hb).trans (hc 0 _ rfl)
      have e1 := (Hbl.out.cell (p := ⟨b, o + q * 4 + 1, none⟩) hb).trans (hc 1 _ rfl)
      have e2 := (Hbl.out.cell (p := ⟨b, o + q * 4 + 2, none⟩) hb).trans (hc 2 _ rfl)
      have e3 := (Hbl.out.cell (p := ⟨b, o + q * 4 + 3, none⟩) hb).trans (hc 3 _ rfl)
      simp only [Nat.add_zero] at e0
      clear hc
      have HX := Lib.hid (fun W (h : Below w.heap.size w W) => law15short l[q] W ((HG.out l[q] (List.getElem_mem hlt)).keep h))
      have HS := Lib.hid (map_snoc hlt shortV)
      have hlen : ((l.take q).map shortV).length ≤ 20 := by simp; omega
      obtain ⟨y, hy⟩ : ∃ y, y = shortV l[q] := ⟨_, rfl⟩
      rw [← hy] at HX HS
      clear hy
      go_wp2_with (first | (go_at_call 10; (with_reducible refine (HX.out _ (by have hbl := Hbl.out; (repeat' (first | (with_reducible exact Below.refl _ _) | (with_reducible assumption) | (with_reducible refine Below.alloc ?_ ?_ _) | (with_reducible refine Below.setCell ?_ ?_ _) | (with_reducible refine Below.drew ?_) | (with_reducible refine below_drewN ?_ _) | (with_reducible refine below_via ?_ (by with_reducible assumption) ?_) | omega | (simp; done) | (simp; omega))))).mono ?_); rintro e w1 ⟨rfl, hb1⟩; have hz1 := hb1.size; have Hb1 := Lib.hid hb1; clear hb1) | (at_builtin; refine wpList_app rfl _ _ _ rfl elAcctV w.heap.size _ _ rfl ((Hown.out.keep Hb1.out).alloc _) (some ⟨_, 0, none⟩) 1 1 rfl [encAcctV y] rfl (fun h => by cases h) (rd_oneN (by simp)) (rowsAcctV [y]) (by unfold maxLen; simp; omega) (by simp; omega) (by first | omega | (simp; done) | (simp; omega)) ?_; intro v3 w3 hown3 hb3) | fail)
      go_roundw
      case rel => exact ⟨q + 1, by omega, by omega, by go_num, by rw [HS.out, List.map_append]; exact hown3, by have hbl := Hbl.out; have hb1 := Hb1.out; (repeat' (first | (with_reducible exact Below.refl _ _) | (with_reducible assumption) | (with_reducible refine Below.alloc ?_ ?_ _) | (with_reducible refine Below.setCell ?_ ?_ _) | (with_reducible refine Below.drew ?_) | (with_reducible refine below_drewN ?_ _) | (with_reducible refine below_via ?_ (by with_reducible assumption) ?_) | omega | (simp; done) | (simp; omega)))⟩
      case measure => simp [intOf]; omega
    · have HT := Lib.hid (show l.take q = l.take 20 from by
        rcases Nat.lt_or_ge q 20 with h | h
        · rw [List.take_of_length_le (by omega), List.take_of_length_le (by omega)]
        · rw [show q = 20 by omega])
      by_cases hlt : q < l.length
      · have dl : decide ((q : Int) < (l.length : Int)) = true := by simpa using hlt
        have d20 : decide ((q : Int) < 20) = false := by simp; omega
        go_wp2_with fail
        go_ret
        exact ⟨_, rfl, by rw [← HT.out]; exact Hown.out, Hbl.out⟩
      · have dl : decide ((q : Int) < (l.length : Int)) = false := by simpa using hlt
        go_wp2_with fail
        go_ret
        exact ⟨_, rfl, by rw [← HT.out]; exact Hown.out, Hbl.out⟩
theorem put_mem {ob : Bool} {t : List AcctV} {m x : AcctV} (h : x ∈ putAcctVL ob t m) : x ∈ t ∨ x = m := by
  unfold putAcctVL at h
  split at h
  · unfold insAcctV at h
    rcases List.mem_append.1 h with h | h
    · exact .inl ((List.takeWhile_sublist _).subset h)
    · rcases List.mem_cons.1 h with h | h
      · exact .inr h
      · exact .inl ((List.dropWhile_sublist _).subset h)
  · cases h
theorem tab_mem (okf : AcctV → Bool) (l : List AcctV) : ∀ k, ∀ x ∈ tabAcctVN okf l k, x ∈ l
  | 0, x, h => by simp [tabAcctVN] at h
  | k + 1, x, h => by
    rcases Nat.lt_or_ge k l.length with hk | hk
    · rw [tabAcctVN_succ hk] at h
      unfold stepAcctV at h
      split at h
      · rcases put_mem h with h | h
        · exact tab_mem okf l k x h
        · subst h; exact List.getElem_mem hk
      · exact tab_mem okf l k x h
    · have e : tabAcctVN okf l (k + 1) = tabAcctVN okf l k := by unfold tabAcctVN; rw [List.take_of_length_le (by omega), List.take_of_length_le hk]
      rw [e] at h
      exact tab_mem okf l k x h
theorem set_mem {ob : Bool} {l : List AcctV} {m x : AcctV} (h : x ∈ setAL ob l m) : x ∈ l ∨ x = m := by
  unfold setAL at h
  split at h
  · obtain ⟨y, hy, rfl⟩ := List.mem_map.1 h
    by_cases e : (y.id == m.id) = true
    · rw [if_pos e]; exact .inr rfl
    · rw [if_neg e]; exact .inl hy
  · cases h
theorem of_mem {l : List AcctV} {mem : Int} {x : AcctV} (h : x ∈ ofA l mem) : x ∈ l := (List.mem_filter.1 h).1
theorem val_bound {ys l : List AcctV} (h : ys.map lgA = l.map lgA) (hb : ∀ x ∈ l, x.clients.val.length ≤ 20) : ∀ y ∈ ys, y.clients.val.length ≤ 20 := by
  intro y hy
  have h1 : lgA y ∈ l.map lgA := by rw [← h]; exact List.mem_map.2 ⟨y, hy, rfl⟩
  obtain ⟨x, hx, he⟩ := List.mem_map.1 h1
  have := (lgA_eq he).2.2.2
  rw [← this]
  exact hb x hx
theorem ref15SameOneZ (z : AcctV) (B : Option Addr) (d : Nat) (w : World) (hl : z.clients.val.length ≤ 1048576) (hr : Rs w 1 (z.clients.val.map encI) B d) (hg : GoodA w z) :
    Calls Try.prog 20 #[.agg #[.int .i64 z.id, .int .i64 z.member, .int .i64 z.kind, .slice B z.clients.val.length d], .agg #[.int .i64 z.id, .int .i64 z.member, .int .i64 z.kind, .slice z.clients.A z.clients.val.length z.clients.c]] w fun e w' => e = .returned (.bool true) ∧ Below w.heap.size w w' :=
  ref15SameOne ⟨z.id, z.member, z.kind, ⟨B, d, z.clients.val⟩⟩ z.clients.A z.clients.c w hl hr hg
theorem tab_rd {w : World} {L : List Acct} {code : Int} {e : Ending} {w' : World} (h : AcctPost w L code e w') : ∃ (ys : List AcctV) (A : Option Addr) (c : Nat), e = .returned (.tuple #[.slice A ys.length c, .int .i64 code]) ∧ ys.map lgA = L ∧ Rs w' 4 (ys.map encAcctV) A c ∧ (∀ y ∈ ys, GoodA w' y) ∧ Below w.heap.size w w' := by
  obtain ⟨v, ys, rfl, hl, hown, hg, hb⟩ := h
  obtain ⟨A, c, rfl, hrs, _⟩ := own_formAcctV hown
  exact ⟨ys, A, c, rfl, hl, hrs, hg, hb⟩
theorem tab_rd1 {w : World} {L : List Acct} {e : Ending} {w' : World} (h : AcctPost1 w L e w') : ∃ (ys : List AcctV) (A : Option Addr) (c : Nat), e = .returned (.slice A ys.length c) ∧ ys.map lgA = L ∧ Rs w' 4 (ys.map encAcctV) A c ∧ (∀ y ∈ ys, GoodA w' y) ∧ Below w.heap.size w w' := by
  obtain ⟨v, ys, rfl, hl, hown, hg, hb⟩ := h
  obtain ⟨A, c, rfl, hrs, _⟩ := own_formAcctV hown
  exact ⟨ys, A, c, rfl, hl, hrs, hg, hb⟩
theorem putAcct_rd {ob : Bool} {w : World} {l : List AcctV} {m : AcctV} {e : Ending} {w' : World} (h : PutAcctVPost ob w l m e w') : ∃ A c, e = .returned (.tuple #[.slice A (putAcctVL ob l m).length c, .int .i64 (putAcctVC ob l m)]) ∧ Rs w' 4 ((putAcctVL ob l m).map encAcctV) A c ∧ Below w.heap.size w w' := by
  obtain ⟨v, rfl, hown, hb⟩ := h
  obtain ⟨A, c, rfl, hrs, _⟩ := own_formAcctV hown
  exact ⟨A, c, rfl, hrs, hb⟩
theorem setAcct_rd {ob : Bool} {w : World} {l : List AcctV} {m : AcctV} {e : Ending} {w' : World} (h : SetPost ob w l m e w') : ∃ A c, e = .returned (.tuple #[.slice A (setAL ob l m).length c, .int .i64 (setAC ob l m)]) ∧ Rs w' 4 ((setAL ob l m).map encAcctV) A c ∧ Below w.heap.size w w' := by
  obtain ⟨v, rfl, hown, hb⟩ := h
  obtain ⟨A, c, rfl, hrs, _⟩ := own_formAcctV hown
  exact ⟨A, c, rfl, hrs, hb⟩
/-- A table that a law made: 21 accounts at most, of 20 clients at most, which are there. -/
structure TabOk (w : World) (t : List AcctV) : Prop where
  good : ∀ x ∈ t, GoodA w x
  few : ∀ x ∈ t, x.clients.val.length ≤ 20
  len : t.length ≤ 21
theorem TabOk.both {w W : World} {t : List AcctV} (h : TabOk w t) (hb : Below w.heap.size w W) : ∀ x ∈ t, x.clients.val.length ≤ 1048576 ∧ GoodA W x := fun x hx => ⟨by have := h.few x hx; omega, (h.good x hx).keep hb⟩
theorem TabOk.at {w W : World} {t : List AcctV} (h : TabOk w t) (hb : Below w.heap.size w W) : ∀ x ∈ t, GoodA W x := fun x hx => (h.good x hx).keep hb
theorem TabOk.has {w W : World} {t : List AcctV} (h : TabOk w t) (hb : Below w.heap.size w W) : ∀ x ∈ t, x.clients.val.length ≤ 1000000 ∧ GoodA W x := fun x hx => ⟨by have := h.few x hx; omega, (h.good x hx).keep hb⟩
theorem same_ys {w : World} {ys l : List AcctV} (h : ys.map lgA = l.map lgA) (hg : ∀ y ∈ ys, GoodA w y) (ho : ∀ x ∈ l, x.clients.val.length ≤ 20) : ∀ y ∈ ys, y.clients.val.length ≤ 1048576 ∧ GoodA w y := fun y hy => ⟨by have := val_bound h ho y hy; omega, hg y hy⟩
theorem same_len {ys l : List AcctV} (h : ys.map lgA = l.map lgA) (hl : l.length ≤ 21) : ys.length ≤ 21 := by
  have := congrArg List.length h
  simp only [List.length_map] at this
  omega
end Go.Proofs.Ytemhhojenocddaa
