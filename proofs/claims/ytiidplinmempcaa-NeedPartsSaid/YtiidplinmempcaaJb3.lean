/- Joined: VecTurns, BkP, InstT, Inst1, Wide3, Wide9, AssetT, Asset1, LawF1, WideA2, App0, Big9, Big10, LawF3. -/
import Derived.Test.YtiidplinmempcaaJb2
import Derived.Test.YtiidplinmempcaaJz7
import Derived.Test.YtiidplinmempcaaJz1
import Derived.Test.YtiidplinmempcaaJz2
import Derived.Test.YtiidplinmempcaaJz3
import Derived.Test.YtiidplinmempcaaJz8
import Derived.Test.YtiidplinmempcaaJz4
import Derived.Test.YtiidplinmempcaaJz6
import Derived.Test.YtiidplinmempcaaRows
import Derived.WalkKit
import Derived.WalkSpells
import Derived.WalkLawsBesides
import Derived.BigQuiet
import Derived.Deep.RegionHeld3
import Derived.Handy
/- The law VecTurns: its walk. -/
namespace Go.Proofs.Ytiidplinmempcaa
open Go.RowKit
theorem rss_one {α : Type} {k : Nat} {enc : α → List Value} {W : World} {g : Nat} {v1 : Value} {l1 : List α} (h1 : IsSl k enc W v1 l1) (hg : g < W.heap.size) (c1 : W.cell? ⟨g, 0, none⟩ = some v1) : RsS k enc W [l1] (some ⟨g, 0, none⟩) 1 := by
  refine ⟨⟨[v1], ⟨rfl, fun i a b ha hb => ?_⟩, ⟨fun i r hr => ⟨g, 0, rfl, hg, fun j v hv => ?_⟩, by simp, by unfold maxLen; omega, fun e => by cases e⟩⟩⟩
  · match i with
    | 0 => simp at ha hb; subst ha hb; exact h1
    | i + 1 => simp at ha
  · match i with
    | 0 =>
      simp [enc1] at hr; subst hr
      match j with
      | 0 => simp at hv; subst hv; simpa using c1
      | j + 1 => simp at hv
    | i + 1 => simp at hr
theorem ref11Add1 (l1 : List Leg) (g : Nat) (w : World) (v1 : Value) (h1 : l1.length ≤ 1099511627776) (q1 : Legs64 l1) (r1 : IsSl 2 encLeg w v1 l1) (hg : g < w.heap.size) (c1 : w.cell? ⟨g, 0, none⟩ = some v1) :
    Calls Try.prog 23 #[.slice (some ⟨g, 0, none⟩) 1 1] w (LegsPost w (addC [l1]) (addL [l1])) :=
  ref11Add [l1] (some ⟨g, 0, none⟩) 1 w (by simp) ⟨by simp, by simp [h1]⟩ (by simp [q1]) (rss_one r1 hg c1)
theorem ref11Add2 (l1 l2 : List Leg) (g : Nat) (w : World) (v1 v2 : Value) (h1 : l1.length ≤ 1099511627776) (h2 : l2.length ≤ 1099511627776) (q1 : Legs64 l1) (q2 : Legs64 l2) (r1 : IsSl 2 encLeg w v1 l1) (r2 : IsSl 2 encLeg w v2 l2) (hg : g < w.heap.size) (c1 : w.cell? ⟨g, 0, none⟩ = some v1) (c2 : w.cell? ⟨g, 1, none⟩ = some v2) :
    Calls Try.prog 23 #[.slice (some ⟨g, 0, none⟩) 2 2] w (LegsPost w (addC [l1, l2]) (addL [l1, l2])) :=
  ref11Add [l1, l2] (some ⟨g, 0, none⟩) 2 w (by simp) ⟨by simp, by simp [h1, h2]⟩ (by simp [q1, q2]) (rss_two r1 r2 hg c1 c2)
theorem add_nil (l : List Leg) : addC [l, []] = addC [l] ∧ addL [l, []] = addL [l] := by
  have h1 : allV [l, []] = allV [l] := by unfold allV; simp [isV, isF]
  have h2 : sumG [l, []] = sumG [l] := by funext i; unfold sumG; simp [getF]
  unfold addC addL
  rw [h1, h2]; exact ⟨rfl, rfl⟩
theorem add_bad (l : List Leg) (x : Leg) (h : x.qty = 0) : addC [l, [x]] = 3 ∧ addL [l, [x]] = [] := by
  have h1 : allV [l, [x]] = false := by unfold allV; simp [isV, isF, h]
  unfold addC addL
  rw [h1]; exact ⟨rfl, rfl⟩
theorem with_yes {l : List Leg} {x : Leg} (h : (x.qty == 0) = false) : withC l x = addC [l, [x]] ∧ withL l x = addL [l, [x]] := by
  have hne : x.qty ≠ 0 := by simpa using h
  have e : withLs l x = [l, [x]] := by unfold withLs; rw [if_neg hne]
  exact ⟨by unfold withC; rw [if_neg (fun h => hne h.1), e], by unfold withL; rw [if_neg (fun h => hne h.1), e]⟩
theorem with_zero {l : List Leg} {x : Leg} (h : (x.qty == 0) = true) (h1 : 1 ≤ x.inst) (h2 : x.inst ≤ 8) : withC l x = addC [l] ∧ withL l x = addL [l] := by
  have hz : x.qty = 0 := by simpa using h
  have e : withLs l x = [l, []] := by unfold withLs; rw [if_pos hz]
  exact ⟨by unfold withC; rw [if_neg (by omega), e, (add_nil l).1], by unfold withL; rw [if_neg (by omega), e, (add_nil l).2]⟩
theorem with_bad {l : List Leg} {x : Leg} (h : (x.qty == 0) = true) (h1 : ¬ (1 ≤ x.inst ∧ x.inst ≤ 8)) : withC l x = addC [l, [x]] ∧ withL l x = addL [l, [x]] := by
  have hz : x.qty = 0 := by simpa using h
  obtain ⟨e1, e2⟩ := add_bad l x hz
  unfold withC withL
  rw [if_pos ⟨hz, by omega⟩, if_pos ⟨hz, by omega⟩, e1, e2]; exact ⟨rfl, rfl⟩
theorem withL_len (l : List Leg) (x : Leg) : (withL l x).length ≤ 8 := by
  unfold withL; split
  · simp
  · exact addL_len _
end Go.Proofs.Ytiidplinmempcaa

/- Books, plain: where a unit stands; what a book is when a unit has more, and behind a transfer; what stays. No program in sight. -/
namespace Go.Proofs.Ytiidplinmempcaa
open Go.RowKit
theorem addL_getB {ls : List (List Leg)} (h : addC ls = 0) {i : Int} (h1 : 1 ≤ i) (h2 : i ≤ 8) : getF i (addL ls) = sumG ls i := by
  unfold addC vecC at h
  split at h
  · rename_i ha
    split at h
    · rename_i hf
      unfold addL vecL
      rw [if_pos ha, if_pos hf]
      exact getF_sums _ i h1 8 (by omega)
    · cases h
  · cases h
theorem addL64B (ls : List (List Leg)) : Legs64 (addL ls) := by
  intro x hx
  unfold addL vecL at hx
  split at hx
  · split at hx
    · rename_i h8
      have : ∀ n : Nat, n ≤ 8 → ∀ x ∈ sumsL (sumG ls) n, In64 x.qty := by
        intro n
        induction n with
        | zero => intro _ x hx; simp [sumsL] at hx
        | succ n ih =>
          intro hn x hx
          simp only [sumsL, List.mem_append] at hx
          rcases hx with hx | hx
          · exact ih (by omega) x hx
          · split at hx
            · simp at hx
            · simp at hx; subst hx
              exact (fit_iff.1 h8) _ (by omega) (by omega)
      exact this 8 (Nat.le_refl _) x hx
    · cases hx
  · cases hx
/-- A unit has more. -/
def shC (l : List (Row Leg)) (u : Un) (legs : List Leg) : Int := if isK isV l then addC [ofK l u, legs] else 3
def shL (l : List (Row Leg)) (u : Un) (legs : List Leg) : List (Row Leg) := if shC l u legs = 0 then withK l u (addL [ofK l u, legs]) else []
/-- From one to another one. -/
def mvC (l : List (Row Leg)) (a b : Un) (legs : List Leg) : Int := if isK isV l then (if negC legs = 0 then (if shC l a (negL legs) = 0 then shC (shL l a (negL legs)) b legs else shC l a (negL legs)) else negC legs) else 3
def mvL (l : List (Row Leg)) (a b : Un) (legs : List Leg) : List (Row Leg) := if mvC l a b legs = 0 then shL (shL l a (negL legs)) b legs else []
theorem sh_ok {l : List (Row Leg)} {u : Un} {legs : List Leg} (h : shC l u legs = 0) : isK isV l = true ∧ addC [ofK l u, legs] = 0 ∧ shL l u legs = withK l u (addL [ofK l u, legs]) := by
  have h0 := h
  unfold shC at h
  split at h
  · rename_i h1
    exact ⟨h1, h, by unfold shL; rw [if_pos h0]⟩
  · cases h
theorem sh_is {l : List (Row Leg)} {u : Un} {legs : List Leg} (h : shC l u legs = 0) : isK isV (shL l u legs) = true := by
  obtain ⟨h1, _, h3⟩ := sh_ok h
  rw [h3]
  exact with_is h1 u fun _ => isV_addL _
theorem sh_get {l : List (Row Leg)} {u : Un} {legs : List Leg} (h : shC l u legs = 0) (v : Un) {i : Int} (i1 : 1 ≤ i) (i8 : i ≤ 8) : getF i (ofK (shL l u legs) v) = getF i (ofK l v) + if v = u then getF i legs else 0 := by
  obtain ⟨_, h2, h3⟩ := sh_ok h
  rw [h3, of_with]
  by_cases hv : v = u
  · subst hv
    rw [if_pos rfl, if_pos rfl, addL_getB h2 i1 i8]
    simp [sumG]
  · rw [if_neg hv, if_neg hv]; omega
theorem sh_sum {l : List (Row Leg)} {u : Un} {legs : List Leg} (h : shC l u legs = 0) {i : Int} (i1 : 1 ≤ i) (i8 : i ≤ 8) : sumK (getF i) (shL l u legs) = sumK (getF i) l + getF i legs := by
  obtain ⟨h1, h2, h3⟩ := sh_ok h
  rw [h3, sumK_with (getF i) rfl (isK_facts h1).1, addL_getB h2 i1 i8]
  simp [sumG]
  omega
theorem mv_ok {l : List (Row Leg)} {a b : Un} {legs : List Leg} (h : mvC l a b legs = 0) : isK isV l = true ∧ negC legs = 0 ∧ shC l a (negL legs) = 0 ∧ shC (shL l a (negL legs)) b legs = 0 ∧ mvL l a b legs = shL (shL l a (negL legs)) b legs := by
  have h0 := h
  unfold mvC at h
  split at h
  · rename_i h1
    split at h
    · rename_i h2
      split at h
      · rename_i h3
        exact ⟨h1, h2, h3, h, by unfold mvL; rw [if_pos h0]⟩
      · rename_i h3; exact absurd h h3
    · rename_i h2; exact absurd h h2
  · cases h
theorem negL_get {legs : List Leg} (h : negC legs = 0) (i : Int) : getF i (negL legs) = - getF i legs := by
  obtain ⟨_, h2, _⟩ := neg_ok (l := legs) (by rw [h]; rfl)
  rw [h2, getF_neg]
theorem mv_get {l : List (Row Leg)} {a b : Un} {legs : List Leg} (h : mvC l a b legs = 0) (v : Un) {i : Int} (i1 : 1 ≤ i) (i8 : i ≤ 8) : getF i (ofK (mvL l a b legs) v) = getF i (ofK l v) - (if v = a then getF i legs else 0) + (if v = b then getF i legs else 0) := by
  obtain ⟨_, h2, h3, h4, h5⟩ := mv_ok h
  rw [h5, sh_get h4 v i1 i8, sh_get h3 v i1 i8, negL_get h2]
  split <;> split <;> omega
theorem mv_is {l : List (Row Leg)} {a b : Un} {legs : List Leg} (h : mvC l a b legs = 0) : isK isV (mvL l a b legs) = true := by
  obtain ⟨_, _, _, h4, h5⟩ := mv_ok h
  rw [h5]; exact sh_is h4
theorem mv_sum {l : List (Row Leg)} {a b : Un} {legs : List Leg} (h : mvC l a b legs = 0) {i : Int} (i1 : 1 ≤ i) (i8 : i ≤ 8) : sumK (getF i) (mvL l a b legs) = sumK (getF i) l := by
  obtain ⟨_, h2, h3, h4, h5⟩ := mv_ok h
  rw [h5, sh_sum h4 i1 i8, sh_sum h3 i1 i8, negL_get h2]
  omega
theorem mv_other {l : List (Row Leg)} {a b v : Un} {legs : List Leg} (h : mvC l a b legs = 0) (ha : v ≠ a) (hb : v ≠ b) : ofK (mvL l a b legs) v = ofK l v := by
  obtain ⟨_, _, h3, h4, h5⟩ := mv_ok h
  rw [h5, (sh_ok h4).2.2, of_with, if_neg hb, (sh_ok h3).2.2, of_with, if_neg ha]
theorem of_isV {l : List (Row Leg)} (h : isK isV l = true) (u : Un) : isV (ofK l u) = true := by
  rcases ofK_ok h u with h1 | h1
  · rw [h1]; rfl
  · exact h1
/-- There and back is as it was. -/
theorem mv_back {l : List (Row Leg)} {a b : Un} {legs : List Leg} (h : mvC l a b legs = 0) (k : mvC (mvL l a b legs) b a legs = 0) : mvL (mvL l a b legs) b a legs = l := by
  have h1 := (mv_ok h).1
  have h2 := mv_is k
  refine ext_K (isK_facts h2).1 (isK_facts h1).1 (fun x hx => ((isK_facts h2).2 x hx).1) (fun x hx => ((isK_facts h1).2 x hx).1) fun u => ?_
  refine vec_ext (a := 0) (of_isV h2 u) (of_isV h1 u) fun i i1 i8 => ?_
  rw [mv_get k u (by omega) i8, mv_get h u (by omega) i8]
  split <;> split <;> omega
theorem mv_no {l : List (Row Leg)} {a b : Un} {legs : List Leg} (h : mvC l a b legs ≠ 0) : mvL l a b legs = [] := if_neg h
theorem sh_no {l : List (Row Leg)} {u : Un} {legs : List Leg} (h : shC l u legs ≠ 0) : shL l u legs = [] := if_neg h
theorem shL_len (l : List (Row Leg)) (u : Un) (legs : List Leg) : (shL l u legs).length ≤ l.length + 1 := by
  unfold shL
  split
  · exact with_len _ _ _
  · simp
end Go.Proofs.Ytiidplinmempcaa

/- Instruments: the type. -/
namespace Go.Proofs.Ytiidplinmempcaa
open Go.RowKit
structure Inst where
  id : Int
  mult : Int
  price : Int
  next : Int
  moves : List Int
  deriving DecidableEq
def pricedI (p : Int) : Bool := decide (0 ≤ p) && decide (p ≤ 2147483647)
theorem pricedI_iff {p : Int} : pricedI p = true ↔ 0 ≤ p ∧ p ≤ 2147483647 := by simp [pricedI]
theorem pricedI_no {p : Int} (h : pricedI p = false) : ¬ (0 ≤ p ∧ p ≤ 2147483647) := fun k => by rw [pricedI_iff.2 k] at h; cases h
def farI (m : Int) : Bool := decide (m < -2147483647) || decide (2147483647 < m)
def anyFar (l : List Int) : Bool := l.any farI
/-- Whether an instrument may be. -/
def okI (x : Inst) : Prop := 1 ≤ x.id ∧ x.id ≤ 8 ∧ 1 ≤ x.mult ∧ x.mult ≤ 65536 ∧ (0 ≤ x.price ∧ x.price ≤ 2147483647) ∧ (0 ≤ x.next ∧ x.next ≤ 2147483647) ∧ x.moves.length ≤ 8 ∧ anyFar x.moves = false
instance (x : Inst) : Decidable (okI x) := by unfold okI; infer_instance
def codeI (x : Inst) : Int := if okI x then 0 else 2
theorem codeI_yes {x : Inst} (h : okI x) : codeI x = 0 := if_pos h
theorem codeI_no {x : Inst} (h : ¬ okI x) : codeI x = 2 := if_neg h
theorem okI_move {x : Inst} (h : okI x) {k : Nat} (hk : k < x.moves.length) : -2147483647 ≤ x.moves[k] ∧ x.moves[k] ≤ 2147483647 := by
  have h1 := h.2.2.2.2.2.2.2
  unfold anyFar at h1
  rw [List.any_eq_false] at h1
  have h2 := h1 _ (List.getElem_mem hk)
  simp [farI] at h2
  omega
/-- Whether all that a gain asks is there. -/
def okG (x : Inst) (f t : Int) : Prop := okI x ∧ (0 ≤ f ∧ f ≤ 2147483647) ∧ (0 ≤ t ∧ t ≤ 2147483647)
instance (x : Inst) (f t : Int) : Decidable (okG x f t) := by unfold okG; infer_instance
def gainI (x : Inst) (q f t : Int) : Int := q * x.mult * (t - f)
def okS (x : Inst) (s : Int) : Prop := okI x ∧ 0 ≤ s ∧ s < x.moves.length
instance (x : Inst) (s : Int) : Decidable (okS x s) := by unfold okS; infer_instance
def shockI (x : Inst) (q s : Int) : Int := if okS x s then q * x.mult * x.moves.getD s.toNat 0 else 0
end Go.Proofs.Ytiidplinmempcaa

/- Instruments: contracts of inst.Check and what it calls. -/
namespace Go.Proofs.Ytiidplinmempcaa
open Go.RowKit
set_option maxRecDepth 100000 in
set_option maxHeartbeats 2000000 in
theorem instPriced (p : Int) (w : World) : Calls Try.prog 158 #[.int .i64 p] w fun e w' => e = .returned (.bool (pricedI p)) ∧ Below w.heap.size w w' := by
  by_cases h : 0 ≤ p
  · have d1 : decide (0 ≤ p) = true := by simpa using h
    have HP := Lib.hid (show pricedI p = decide (p ≤ 2147483647) from by unfold pricedI; rw [d1]; rfl)
    go_enter Try.func158, Try.ntmps158
    go_wp2_with fail
    go_ret
    exact ⟨by rw [HP.out]; first | done | rfl, by (repeat' (first | (with_reducible exact Below.refl _ _) | (with_reducible assumption) | (with_reducible refine Below.alloc ?_ ?_ _) | (with_reducible refine Below.setCell ?_ ?_ _) | (with_reducible refine Below.drew ?_) | (with_reducible refine below_drewN ?_ _) | (with_reducible refine below_via ?_ (by with_reducible assumption) ?_) | omega | (simp; done) | (simp; omega)))⟩
  · have d1 : decide (0 ≤ p) = false := by simpa using h
    have HP := Lib.hid (show pricedI p = false from by unfold pricedI; rw [d1]; rfl)
    go_enter Try.func158, Try.ntmps158
    go_wp2_with fail
    go_ret
    exact ⟨by rw [HP.out]; first | done | rfl, by (repeat' (first | (with_reducible exact Below.refl _ _) | (with_reducible assumption) | (with_reducible refine Below.alloc ?_ ?_ _) | (with_reducible refine Below.setCell ?_ ?_ _) | (with_reducible refine Below.drew ?_) | (with_reducible refine below_drewN ?_ _) | (with_reducible refine below_via ?_ (by with_reducible assumption) ?_) | omega | (simp; done) | (simp; omega)))⟩
set_option maxRecDepth 100000 in
set_option maxHeartbeats 2000000 in
theorem instFar (p : Int) (w : World) : Calls Try.prog 160 #[.int .i64 p] w fun e w' => e = .returned (.bool (farI p)) ∧ Below w.heap.size w w' := by
  by_cases h : p < -2147483647
  · have d1 : decide (p < -2147483647) = true := by simpa using h
    have HP := Lib.hid (show farI p = true from by unfold farI; rw [d1]; rfl)
    go_enter Try.func160, Try.ntmps160
    go_wp2_with fail
    go_ret
    exact ⟨by rw [HP.out]; first | done | rfl, by (repeat' (first | (with_reducible exact Below.refl _ _) | (with_reducible assumption) | (with_reducible refine Below.alloc ?_ ?_ _) | (with_reducible refine Below.setCell ?_ ?_ _) | (with_reducible refine Below.drew ?_) | (with_reducible refine below_drewN ?_ _) | (with_reducible refine below_via ?_ (by with_reducible assumption) ?_) | omega | (simp; done) | (simp; omega)))⟩
  · have d1 : decide (p < -2147483647) = false := by simpa using h
    have HP := Lib.hid (show farI p = decide (2147483647 < p) from by unfold farI; rw [d1]; rfl)
    go_enter Try.func160, Try.ntmps160
    go_wp2_with fail
    go_ret
    exact ⟨by rw [HP.out]; first | done | rfl, by (repeat' (first | (with_reducible exact Below.refl _ _) | (with_reducible assumption) | (with_reducible refine Below.alloc ?_ ?_ _) | (with_reducible refine Below.setCell ?_ ?_ _) | (with_reducible refine Below.drew ?_) | (with_reducible refine below_drewN ?_ _) | (with_reducible refine below_via ?_ (by with_reducible assumption) ?_) | omega | (simp; done) | (simp; omega)))⟩
set_option maxRecDepth 100000 in
set_option maxHeartbeats 2000000 in
theorem instIndex (l : List Int) (A : Option Addr) (c : Nat) (w : World) (hl : l.length ≤ 1099511627776) (hr : Rd w A 1 (l.map encI)) :
    Calls Try.prog 176 #[.slice A l.length c, .func (Fn.func 160) #[] #[]] w fun e w' => e = .returned (.int .i64 (idxOf farI l)) ∧ Below w.heap.size w w' := by
  have HR := Lib.hid hr
  clear hr
  go_enter Try.func176, Try.ntmps176
  go_wp2_with fail
  go_loopw [8] (fun i wr => ∃ k : Nat, k ≤ l.length ∧ i = .int .i64 k ∧ Below w.heap.size w wr ∧ ∀ j (_ : j < l.length), j < k → farI l[j] = false) (fun i _ => l.length - (intOf i).toNat)
  case atStart => exact ⟨0, Nat.zero_le _, rfl, Below.refl _ _, fun j _ h => absurd h (by omega)⟩
  case round =>
    obtain ⟨k, hk, rfl, hbl, hno⟩ := hrel
    have Hbl := Lib.hid hbl
    have Hno := Lib.hid hno
    have hz := hbl.size
    clear hbl hno
    by_cases hlt : k < l.length
    · obtain ⟨b, o, rfl, hb, hq⟩ := HR.out k (encI l[k]) (by simp [hlt])
      have e0 := (Hbl.out.cell (p := ⟨b, o + k * 1 + 0, none⟩) hb).trans (hq 0 _ rfl)
      simp at e0
      clear hq
      cases hm : farI l[k]
      · have Hm := Lib.hid hm
        clear hm
        go_wp2_with (go_at_call 160; (with_reducible refine (instFar l[k] _).mono ?_); rw [Hm.out]; rintro e w1 ⟨rfl, hb1⟩; have hz1 := hb1.size; have Hb1 := Lib.hid hb1; clear hb1)
        go_roundw
        case rel => exact ⟨k + 1, by omega, by go_num, Hbl.out.trans (Hb1.out.mono hz), fun j hj h => by
          rcases Nat.lt_or_ge j k with h1 | h1
          · exact Hno.out j hj h1
          · obtain rfl : j = k := by omega
            exact Hm.out⟩
        case measure => simp [intOf]; omega
      · have hi := idx_hit (p := farI) hlt hm Hno.out
        have Hi := Lib.hid hi
        have Hm := Lib.hid hm
        clear hm hi
        go_wp2_with (go_at_call 160; (with_reducible refine (instFar l[k] _).mono ?_); rw [Hm.out]; rintro e w1 ⟨rfl, hb1⟩; have hz1 := hb1.size; have Hb1 := Lib.hid hb1; clear hb1)
        go_ret
        exact ⟨by rw [Hi.out]; rfl, Hbl.out.trans (Hb1.out.mono hz)⟩
    · have hi := idx_miss (p := farI) (l := l) (fun j hj => Hno.out j hj (by omega))
      have Hi := Lib.hid hi
      clear hi
      go_wp2_with fail
      go_ret
      exact ⟨by rw [Hi.out]; rfl, Hbl.out⟩
theorem idx_far (l : List Int) : decide (0 ≤ idxOf farI l) = anyFar l := by
  unfold idxOf anyFar
  cases h : l.findIdx? farI with
  | none =>
    rw [List.findIdx?_eq_none_iff] at h
    have : l.any farI = false := by rw [List.any_eq_false]; intro x hx; simpa using h x hx
    simp [this]
  | some k =>
    rw [List.findIdx?_eq_some_iff_getElem] at h
    obtain ⟨hk, h1, _⟩ := h
    have : l.any farI = true := by
      rw [List.any_eq_true]; exact ⟨_, List.getElem_mem hk, h1⟩
    simp [this]
set_option maxRecDepth 100000 in
set_option maxHeartbeats 1000000 in
theorem instContains (l : List Int) (A : Option Addr) (c : Nat) (w : World) (hl : l.length ≤ 1099511627776) (hr : Rd w A 1 (l.map encI)) :
    Calls Try.prog 159 #[.slice A l.length c, .func (Fn.func 160) #[] #[]] w fun e w' => e = .returned (.bool (anyFar l)) ∧ Below w.heap.size w w' := by
  have HR := Lib.hid hr
  have HI := Lib.hid (idx_far l)
  clear hr
  go_enter Try.func159, Try.ntmps159
  go_wp2_with (go_at_call 176; (with_reducible refine (instIndex l A c _ hl HR.out).mono ?_); rintro e w1 ⟨rfl, hb1⟩; obtain ⟨fc1, fg1, hc1, hf1, hz1⟩ := bget hb1; try simp at hz1)
  go_ret
  exact ⟨by rw [← HI.out]; rfl, by (repeat' (first | (with_reducible exact Below.refl _ _) | (with_reducible assumption) | (with_reducible refine Below.alloc ?_ ?_ _) | (with_reducible refine Below.setCell ?_ ?_ _) | (with_reducible refine Below.drew ?_) | (with_reducible refine below_drewN ?_ _) | (with_reducible refine below_via ?_ (by with_reducible assumption) ?_) | omega | (simp; done) | (simp; omega)))⟩
set_option maxRecDepth 100000 in
set_option maxHeartbeats 8000000 in
theorem instCheck (x : Inst) (A : Option Addr) (c : Nat) (w : World) (hl : x.moves.length ≤ 1099511627776) (hr : Rd w A 1 (x.moves.map encI)) :
    Calls Try.prog 124 #[.agg #[.int .i64 (x).id, .int .i64 (x).mult, .int .i64 (x).price, .int .i64 (x).next, .slice A (x).moves.length c]] w fun e w' => e = .returned (.int .i64 (codeI x)) ∧ Below w.heap.size w w' := by
  obtain ⟨cc, hc⟩ : ∃ cc, cc = codeI x := ⟨_, rfl⟩
  have HD := Lib.hid hc
  rw [← hc]
  clear hc
  obtain ⟨pb, hpb⟩ : ∃ pb, pb = pricedI x.price := ⟨_, rfl⟩
  have HPB := Lib.hid hpb
  obtain ⟨nb, hnb⟩ : ∃ nb, nb = pricedI x.next := ⟨_, rfl⟩
  have HNB := Lib.hid hnb
  obtain ⟨fb, hfb⟩ : ∃ fb, fb = anyFar x.moves := ⟨_, rfl⟩
  have HFB := Lib.hid hfb
  have c1 := fun W => instPriced x.price W
  have c2 := fun W => instPriced x.next W
  have c3 := fun W h => instContains x.moves A c W hl h
  rw [← hpb] at c1
  rw [← hnb] at c2
  rw [← hfb] at c3
  have C1 := Lib.hid c1
  have C2 := Lib.hid c2
  have C3 := Lib.hid c3
  have HR := Lib.hid hr
  clear c1 c2 c3 hpb hnb hfb hr
  generalize hn : x.moves.length = n at *
  have HN := Lib.hid hn
  clear hn
  cases pb
  rotate_left
  cases nb
  rotate_left
  cases fb
  all_goals
    go_enter Try.func124, Try.ntmps124
    go_wp2_with (first | (go_at_call 158; (with_reducible refine (C1.out _).mono ?_); rintro e w1 ⟨rfl, hb1⟩; obtain ⟨fc1, fg1, hc1, hf1, hz1⟩ := bget hb1; (try simp at hz1)) | (go_at_call 158; (with_reducible refine (C2.out _).mono ?_); rintro e w2 ⟨rfl, hb2⟩; obtain ⟨fc2, fg2, hc2, hf2, hz2⟩ := bget hb2; (try simp at hz2)) | (go_at_call 159; (with_reducible refine (C3.out _ (HR.out.keep (by (repeat' (first | (with_reducible exact Below.refl _ _) | (with_reducible assumption) | (with_reducible refine Below.alloc ?_ ?_ _) | (with_reducible refine Below.setCell ?_ ?_ _) | (with_reducible refine Below.drew ?_) | (with_reducible refine below_drewN ?_ _) | (with_reducible refine below_via ?_ (by with_reducible assumption) ?_) | omega | (simp; done) | (simp; omega)))))).mono ?_); rintro e w3 ⟨rfl, hb3⟩; obtain ⟨fc3, fg3, hc3, hf3, hz3⟩ := bget hb3; (try simp at hz3)) | fail)
  all_goals
    go_ret
    refine ⟨?_, by (repeat' (first | (with_reducible exact Below.refl _ _) | (with_reducible assumption) | (with_reducible refine Below.alloc ?_ ?_ _) | (with_reducible refine Below.setCell ?_ ?_ _) | (with_reducible refine Below.drew ?_) | (with_reducible refine below_drewN ?_ _) | (with_reducible refine below_via ?_ (by with_reducible assumption) ?_) | omega | (simp; done) | (simp; omega)))⟩
    have h1 := HPB.out.symm
    have h2 := HNB.out.symm
    have h3 := HFB.out.symm
    have h4 := HN.out
    try rw [pricedI_iff] at h1
    try replace h1 := pricedI_no h1
    try rw [pricedI_iff] at h2
    try replace h2 := pricedI_no h2
    rw [HD.out]
    first
      | (rw [codeI_yes (by unfold okI; exact ⟨by omega, by omega, by omega, by omega, h1, h2, by omega, h3⟩)]; rfl)
      | (rw [codeI_no (fun hk => by unfold okI at hk; omega)]; rfl)
      | (rw [codeI_no (fun hk => by have := hk.2.2.2.2.2.2.2; rw [h3] at this; cases this)]; rfl)
      | fail
end Go.Proofs.Ytiidplinmempcaa

/- Contracts of wide.Neg, Times. -/
namespace Go.Proofs.Ytiidplinmempcaa
open Go.RowKit
attribute [local go_sem] fieldSizeLo

theorem sgn_neg (n : Int) : sgn (!decide (n < 0)) (iabs n) = - n := by unfold sgn iabs; by_cases h : n < 0 <;> simp [h]
set_option maxRecDepth 100000 in
set_option maxHeartbeats 1000000 in
theorem wideNegYes (n : Int) (w : World) (h : In128 n) (hn : In128 (- n)) :
    Calls Try.prog 75 #[(.agg #[.int .i64 (whi (n)), .int .u64 (wlo (n))])] w fun e w' => e = .returned (.tuple #[(.agg #[.int .i64 (whi (- n)), .int .u64 (wlo (- n))]), .int .i64 0]) ∧ Below w.heap.size w w' := by
  have f1 := sgn_neg n
  have f2 := wrap128_in hn
  have f3 := in128_true hn
  have b3 : 0 ≤ iabs n ∧ iabs n < 340282366920938463463374607431768211456 := by unfold In128 at h; unfold iabs; split <;> omega
  go_enter Try.func75, Try.ntmps75
  go_wp2
  go_region_held3 (fun w' => w'.cell? ⟨w.heap.size, 0, none⟩ = some (.int .i64 (whi n)) ∧ w'.cell? ⟨w.heap.size, 1, none⟩ = some (.int .u64 (wlo n))) (first | (simp [go_sem]; done) | (repeat' (first | (with_reducible assumption) | (with_reducible refine And.intro ?_ ?_) | (with_reducible refine cell_drew ?_) | (with_reducible refine cell_via (by with_reducible assumption) ?_ ?_) | (simp [*]; done) | (simp [go_sem]; done) | (with_reducible refine cell_alloc ?_ ?_) | (with_reducible refine cell_set_far ?_ ?_) | omega | (simp; omega)))) (first | (go_at_call 130; (with_reducible refine (wideSize n _ h).mono ?_); rintro e w1 ⟨rfl, hb1⟩; obtain ⟨fc1, fg1, hc1, hf1, hz1⟩ := bget hb1; try simp at hz1) | (go_at_call 132; (with_reducible refine (wideBelow n _ h).mono ?_); rintro e w2 ⟨rfl, hb2⟩; obtain ⟨fc2, fg2, hc2, hf2, hz2⟩ := bget hb2; try simp at hz2) | (go_at_call 131; (with_reducible refine (wideSigned _ _ _ b3.1 b3.2).mono ?_); rintro e w3 ⟨rfl, hb3⟩; obtain ⟨fc3, fg3, hc3, hf3, hz3⟩ := bget hb3; try simp at hz3) | (go_at_call 129; (with_reducible refine (wideRangedYes _ _).mono ?_); rintro e w4 ⟨rfl, hb4⟩; obtain ⟨fc4, fg4, hc4, hf4, hz4⟩ := bget hb4; try simp at hz4))
  go_wp2
  all_goals
    refine bodyPost_ret (by simp [results, Try.results75, go_sem, ↓IntWalk.iteOmega, hc1, hc2, hc3, hc4]; try rfl) rfl ⟨rfl, ?_⟩
    (repeat' (first | (with_reducible exact Below.refl _ _) | (with_reducible assumption) | (with_reducible refine Below.alloc ?_ ?_ _) | (with_reducible refine Below.setCell ?_ ?_ _) | (with_reducible refine Below.drew ?_) | (with_reducible refine below_drewN ?_ _) | (with_reducible refine below_via ?_ (by with_reducible assumption) ?_) | omega | (simp; done) | (simp; omega)))
set_option maxRecDepth 100000 in
set_option maxHeartbeats 1000000 in
theorem wideNegNo (n : Int) (w : World) (h : In128 n) (hn : ¬ In128 (- n)) :
    Calls Try.prog 75 #[(.agg #[.int .i64 (whi (n)), .int .u64 (wlo (n))])] w fun e w' => e = .returned (.tuple #[.agg #[.int .i64 0, .int .u64 0], .int .i64 7]) ∧ Below w.heap.size w w' := by
  have f1 := sgn_neg n
  have f3 := in128_false hn
  have b3 : 0 ≤ iabs n ∧ iabs n < 340282366920938463463374607431768211456 := by unfold In128 at h; unfold iabs; split <;> omega
  clear hn
  go_enter Try.func75, Try.ntmps75
  go_wp2
  go_region_held3 (fun w' => w'.cell? ⟨w.heap.size, 0, none⟩ = some (.int .i64 (whi n)) ∧ w'.cell? ⟨w.heap.size, 1, none⟩ = some (.int .u64 (wlo n))) (first | (simp [go_sem]; done) | (repeat' (first | (with_reducible assumption) | (with_reducible refine And.intro ?_ ?_) | (with_reducible refine cell_drew ?_) | (with_reducible refine cell_via (by with_reducible assumption) ?_ ?_) | (simp [*]; done) | (simp [go_sem]; done) | (with_reducible refine cell_alloc ?_ ?_) | (with_reducible refine cell_set_far ?_ ?_) | omega | (simp; omega)))) (first | (go_at_call 130; (with_reducible refine (wideSize n _ h).mono ?_); rintro e w1 ⟨rfl, hb1⟩; obtain ⟨fc1, fg1, hc1, hf1, hz1⟩ := bget hb1; try simp at hz1) | (go_at_call 132; (with_reducible refine (wideBelow n _ h).mono ?_); rintro e w2 ⟨rfl, hb2⟩; obtain ⟨fc2, fg2, hc2, hf2, hz2⟩ := bget hb2; try simp at hz2) | (go_at_call 131; (with_reducible refine (wideSigned _ _ _ b3.1 b3.2).mono ?_); rintro e w3 ⟨rfl, hb3⟩; obtain ⟨fc3, fg3, hc3, hf3, hz3⟩ := bget hb3; try simp at hz3) | (go_at_call 129; (with_reducible refine (wideRangedNo _ _ _).mono ?_); rintro e w4 ⟨rfl, hb4⟩; obtain ⟨fc4, fg4, hc4, hf4, hz4⟩ := bget hb4; try simp at hz4))
  go_wp2
  all_goals
    refine bodyPost_ret (by simp [*, results, Try.results75, go_sem]; try rfl) rfl ⟨rfl, ?_⟩
    (repeat' (first | (with_reducible exact Below.refl _ _) | (with_reducible assumption) | (with_reducible refine Below.alloc ?_ ?_ _) | (with_reducible refine Below.setCell ?_ ?_ _) | (with_reducible refine Below.drew ?_) | (with_reducible refine below_drewN ?_ _) | (with_reducible refine below_via ?_ (by with_reducible assumption) ?_) | omega | (simp; done) | (simp; omega)))
/-- |w| times |n| as three words: the high part is nought just where the product is one of 128 bits without sign. -/
theorem times_words (x y : Int) (hx : 0 ≤ x ∧ x ≤ 170141183460469231731687303715884105728) (hy : 0 ≤ y ∧ y ≤ 9223372036854775808) :
    let over := whi (whi x * y); let high := wlo (whi x * y); let carried := whi (wlo x * y); let lo := wlo (wlo x * y)
    let hi := wlo (high + carried); let carry := whi (high + carried)
    (over = 0 ∧ carry = 0 → hi = whi (x * y) ∧ lo = wlo (x * y) ∧ x * y < 340282366920938463463374607431768211456) ∧ (¬ (over = 0 ∧ carry = 0) → 340282366920938463463374607431768211456 ≤ x * y) := by
  have e : x * y = whi x * y * 18446744073709551616 + wlo x * y := by
    have := whi_wlo x
    calc x * y = (whi x * 18446744073709551616 + wlo x) * y := by rw [this]
      _ = _ := by rw [Int.add_mul]; congr 1; rw [Int.mul_assoc, Int.mul_comm 18446744073709551616 y, ← Int.mul_assoc]
  have h1 : 0 ≤ whi x := by unfold whi; omega
  have h2 := wlo_u x
  have m1 : 0 ≤ whi x * y := Int.mul_nonneg h1 hy.1
  have m2 : 0 ≤ wlo x * y := Int.mul_nonneg h2.1 hy.1
  have m3 : wlo x * y ≤ 18446744073709551615 * 9223372036854775808 := Int.mul_le_mul h2.2 hy.2 hy.1 (by omega)
  rw [e]
  generalize whi x * y = p at *
  generalize wlo x * y = q at *
  intro over high carried lo hi carry
  simp only [over, high, carried, lo, hi, carry, whi, wlo]
  clear e h1 h2
  constructor
  · rintro ⟨a, b⟩
    refine ⟨?_, ?_, ?_⟩ <;> omega
  · intro h
    omega
end Go.Proofs.Ytiidplinmempcaa

/- The contract of wide.Times. -/
namespace Go.Proofs.Ytiidplinmempcaa
open Go.RowKit
attribute [local go_sem] fieldSizeLo
end Go.Proofs.Ytiidplinmempcaa

/- Assets: the type. -/
namespace Go.Proofs.Ytiidplinmempcaa
open Go.RowKit
structure Asset where
  id : Int
  price : Int
  hair : Int
  deriving DecidableEq
def encAsset (x : Asset) : List Value := [.int .i64 x.id, .int .i64 x.price, .int .i64 x.hair]
def okAsset (x : Asset) : Prop := In64 x.id ∧ In64 x.price ∧ In64 x.hair
theorem rowsAsset (l : List Asset) : ∀ r ∈ l.map encAsset, r.length = 3 ∧ ∀ u ∈ r, u.oneCell' = true := by
  intro r hr
  obtain ⟨m, _, rfl⟩ := List.mem_map.1 hr
  refine ⟨rfl, ?_⟩
  simp only [encAsset, List.mem_cons, List.not_mem_nil, or_false, forall_eq_or_imp, forall_eq]
  exact ⟨rfl, rfl, rfl⟩
theorem encAsset_inj {x y : Asset} (h : encAsset x = encAsset y) : x = y := by
  unfold encAsset at h
  simp only [List.cons.injEq, Value.int.injEq, and_true, true_and] at h
  obtain ⟨h0, h1, h2⟩ := h
  obtain ⟨xid, xprice, xhair⟩ := x
  obtain ⟨yid, yprice, yhair⟩ := y
  simp only at h0 h1 h2
  subst h0 h1 h2
  rfl
theorem neqAsset {x y : Asset} (h : x ≠ y) : ((x.id == y.id) = false) ∨ ((x.price == y.price) = false) ∨ ((x.hair == y.hair) = false) := by
  cases h0 : (x.id == y.id)
  · simp
  cases h1 : (x.price == y.price)
  · simp
  cases h2 : (x.hair == y.hair)
  · simp
  · exfalso
    apply h
    obtain ⟨xid, xprice, xhair⟩ := x
    obtain ⟨yid, yprice, yhair⟩ := y
    simp_all
/-- Whether an asset may be. -/
def okA (x : Asset) : Prop := 1 ≤ x.id ∧ x.id ≤ 4 ∧ 0 ≤ x.price ∧ x.price ≤ 2147483647 ∧ 0 ≤ x.hair ∧ x.hair ≤ 10000
instance (x : Asset) : Decidable (okA x) := by unfold okA; infer_instance
/-- What counts of so many. -/
def countA (x : Asset) (q : Int) : Int := q * x.price * (10000 - x.hair) / 10000
/-- Parts counted one by one count as much as the whole, or one less. -/
theorem floor_parts (m a b d : Int) (hd : 0 < d) : a * m / d + b * m / d ≤ (a + b) * m / d ∧ (a + b) * m / d - a * m / d - b * m / d ≤ 1 := by
  have e1 := Int.mul_ediv_add_emod (a * m) d
  have e2 := Int.mul_ediv_add_emod (b * m) d
  have e3 := Int.mul_ediv_add_emod ((a + b) * m) d
  have r1 := Int.emod_nonneg (a * m) (show d ≠ 0 by omega)
  have r2 := Int.emod_nonneg (b * m) (show d ≠ 0 by omega)
  have r3 := Int.emod_nonneg ((a + b) * m) (show d ≠ 0 by omega)
  have s1 := Int.emod_lt_of_pos (a * m) hd
  have s2 := Int.emod_lt_of_pos (b * m) hd
  have s3 := Int.emod_lt_of_pos ((a + b) * m) hd
  have hs : (a + b) * m = a * m + b * m := Int.add_mul a b m
  generalize a * m / d = p at *
  generalize b * m / d = q at *
  generalize (a + b) * m / d = t at *
  have h1 : d * (t - p - q) < d * 2 := by rw [Int.mul_sub, Int.mul_sub]; omega
  have h2 : d * (-1) < d * (t - p - q) := by rw [Int.mul_sub, Int.mul_sub]; omega
  have h3 := Int.lt_of_mul_lt_mul_left h1 (by omega)
  have h4 := Int.lt_of_mul_lt_mul_left h2 (by omega)
  omega
theorem count_le {x : Asset} (h : okA x) {q : Int} (hq : 0 ≤ q) : 0 ≤ countA x q ∧ countA x q ≤ q * x.price := by
  obtain ⟨_, _, h1, _, h2, h3⟩ := h
  unfold countA
  have hw : 0 ≤ q * x.price := Int.mul_nonneg hq h1
  have hk : q * x.price * (10000 - x.hair) ≤ q * x.price * 10000 := Int.mul_le_mul_of_nonneg_left (by omega) hw
  have hk0 : 0 ≤ q * x.price * (10000 - x.hair) := Int.mul_nonneg hw (by omega)
  generalize q * x.price * (10000 - x.hair) = t at *
  generalize q * x.price = v at *
  omega
theorem count_mono {x : Asset} (h : okA x) {q r : Int} (hqr : q ≤ r) : countA x q ≤ countA x r := by
  obtain ⟨_, _, h1, _, h2, h3⟩ := h
  unfold countA
  have hk : q * x.price ≤ r * x.price := Int.mul_le_mul_of_nonneg_right hqr h1
  have hk2 : q * x.price * (10000 - x.hair) ≤ r * x.price * (10000 - x.hair) := Int.mul_le_mul_of_nonneg_right hk (by omega)
  generalize q * x.price * (10000 - x.hair) = t at *
  generalize r * x.price * (10000 - x.hair) = u at *
  omega
theorem count_parts (x : Asset) (a b : Int) : countA x a + countA x b ≤ countA x (a + b) ∧ countA x (a + b) - countA x a - countA x b ≤ 1 := by
  have h := floor_parts (x.price * (10000 - x.hair)) a b 10000 (by omega)
  unfold countA
  rw [Int.mul_assoc, Int.mul_assoc, Int.mul_assoc]
  exact h
/-- The least whose worth is not below. -/
theorem up_worth {a p : Int} (hp : 0 < p) : a ≤ (if 0 < a % p then a / p + 1 else a / p) * p ∧ (if 0 < a % p then a / p + 1 else a / p) * p - p < a := by
  have e := Int.mul_ediv_add_emod a p
  have r0 := Int.emod_nonneg a (show p ≠ 0 by omega)
  have r1 := Int.emod_lt_of_pos a hp
  rw [Int.mul_comm] at e
  split
  · rw [Int.add_mul]; omega
  · omega
end Go.Proofs.Ytiidplinmempcaa

/- Assets: contracts of asset.Check and the reference's Is. -/
namespace Go.Proofs.Ytiidplinmempcaa
open Go.RowKit
def pricedA (p : Int) : Bool := decide (0 ≤ p) && decide (p ≤ 2147483647)
def codeA (x : Asset) : Int := if okA x then 0 else 2
theorem codeA_yes {x : Asset} (h : okA x) : codeA x = 0 := by unfold codeA; rw [if_pos h]
theorem codeA_no {x : Asset} (h : ¬ okA x) : codeA x = 2 := by unfold codeA; rw [if_neg h]
end Go.Proofs.Ytiidplinmempcaa

/- Layer 2's laws: fix.Scale; what the laws call of their own: lives, Is, few. -/
namespace Go.Proofs.Ytiidplinmempcaa
open Go.RowKit
theorem div_in' {a d : Int} (ha : In128 a) (hd : 0 < d) : In128 (a / d) := by
  unfold In128 at *
  by_cases h : 0 ≤ a
  · have h1 : 0 ≤ a / d := Int.ediv_nonneg h (by omega)
    have h2 := Int.ediv_le_self d h
    omega
  · have h1 : a / d < 0 := Int.ediv_lt_of_lt_mul hd (by omega)
    have h2 : a ≤ a / d := Int.le_ediv_of_mul_le hd (by
      have h3 : (- a) * 1 ≤ (- a) * d := Int.mul_le_mul_of_nonneg_left (by omega) (by omega)
      rw [Int.neg_mul, Int.neg_mul] at h3
      omega)
    omega
theorem in64_not' {n : Int} (h : ¬ In64 n) : in64 n = false := by cases e : in64 n; rfl; exact absurd (in64_iff.1 e) h
theorem ord_self' (n : Int) : ord n n = 0 := by unfold ord; rw [if_neg (by omega), if_neg (by omega)]
/-- A number or why none, as the code answers. -/
def okN (n : Int) : Int := if in64 n then n else 0
def okE (n : Int) : Int := if in64 n then 0 else 7
theorem okN_yes {n : Int} (h : In64 n) : okN n = n ∧ okE n = 0 := by unfold okN okE; rw [in64_iff.2 h]; exact ⟨rfl, rfl⟩
theorem okN_no {n : Int} (h : ¬ In64 n) : okN n = 0 ∧ okE n = 7 := by unfold okN okE; rw [in64_not' h]; exact ⟨rfl, rfl⟩
theorem rd_take {w : World} {A : Option Addr} {l : List Int} (h : Rd w A 1 (l.map encI)) (k : Nat) : Rd w A 1 ((l.take k).map encI) := by
  intro i r hr
  rw [List.map_take, List.getElem?_take] at hr
  split at hr
  · exact h i r hr
  · cases hr
end Go.Proofs.Ytiidplinmempcaa

/- wide.Add of two numbers in a row built on the spot. -/
namespace Go.Proofs.Ytiidplinmempcaa
open Go.RowKit
theorem rd_wide2 {w : World} {g : Nat} {x y : Int} (hg : g < w.heap.size) (h0 : w.cell? ⟨g, 0, none⟩ = some (.int .i64 (whi x))) (h1 : w.cell? ⟨g, 1, none⟩ = some (.int .u64 (wlo x))) (h2 : w.cell? ⟨g, 2, none⟩ = some (.int .i64 (whi y))) (h3 : w.cell? ⟨g, 3, none⟩ = some (.int .u64 (wlo y))) : Rd w (some ⟨g, 0, none⟩) 2 ([x, y].map encW) := by
  intro i r hr
  match i, hr with
  | 0, hr =>
    simp at hr
    subst hr
    refine ⟨g, 0, rfl, hg, fun j v hv => ?_⟩
    match j, hv with
    | 0, hv => simp [encW] at hv; subst hv; simpa using h0
    | 1, hv => simp [encW] at hv; subst hv; simpa using h1
  | 1, hr =>
    simp at hr
    subst hr
    refine ⟨g, 0, rfl, hg, fun j v hv => ?_⟩
    match j, hv with
    | 0, hv => simp [encW] at hv; subst hv; simpa using h2
    | 1, hv => simp [encW] at hv; subst hv; simpa using h3
theorem wideAdd2 (x y s : Int) (g : Nat) (w : World) (hx : In128 x) (hy : In128 y) (hs : x + y = s) (hs1 : In128 s) (hg : g < w.heap.size) (h0 : w.cell? ⟨g, 0, none⟩ = some (.int .i64 (whi x))) (h1 : w.cell? ⟨g, 1, none⟩ = some (.int .u64 (wlo x))) (h2 : w.cell? ⟨g, 2, none⟩ = some (.int .i64 (whi y))) (h3 : w.cell? ⟨g, 3, none⟩ = some (.int .u64 (wlo y))) :
    Calls Try.prog 74 #[.slice (some ⟨g, 0, none⟩) 2 2] w fun e w' => e = .returned (.tuple #[(.agg #[.int .i64 (whi (s)), .int .u64 (wlo (s))]), .int .i64 0]) ∧ Below w.heap.size w w' := by
  have hsum : [x, y].sum = s := by simp [hs]
  have h := wideAddYes [x, y] (some ⟨g, 0, none⟩) 2 w (by simp) (by simp [hx, hy]) (rd_wide2 hg h0 h1 h2 h3) (by rw [hsum]; exact hs1)
  rw [hsum] at h
  exact h
end Go.Proofs.Ytiidplinmempcaa

/- append(v, x...) onto a slice of the call's own, whatever x is; a nil x too, whatever its room. -/
namespace Go.Proofs.Ytiidplinmempcaa
open Go.RowKit
theorem run_append_none {P : Program} {w : World} (base : Nat) (t ty e : TypeId) (i : TypeInfo) (size : Nat) (ht : P.underlying t = some (.slice e)) (hi : P.info? e = some i)
    (v : Value) (n c : Nat) (xs : List Value) (hown : w.ownsRow base e size v n xs) :
    (Builtin.append_ #[t, t] ty #[v, .slice none 0 c]).run P w = .ok v w := by
  rcases hown.2 with ⟨rfl, rfl⟩ | ⟨g, cap, cur, rfl, _, _, hnc, _⟩
  · simp [Builtin.append_, run_underlying ht, sizeOf, typeInfo, hi, Builtin.lenOf, Builtin.firstCells]
  · simp [Builtin.append_, run_underlying ht, sizeOf, typeInfo, hi, Builtin.lenOf, Builtin.firstCells, hnc, storeCells]
theorem wpList_any {P : Program} {ops : Array Oper} {rest : List Oper} {o : Oper} {a : Act} {Q : Exit → Act → World → Prop} {w : World} (hgd : o.guard = none) (s x : Operand) (T : TypeId)
    (ho : o.op = .call { callee := .builtin .append, args := #[s, x], argTypes := #[T, T] }) {E k bytes : Nat} (el : Elem P T E k bytes)
    (base : Nat) (v : Value) (rows : List (List Value)) (hs : a.eval s = v) (hown : Own w base E k v rows)
    (A : Option Addr) (m c : Nat) (hx : a.eval x = .slice A m c) (news : List (List Value)) (hm : news.length = m) (hr : Rd w A k news) (hk : ∀ r ∈ news, r.length = k ∧ ∀ u ∈ r, u.oneCell' = true)
    (h63 : rows.length + m ≤ maxLen) (hbytes : (rows.length + m) * bytes ≤ 140737488355328) (hbase : base ≤ w.heap.size)
    (h : ∀ v' w', Own w' base E k v' (rows ++ news) → Below base w w' → wpList P ops Q rest (a.put o.dst v') w') : wpList P ops Q (o :: rest) a w := by
  rcases A with _ | ad
  · have hn : news = [] := by
      rcases news with _ | ⟨r, news⟩
      · rfl
      · obtain ⟨b, o, hA, _⟩ := hr 0 r rfl
        cases hA
    subst hn
    simp at hm
    subst hm
    refine wpList_plain hgd fun _ hK => ?_
    obtain ⟨i, z, hi, hz, hsize, hby, hzs⟩ := el.info
    have hrun := run_append_none (P := P) (w := w) base T o.type E i k el.ty hi v rows.length c rows.flatten hown.2
    unfold Oper.wp
    simp [execOp, ho, resolve, invoke, builtin, hs, hx, hrun, Result.andThen]
    exact hK _ _ (h v w (by simpa using hown) (Below.refl _ _))
  · exact wpList_app hgd s x T ho el base v rows hs hown (some ad) m c hx news hm (fun h => by cases h) hr hk h63 hbytes hbase h
end Go.Proofs.Ytiidplinmempcaa

/- The contract of the reference's Mul. -/
namespace Go.Proofs.Ytiidplinmempcaa
open Go.RowKit
theorem mul_sgn {a b x : Int} {sa sb : Bool} (ha : sa = decide (a < 0)) (hb : sb = decide (b < 0)) (hx : x = iabs (a * b)) : (!(sa == sb) && decide (0 < x)) = decide (a * b < 0) := by
  have h := sgn_mul a b
  rw [iabs_mul, ← hx, ← ha, ← hb] at h
  have h0 : 0 ≤ x := by rw [hx]; unfold iabs; split <;> omega
  cases sa <;> cases sb <;> simp [sgn] at h ⊢ <;> omega
set_option maxRecDepth 100000 in
set_option maxHeartbeats 4000000 in
theorem bigMul (a b : Int) (sa sb : Bool) (la lb : List Int) (A B : Option Addr) (c d L : Nat) (w : World) (hL : L ≤ 100000) (hla : la.length ≤ L) (hlb : lb.length ≤ L) (ha : IsBig w a sa A la c) (hb : IsBig w b sb B lb d) :
    Calls Try.prog 135 #[.agg #[.bool sa, .slice A la.length c], .agg #[.bool sb, .slice B lb.length d]] w (BigPost w (a * b) (L + L)) := by
  have HA := Lib.hid ha
  have HB := Lib.hid hb
  clear ha hb
  go_enter Try.func135, Try.ntmps135
  go_wp2_with (first | (at_builtin; refine wpList_any rfl _ _ _ rfl elB (w.heap.size + 3) _ _ rfl (Own.nil _ _ _ _) A la.length c rfl (la.map encB) (by simp) (HA.out.rd.keep (by (repeat' (first | (with_reducible exact Below.refl _ _) | (with_reducible assumption) | (with_reducible refine Below.alloc ?_ ?_ _) | (with_reducible refine Below.setCell ?_ ?_ _) | (with_reducible refine Below.drew ?_) | (with_reducible refine below_drewN ?_ _) | (with_reducible refine below_via ?_ (by with_reducible assumption) ?_) | omega | (simp; done) | (simp; omega))))) (encB_one la) (by unfold maxLen; first | (simp; done) | omega | (simp; omega)) (by first | (simp; done) | omega | (simp; omega)) (by first | omega | (simp; done) | (simp; omega)) ?_; intro v1 w1 hown1 hb1; have hown2 : Own w1 (w.heap.size + 3) 5 1 v1 (la.map encB) := (by simpa using hown1); have HO1 := Lib.hid hown2; have Hb1 := Lib.hid hb1; have hz1 := hb1.size; simp at hz1; clear hown1 hown2 hb1) | fail)
  go_loopw [5, 6, 7] (fun sv rv i wr => ∃ (k : Nat) (S R : List Int), k ≤ lb.length ∧ i = .int .i64 k ∧ Own wr (w.heap.size + 3) 5 1 sv (S.map encB) ∧ Own wr (w.heap.size + 3) 5 1 rv (R.map encB) ∧ S.length ≤ la.length + k ∧ R.length = la.length + k ∧ Bit S ∧ Bit R ∧ val S = val la * val (lb.take k) ∧ val R = pw k * val la ∧ Below (w.heap.size + 3) w1 wr) (fun _ _ i _ => lb.length - (intOf i).toNat)
  case atStart => exact ⟨0, [], la, Nat.zero_le _, rfl, Own.nil _ _ _ _, HO1.out, by simp, by simp, bit_nil, HA.out.bit, by simp [val], by rw [pw_zero, Int.one_mul], Below.refl _ _⟩
  case round =>
    obtain ⟨k, S, R, hk, rfl, hoS, hoR, hlS, hlR, hbS, hbR, hvS, hvR, hbl⟩ := hrel
    have hz := hbl.size
    have hbl0 : Below (w.heap.size + 3) (((w.alloc (.cells #[.bool sa, .slice A la.length c] 34)).alloc (.cells #[.bool sb, .slice B lb.length d] 34)).alloc (.cells #[.bool false, .slice none 0 0] 34)) wr := Hb1.out.trans hbl
    have a0 := (hbl0.cell (p := ⟨w.heap.size, 0, none⟩) (by simp))
    have b0 := (hbl0.cell (p := ⟨w.heap.size + 1, 0, none⟩) (by simp))
    have b1 := (hbl0.cell (p := ⟨w.heap.size + 1, 1, none⟩) (by simp))
    have r0 := (hbl0.cell (p := ⟨w.heap.size + 1 + 1, 0, none⟩) (by simp))
    have r1 := (hbl0.cell (p := ⟨w.heap.size + 1 + 1, 1, none⟩) (by simp))
    have f0 := (hbl0.frozen (p := ⟨w.heap.size + 1 + 1, 0, none⟩) (by simp))
    have f1 := (hbl0.frozen (p := ⟨w.heap.size + 1 + 1, 1, none⟩) (by simp))
    simp [go_sem] at a0 b0 b1 r0 r1 f0 f1
    have hbw : Below w.heap.size w wr := by (repeat' (first | (with_reducible exact Below.refl _ _) | (with_reducible assumption) | (with_reducible refine Below.alloc ?_ ?_ _) | (with_reducible refine Below.setCell ?_ ?_ _) | (with_reducible refine Below.drew ?_) | (with_reducible refine below_drewN ?_ _) | (with_reducible refine below_via ?_ (by with_reducible assumption) ?_) | omega | (simp; done) | (simp; omega)))
    have Hbl := Lib.hid hbl
    have Hbl0 := Lib.hid hbl0
    have Hbw := Lib.hid hbw
    have HBS := Lib.hid hbS
    have HBR := Lib.hid hbR
    have HVS := Lib.hid hvS
    have HVR := Lib.hid hvR
    have lLR : R.length ≤ 1000000 := by omega
    have HLR := Lib.hid hlR
    have HOS := Lib.hid hoS
    have HOR := Lib.hid hoR
    obtain ⟨AS, cS, rfl, hcS, hmS, hrS, _⟩ := hoS.shape
    obtain ⟨AR, cR, rfl, hcR, hmR, hrR, _⟩ := hoR.shape
    have HRS := Lib.hid hrS
    have HRR := Lib.hid hrR
    have HCS := Lib.hid hcS
    rw [List.length_map] at HOS HOR ⊢
    rw [List.length_map] at HCS ⊢
    clear hlR hbl hbl0 hbw hbS hbR hvS hvR hoS hoR hrS hrR hcS hcR
    by_cases hlt : k < lb.length
    · have d1 : decide ((k : Int) < (lb.length : Int)) = true := by simpa using hlt
      have hx := bit_get HB.out.bit k
      obtain ⟨bb, bo, rfl, hbb, q1⟩ := bit_cell HB.out.rd Hbw.out (Nat.le_refl _) hlt
      obtain ⟨x, hxe⟩ : ∃ x, x = lb.getD k 0 := ⟨_, rfl⟩
      rw [← hxe] at q1 hx
      have HX := Lib.hid hxe
      clear hxe
      rcases (show x = 0 ∨ x = 1 by omega) with e | e
      · subst e
        go_wp2_with (first | ((at_builtin; refine wpList_app rfl _ _ _ rfl elB wr.heap.size _ _ rfl ((Own.nil wr wr.heap.size 5 1).alloc _) (some ⟨wr.heap.size, 0, none⟩) 1 1 rfl [encB 0] rfl (fun h => by cases h) rd_one ((by simp [encB]; rfl)) (by unfold maxLen; first | (simp; done) | omega | (simp; omega)) (by first | (simp; done) | omega | (simp; omega)) (by first | omega | (simp; done) | (simp; omega)) ?_; intro v' w3 hown3 hb3); obtain ⟨fc3, fg3, hc3, hf3, hz3⟩ := bget hb3; (try simp at hz3)) | (at_builtin; refine wpList_any rfl _ _ _ rfl elB wr.heap.size _ _ rfl hown3 AR R.length cR rfl (R.map encB) (by simp) (HRR.out.keep (by (repeat' (first | (with_reducible exact Below.refl _ _) | (with_reducible assumption) | (with_reducible refine Below.alloc ?_ ?_ _) | (with_reducible refine Below.setCell ?_ ?_ _) | (with_reducible refine Below.drew ?_) | (with_reducible refine below_drewN ?_ _) | (with_reducible refine below_via ?_ (by with_reducible assumption) ?_) | omega | (simp; done) | (simp; omega))))) (encB_one R) (by unfold maxLen; first | (simp; done) | omega | (simp; omega)) (by first | (simp; done) | omega | (simp; omega)) (by have := hb3.size; simp at this; omega) ?_; intro v4 w4 hown4 hb4; have hown5 : Own w4 wr.heap.size 5 1 v4 ((0 :: R).map encB) := (by simpa [encB] using hown4); have HO5 := Lib.hid hown5; have Hb4 := Lib.hid (show Below wr.heap.size wr w4 from (by (repeat' (first | (with_reducible exact Below.refl _ _) | (with_reducible assumption) | (with_reducible refine Below.alloc ?_ ?_ _) | (with_reducible refine Below.setCell ?_ ?_ _) | (with_reducible refine Below.drew ?_) | (with_reducible refine below_drewN ?_ _) | (with_reducible refine below_via ?_ (by with_reducible assumption) ?_) | omega | (simp; done) | (simp; omega))))); clear hown4 hown5 hb3 hb4) | fail)
        go_roundw
        case rel => exact ⟨k + 1, S, 0 :: R, by omega, by go_num, HOS.out.keep Hb4.out, HO5.out.mono (by omega), by omega, by have := HLR.out; simp; omega, HBS.out, bit_cons HBR.out (by omega) (by omega), sum_none HVS.out HX.out.symm, row_next HVR.out, Hbl.out.trans (Hb4.out.mono (by omega))⟩
        case measure => simp [intOf]; omega
      · subst e
        go_wp2_with (first | (go_at_call 87; (with_reducible refine (bigPlus S R AS AR cS cR _ (by omega) (by omega) (HRS.out.keep (by (repeat' (first | (with_reducible exact Below.refl _ _) | (with_reducible assumption) | (with_reducible refine Below.alloc ?_ ?_ _) | (with_reducible refine Below.setCell ?_ ?_ _) | (with_reducible refine Below.drew ?_) | (with_reducible refine below_drewN ?_ _) | (with_reducible refine below_via ?_ (by with_reducible assumption) ?_) | omega | (simp; done) | (simp; omega))))) (HRR.out.keep (by (repeat' (first | (with_reducible exact Below.refl _ _) | (with_reducible assumption) | (with_reducible refine Below.alloc ?_ ?_ _) | (with_reducible refine Below.setCell ?_ ?_ _) | (with_reducible refine Below.drew ?_) | (with_reducible refine below_drewN ?_ _) | (with_reducible refine below_via ?_ (by with_reducible assumption) ?_) | omega | (simp; done) | (simp; omega))))) HBS.out HBR.out).mono ?_); rintro e w2 ⟨v2, l2, rfl, hown2, hb2, hbit2, hval2, hlen2⟩; have HO2 := Lib.hid hown2; have HV2 := Lib.hid hval2; have HL2 := Lib.hid hlen2; clear hown2 hval2 hlen2; obtain ⟨fc2, fg2, hc2, hf2, hz2⟩ := bget hb2; (try simp at hz2)) | ((at_builtin; refine wpList_app rfl _ _ _ rfl elB w2.heap.size _ _ rfl ((Own.nil w2 w2.heap.size 5 1).alloc _) (some ⟨w2.heap.size, 0, none⟩) 1 1 rfl [encB 0] rfl (fun h => by cases h) rd_one ((by simp [encB]; rfl)) (by unfold maxLen; first | (simp; done) | omega | (simp; omega)) (by first | (simp; done) | omega | (simp; omega)) (by first | omega | (simp; done) | (simp; omega)) ?_; intro v' w3 hown3 hb3); obtain ⟨fc3, fg3, hc3, hf3, hz3⟩ := bget hb3; (try simp at hz3)) | (at_builtin; refine wpList_any rfl _ _ _ rfl elB w2.heap.size _ _ rfl hown3 AR R.length cR rfl (R.map encB) (by simp) (HRR.out.keep (by (repeat' (first | (with_reducible exact Below.refl _ _) | (with_reducible assumption) | (with_reducible refine Below.alloc ?_ ?_ _) | (with_reducible refine Below.setCell ?_ ?_ _) | (with_reducible refine Below.drew ?_) | (with_reducible refine below_drewN ?_ _) | (with_reducible refine below_via ?_ (by with_reducible assumption) ?_) | omega | (simp; done) | (simp; omega))))) (encB_one R) (by unfold maxLen; first | (simp; done) | omega | (simp; omega)) (by first | (simp; done) | omega | (simp; omega)) (by have := hb3.size; simp at this; omega) ?_; intro v4 w4 hown4 hb4; have hown5 : Own w4 w2.heap.size 5 1 v4 ((0 :: R).map encB) := (by simpa [encB] using hown4); have HO5 := Lib.hid hown5; have Hb4 := Lib.hid (show Below w2.heap.size w2 w4 from (by (repeat' (first | (with_reducible exact Below.refl _ _) | (with_reducible assumption) | (with_reducible refine Below.alloc ?_ ?_ _) | (with_reducible refine Below.setCell ?_ ?_ _) | (with_reducible refine Below.drew ?_) | (with_reducible refine below_drewN ?_ _) | (with_reducible refine below_via ?_ (by with_reducible assumption) ?_) | omega | (simp; done) | (simp; omega))))); clear hown4 hown5 hb3 hb4) | fail)
        go_roundw
        case rel => exact ⟨k + 1, l2, 0 :: R, by omega, by go_num, (HO2.out.keep Hb4.out).mono (by omega), HO5.out.mono (by omega), by have := HL2.out; have h2 := HLR.out; omega, by have := HLR.out; simp; omega, hbit2, bit_cons HBR.out (by omega) (by omega), sum_one HVS.out HVR.out HX.out.symm HV2.out, row_next HVR.out, (Hbl.out.trans (hb2.mono (by omega))).trans (Hb4.out.mono (by omega))⟩
        case measure => simp [intOf]; omega
    · have d1 : decide ((k : Int) < (lb.length : Int)) = false := by simpa using hlt
      have hke : k = lb.length := by omega
      have hval : val S = iabs (a * b) := by rw [HVS.out, hke, List.take_length, HA.out.val, HB.out.val, iabs_mul]
      have HVAL := Lib.hid hval
      have HSN := Lib.hid (mul_sgn HA.out.sgn HB.out.sgn hval)
      clear hval hke
      go_wp2_with (go_at_call 86; (with_reducible refine (bigTrim _ S AS cS _ (by omega) (HRS.out.keep (by (repeat' (first | (with_reducible exact Below.refl _ _) | (with_reducible assumption) | (with_reducible refine Below.alloc ?_ ?_ _) | (with_reducible refine Below.setCell ?_ ?_ _) | (with_reducible refine Below.drew ?_) | (with_reducible refine below_drewN ?_ _) | (with_reducible refine below_via ?_ (by with_reducible assumption) ?_) | omega | (simp; done) | (simp; omega))))) HBS.out HCS.out hmS).mono ?_); rintro e w2 ⟨l2, rfl, hk2, ht2, hv2, hb2⟩; have Hv2 := Lib.hid hv2; clear hv2; have Hk2 := Lib.hid hk2; clear hk2; obtain ⟨fc2, fg2, hc2, hf2, hz2⟩ := bget hb2; (try simp at hz2))
      have k0 : w2.cell? ⟨w.heap.size + 1 + 1, 0, none⟩ = some (.bool false) := by simp [go_sem, hc2, r0, ↓IntWalk.iteOmega]
      have k1 : w2.cell? ⟨w.heap.size + 1 + 1, 1, none⟩ = some (.slice none 0 0) := by simp [go_sem, hc2, r1, ↓IntWalk.iteOmega]
      have hB := trim_big ((HRS.out.keep (by (repeat' (first | (with_reducible exact Below.refl _ _) | (with_reducible assumption) | (with_reducible refine Below.alloc ?_ ?_ _) | (with_reducible refine Below.setCell ?_ ?_ _) | (with_reducible refine Below.drew ?_) | (with_reducible refine below_drewN ?_ _) | (with_reducible refine below_via ?_ (by with_reducible assumption) ?_) | omega | (simp; done) | (simp; omega))))).keep hb2) HBS.out Hk2.out ht2 Hv2.out HVAL.out HCS.out hmS HSN.out
      have hl2 := trim_len Hk2.out
      refine bodyPost_ret (v := .agg #[.bool (!(sa == sb) && decide (0 < Go.Proofs.Ytiidplinmempcaa.val S)), .slice AS l2.length cS]) (by simp [results, Try.results135, go_sem, k0, k1]; try rfl) rfl ⟨_, AS, l2, cS, rfl, (hB.far k0 (by simp) _).far ((World.cell?_setCell_other _ _ _ _ (by simp)).trans k1) (by simp) _, by omega, ?_⟩
      (have hbw := Hbw.out; (repeat' (first | (with_reducible exact Below.refl _ _) | (with_reducible assumption) | (with_reducible refine Below.alloc ?_ ?_ _) | (with_reducible refine Below.setCell ?_ ?_ _) | (with_reducible refine Below.drew ?_) | (with_reducible refine below_drewN ?_ _) | (with_reducible refine below_via ?_ (by with_reducible assumption) ?_) | omega | (simp; done) | (simp; omega))))
end Go.Proofs.Ytiidplinmempcaa

/- The contract of the reference's Div. -/
namespace Go.Proofs.Ytiidplinmempcaa
open Go.RowKit
def DivPost (w : World) (q r : Int) (L : Nat) (e : Ending) (w' : World) : Prop :=
  ∃ s A l c, e = .returned (.tuple #[.agg #[.bool s, .slice A l.length c], .int .u64 r]) ∧ IsBig w' q s A l c ∧ l.length ≤ L ∧ Below w.heap.size w w'
theorem divs_of {q d r m : Int} (h : q * d + r = m) (h0 : 0 ≤ r) (h1 : r < d) : m / d = q ∧ m % d = r := by
  have e : m / d = q := div_is (by omega) (by rw [Int.add_mul]; omega) (by omega)
  refine ⟨e, ?_⟩
  rw [Int.emod_def, e, Int.mul_comm]; omega
end Go.Proofs.Ytiidplinmempcaa

/- The law FixScales: its walk. -/
namespace Go.Proofs.Ytiidplinmempcaa
open Go.RowKit
/-- The least number whose product is not below. -/
def upOf (p d : Int) : Int := if 0 < p % d then p / d + 1 else p / d
theorem narrowOk (u : Int) (w : World) (h : In128 u) : Calls Try.prog 169 #[(.agg #[.int .i64 (whi (u)), .int .u64 (wlo (u))]), .int .i64 0] w fun e w' => e = .returned (.tuple #[.int .i64 (okN u), .int .i64 (okE u)]) ∧ Below w.heap.size w w' := by
  by_cases h64 : In64 u
  · have hk := okN_yes h64
    rw [hk.1, hk.2]
    exact narrowYes u w h64
  · have hk := okN_no h64
    rw [hk.1, hk.2]
    exact narrowNo u w h h64
end Go.Proofs.Ytiidplinmempcaa
