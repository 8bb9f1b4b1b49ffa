/- Accounts: the types; which may be, their parts; one more client. No program in sight. -/
import Derived.Test.YtemhhojenocddaaWhile
namespace Go.Proofs.Ytemhhojenocddaa
open Go.RowKit
structure Un where
  acc : Int
  cli : Int
  deriving DecidableEq
def encUn (x : Un) : List Value := [.int .i64 x.acc, .int .i64 x.cli]
def okUn (x : Un) : Prop := In64 x.acc ∧ In64 x.cli
theorem rowsUn (l : List Un) : ∀ r ∈ l.map encUn, r.length = 2 ∧ ∀ u ∈ r, u.oneCell' = true := by
  intro r hr
  obtain ⟨m, _, rfl⟩ := List.mem_map.1 hr
  refine ⟨rfl, ?_⟩
  simp only [encUn, List.mem_cons, List.not_mem_nil, or_false, forall_eq_or_imp, forall_eq]
  exact ⟨rfl, rfl⟩
theorem encUn_inj {x y : Un} (h : encUn x = encUn y) : x = y := by
  unfold encUn at h
  simp only [List.cons.injEq, Value.int.injEq, and_true, true_and] at h
  obtain ⟨h0, h1⟩ := h
  obtain ⟨xacc, xcli⟩ := x
  obtain ⟨yacc, ycli⟩ := y
  simp only at h0 h1
  subst h0 h1
  rfl
theorem neqUn {x y : Un} (h : x ≠ y) : ((x.acc == y.acc) = false) ∨ ((x.cli == y.cli) = false) := by
  cases h0 : (x.acc == y.acc)
  · simp
  cases h1 : (x.cli == y.cli)
  · simp
  · exfalso
    apply h
    obtain ⟨xacc, xcli⟩ := x
    obtain ⟨yacc, ycli⟩ := y
    simp_all
structure AcctV where
  id : Int
  member : Int
  kind : Int
  clients : SlOf Int
  deriving DecidableEq
def encAcctV (x : AcctV) : List Value := [.int .i64 x.id, .int .i64 x.member, .int .i64 x.kind, .slice x.clients.A x.clients.val.length x.clients.c]
def okAcctV (x : AcctV) : Prop := In64 x.id ∧ In64 x.member ∧ In64 x.kind
theorem rowsAcctV (l : List AcctV) : ∀ r ∈ l.map encAcctV, r.length = 4 ∧ ∀ u ∈ r, u.oneCell' = true := by
  intro r hr
  obtain ⟨m, _, rfl⟩ := List.mem_map.1 hr
  refine ⟨rfl, ?_⟩
  simp only [encAcctV, List.mem_cons, List.not_mem_nil, or_false, forall_eq_or_imp, forall_eq]
  exact ⟨rfl, rfl, rfl, rfl⟩
structure Acct where
  id : Int
  member : Int
  kind : Int
  clients : List Int
  deriving DecidableEq
/-- What it is, wherever its clients lie. -/
def lgA (x : AcctV) : Acct := ⟨x.id, x.member, x.kind, x.clients.val⟩
/-- Its clients are there. -/
def GoodA (w : World) (x : AcctV) : Prop := Rs w 1 (x.clients.val.map encI) x.clients.A x.clients.c
theorem GoodA.keep {w w' : World} {x : AcctV} (h : GoodA w x) (hb : Below w.heap.size w w') : GoodA w' x := Rs.keep h hb
/-- Clients rise strictly from p on, 16 at most. -/
def risC : Int → List Int → Bool
  | _, [] => true
  | p, c :: t => decide (p < c) && decide (c ≤ 16) && risC c t
theorem risC_cons {p c : Int} {t : List Int} : risC p (c :: t) = true ↔ p < c ∧ c ≤ 16 ∧ risC c t = true := by simp [risC, and_assoc]
theorem risC_no {p c : Int} {t : List Int} (h : c ≤ p ∨ 16 < c) : risC p (c :: t) = false := by
  cases hr : risC p (c :: t)
  · rfl
  · rw [risC_cons] at hr; omega
theorem risC_step {p c : Int} {t : List Int} (h : p < c) (h2 : c ≤ 16) : risC p (c :: t) = risC c t := by simp [risC, h, h2]
theorem risC_len : ∀ {l : List Int} {p : Int} (_ : risC p l = true) (_ : p ≤ 16), p + l.length ≤ 16
  | [], p, _, hp => by simpa using hp
  | c :: t, p, h, _ => by
    rw [risC_cons] at h
    have := risC_len h.2.2 h.2.1
    simp only [List.length_cons]; omega
/-- Where all there may be are, each is. -/
theorem risC_full : ∀ {l : List Int} {p : Int} (_ : risC p l = true) (_ : 16 ≤ p + l.length) {c : Int} (_ : p < c) (_ : c ≤ 16), c ∈ l
  | [], p, _, hf, c, h1, h2 => by simp at hf; omega
  | d :: t, p, h, hf, c, h1, h2 => by
    rw [risC_cons] at h
    have hb := risC_len h.2.2 h.2.1
    simp only [List.length_cons] at hf
    by_cases e : c = d
    · simp [e]
    · have hd : d = p + 1 := by omega
      exact List.mem_cons_of_mem _ (risC_full h.2.2 (by omega) (by omega) h2)
theorem risC_pair : ∀ {l : List Int} {p : Int} (_ : risC p l = true), l.Pairwise (· < ·) ∧ ∀ c ∈ l, p < c ∧ c ≤ 16
  | [], _, _ => by simp
  | d :: t, p, h => by
    rw [risC_cons] at h
    have ⟨h1, h2⟩ := risC_pair h.2.2
    refine ⟨List.pairwise_cons.2 ⟨fun c hc => (h2 c hc).1, h1⟩, fun c hc => ?_⟩
    rcases List.mem_cons.1 hc with rfl | hc
    · omega
    · have := h2 c hc; omega
theorem risC_of_pair : ∀ {l : List Int} {p : Int} (_ : l.Pairwise (· < ·)) (_ : ∀ c ∈ l, p < c ∧ c ≤ 16), risC p l = true
  | [], _, _, _ => rfl
  | d :: t, p, h, hb => by
    rw [List.pairwise_cons] at h
    have h0 := hb d (by simp)
    exact risC_cons.2 ⟨h0.1, h0.2, risC_of_pair h.2 (fun c hc => ⟨h.1 c hc, (hb c (by simp [hc])).2⟩)⟩
def mostA (k : Int) : Int := if k = 1 then 0 else if k = 4 then 1 else 16
/-- Whether an account may be. -/
def okA (x : Acct) : Prop := (1 ≤ x.id ∧ x.id ≤ 16) ∧ (1 ≤ x.member ∧ x.member ≤ 8) ∧ (1 ≤ x.kind ∧ x.kind ≤ 4) ∧ (x.clients.length : Int) ≤ mostA x.kind ∧ risC 0 x.clients = true
instance (x : Acct) : Decidable (okA x) := by unfold okA; infer_instance
def codeA (x : Acct) : Int := if okA x then 0 else 2
theorem codeA_yes {x : Acct} (h : okA x) : codeA x = 0 := if_pos h
theorem codeA_no {x : Acct} (h : ¬ okA x) : codeA x = 2 := if_neg h
/-- All parts. -/
def unitsA (x : Acct) : List Un := if x.kind = 1 then [⟨x.id, 0⟩] else x.clients.map (fun c => ⟨x.id, c⟩)
def hasA (x : Acct) (u : Un) : Bool := decide (u ∈ unitsA x)
def insC (l : List Int) (c : Int) : List Int := l.takeWhile (fun x => decide (x < c)) ++ c :: l.dropWhile (fun x => decide (x < c))
def bindC (x : Acct) (c : Int) : Int := if okA x then (if x.kind = 1 then 17 else if c < 1 ∨ 16 < c then 2 else if c ∈ x.clients then 12 else if mostA x.kind ≤ x.clients.length then 10 else 0) else 2
def bindA (x : Acct) (c : Int) : Acct := if bindC x c = 0 then ⟨x.id, x.member, x.kind, insC x.clients c⟩ else ⟨0, 0, 0, []⟩
/-- In a row that rises, what stands where a client would is it, or it is not there. -/
theorem at_mem {l : List Int} (hs : l.Pairwise (· < ·)) (c : Int) : atB (fun x => x == c) l (l.takeWhile (fun x => decide (x < c))).length = decide (c ∈ l) := by
  induction l with
  | nil => simp [atB]
  | cons d t ih =>
    rw [List.pairwise_cons] at hs
    by_cases h : d < c
    · rw [List.takeWhile_cons_of_pos (by simpa using h)]
      have h1 : ¬ c = d := by omega
      have := ih hs.2
      unfold atB at this ⊢
      simp only [List.length_cons, List.getElem?_cons_succ, this, List.mem_cons, h1, false_or]
    · rw [List.takeWhile_cons_of_neg (by simpa using h)]
      by_cases e : c = d
      · subst e; simp [atB]
      · have h2 : c ∉ t := fun hc => by have := hs.1 c hc; omega
        have h3 : ¬ d = c := fun h => e h.symm
        simp [atB, e, h2, h3]
theorem bind_room {x : Acct} (h : okA x) {c : Int} (hk : ¬ x.kind = 1) (hc : ¬ (c < 1 ∨ 16 < c)) (hn : c ∉ x.clients) : (mostA x.kind ≤ x.clients.length) ↔ (x.kind = 4 ∧ 0 < x.clients.length) := by
  obtain ⟨_, _, h3, h4, h5⟩ := h
  unfold mostA at h4 ⊢
  by_cases k4 : x.kind = 4
  · rw [if_neg hk, if_pos k4]
    constructor
    · intro h; exact ⟨k4, by omega⟩
    · intro h; omega
  · rw [if_neg hk, if_neg k4]
    constructor
    · intro h; exact absurd (risC_full h5 (by omega) (by omega) (by omega)) hn
    · intro h; exact absurd h.1 k4
theorem okA_len {x : Acct} (h : okA x) : x.clients.length ≤ 16 := by have := risC_len h.2.2.2.2 (by omega); omega
def findAcctV (l : List AcctV) (id : Int) : AcctV × Bool := match l.find? (fun m => m.id == id) with | some m => (m, true) | none => (⟨0, 0, 0, ⟨none, 0, []⟩⟩, false)
theorem findAcctV_hit {l : List AcctV} {id : Int} {k : Nat} (h : k < l.length) (hm : (l[k].id == id) = true) (hn : ∀ j (_ : j < l.length), j < k → (l[j].id == id) = false) : findAcctV l id = (l[k], true) := by
  have : l.find? (fun m => m.id == id) = some l[k] := by
    rw [List.find?_eq_some_iff_getElem]
    exact ⟨hm, k, h, rfl, fun j hj => by simp [hn j (by omega) hj]⟩
  simp [findAcctV, this]
theorem findAcctV_miss {l : List AcctV} {id : Int} (hn : ∀ j (_ : j < l.length), (l[j].id == id) = false) : findAcctV l id = (⟨0, 0, 0, ⟨none, 0, []⟩⟩, false) := by
  have : l.find? (fun m => m.id == id) = none := by
    rw [List.find?_eq_none]
    intro x hx
    obtain ⟨j, hj, rfl⟩ := List.mem_iff_getElem.1 hx
    simp [hn j hj]
  simp [findAcctV, this]
def insAcctV (l : List AcctV) (m : AcctV) : List AcctV := l.takeWhile (fun x => decide (x.id < m.id)) ++ m :: l.dropWhile (fun x => decide (x.id < m.id))
def putAcctVC (ob : Bool) (l : List AcctV) (m : AcctV) : Int := if ob then (if (findAcctV l m.id).2 then 12 else 0) else 2
def putAcctVL (ob : Bool) (l : List AcctV) (m : AcctV) : List AcctV := if ob = true ∧ (findAcctV l m.id).2 = false then insAcctV l m else []
def PutAcctVPost (ob : Bool) (w : World) (l : List AcctV) (m : AcctV) (e : Ending) (w' : World) : Prop :=
  ∃ v, e = .returned (.tuple #[v, .int .i64 (putAcctVC ob l m)]) ∧ Own w' w.heap.size 24 4 v ((putAcctVL ob l m).map encAcctV) ∧ Below w.heap.size w w'
theorem insAcctV_len (l : List AcctV) (m : AcctV) : (insAcctV l m).length = l.length + 1 := by
  unfold insAcctV
  have := congrArg List.length (List.takeWhile_append_dropWhile (p := fun x : AcctV => decide (x.id < m.id)) (l := l))
  simp only [List.length_append, List.length_cons] at this ⊢
  omega
theorem putAcctVL_len (ob : Bool) (l : List AcctV) (m : AcctV) : (putAcctVL ob l m).length ≤ l.length + 1 := by
  unfold putAcctVL
  split
  · rw [insAcctV_len]; omega
  · simp
def stepAcctV (okf : AcctV → Bool) (out : List AcctV) (m : AcctV) : List AcctV := if putAcctVC (okf m) out m = 0 then putAcctVL (okf m) out m else out
def tabAcctVN (okf : AcctV → Bool) (l : List AcctV) (k : Nat) : List AcctV := (l.take k).foldl (stepAcctV okf) []
theorem tabAcctVN_succ {okf : AcctV → Bool} {l : List AcctV} {k : Nat} (h : k < l.length) : tabAcctVN okf l (k + 1) = stepAcctV okf (tabAcctVN okf l k) l[k] := by
  unfold tabAcctVN
  rw [List.take_succ_eq_append_getElem h, List.foldl_append]
  rfl
theorem tabAcctVN_len (okf : AcctV → Bool) (l : List AcctV) : ∀ k, (tabAcctVN okf l k).length ≤ k
  | 0 => by simp [tabAcctVN]
  | k + 1 => by
    have ih := tabAcctVN_len okf l k
    rcases Nat.lt_or_ge k l.length with h | h
    · rw [tabAcctVN_succ h]; unfold stepAcctV; split
      · have := putAcctVL_len (okf l[k]) (tabAcctVN okf l k) l[k]; omega
      · omega
    · have : tabAcctVN okf l (k + 1) = tabAcctVN okf l k := by unfold tabAcctVN; rw [List.take_of_length_le (by omega), List.take_of_length_le h]
      rw [this]; omega
theorem tabAcctV_at {okf : AcctV → Bool} {l : List AcctV} {k n : Nat} (h : k = n ∨ (k ≤ n ∧ l.length ≤ k)) : tabAcctVN okf l k = tabAcctVN okf l n := by
  rcases h with rfl | ⟨h1, h2⟩
  · rfl
  · unfold tabAcctVN; rw [List.take_of_length_le h2, List.take_of_length_le (by omega)]
/-- Strictly by number. -/
def SortedAcctV (l : List AcctV) : Prop := l.Pairwise (fun a b => a.id < b.id)
theorem sorted_insAcctV {l : List AcctV} {m : AcctV} (hs : SortedAcctV l) (hn : (findAcctV l m.id).2 = false) : SortedAcctV (insAcctV l m) := by
  have hne : ∀ x ∈ l, x.id ≠ m.id := by
    intro x hx he
    unfold findAcctV at hn
    cases hf : l.find? (fun y => y.id == m.id) with
    | none => rw [List.find?_eq_none] at hf; exact hf x hx (by simp [he])
    | some y => rw [hf] at hn; cases hn
  unfold SortedAcctV at hs ⊢
  unfold insAcctV
  have hs' := hs
  rw [← List.takeWhile_append_dropWhile (p := fun x : AcctV => decide (x.id < m.id)) (l := l), List.pairwise_append] at hs'
  obtain ⟨h1, h2, h3⟩ := hs'
  rw [List.pairwise_append, List.pairwise_cons]
  refine ⟨h1, ⟨fun x hx => ?_, h2⟩, fun a ha b hb => ?_⟩
  · cases hd : l.dropWhile (fun x : AcctV => decide (x.id < m.id)) with
    | nil => rw [hd] at hx; cases hx
    | cons y t =>
      have hy : ¬ y.id < m.id := by
        have := List.head_dropWhile_not (p := fun x : AcctV => decide (x.id < m.id)) (l := l) (by rw [hd]; simp)
        simp [hd] at this; omega
      have hym : y ∈ l := (List.dropWhile_sublist (l := l) (p := fun x : AcctV => decide (x.id < m.id))).subset (by rw [hd]; simp)
      have := hne y hym
      rw [hd] at hx h2
      rcases List.mem_cons.1 hx with rfl | hx
      · omega
      · have := (List.pairwise_cons.1 h2).1 x hx; omega
  · rcases List.mem_cons.1 hb with rfl | hb
    · have := List.all_eq_true.1 (List.all_takeWhile (p := fun x : AcctV => decide (x.id < b.id)) (l := l)) a ha; simpa using this
    · exact h3 a ha b hb
theorem sorted_tabAcctVN (okf : AcctV → Bool) (l : List AcctV) : ∀ k, SortedAcctV (tabAcctVN okf l k)
  | 0 => by simp [tabAcctVN, SortedAcctV]
  | k + 1 => by
    have ih := sorted_tabAcctVN okf l k
    rcases Nat.lt_or_ge k l.length with h | h
    · rw [tabAcctVN_succ h]; unfold stepAcctV; split
      · rename_i hq
        unfold putAcctVL
        split
        · rename_i hh; exact sorted_insAcctV ih hh.2
        · exact List.Pairwise.nil
      · exact ih
    · have : tabAcctVN okf l (k + 1) = tabAcctVN okf l k := by unfold tabAcctVN; rw [List.take_of_length_le (by omega), List.take_of_length_le h]
      rw [this]; exact ih
def okAV (x : AcctV) : Bool := decide (okA (lgA x))
/-- A table with an account as it is now. -/
def setAL (ob : Bool) (l : List AcctV) (m : AcctV) : List AcctV := if ob = true ∧ (findAcctV l m.id).2 = true then l.map (fun x => if x.id == m.id then m else x) else []
def setAC (ob : Bool) (l : List AcctV) (m : AcctV) : Int := if ob then (if (findAcctV l m.id).2 then 0 else 11) else 2
def ofA (l : List AcctV) (mem : Int) : List AcctV := l.filter (fun x => x.member == mem)
def ownerA (l : List AcctV) (u : Un) : Int := match l.find? (fun x => hasA (lgA x) u) with | some x => x.member | none => 0
def lessU (a b : Un) : Bool := decide (a.acc < b.acc) || (a.acc == b.acc && decide (a.cli < b.cli))
end Go.Proofs.Ytemhhojenocddaa
