/- Joined: AcctT, Bigs, Leg, Vec1, Vec2. -/
import Derived.Test.YtiidplinmempcaaJz2
import Derived.Test.YtiidplinmempcaaJz6
import Derived.Test.YtiidplinmempcaaJz1
import Derived.Test.YtiidplinmempcaaJz4
import Derived.Outline
/- Accounts: the types; which may be, their parts; one more client. No program in sight. -/
namespace Go.Proofs.Ytiidplinmempcaa
open Go.RowKit
structure AcctV where
  id : Int
  member : Int
  kind : Int
  clients : SlOf Int
  deriving DecidableEq
def encAcctV (x : AcctV) : List Value := [.int .i64 x.id, .int .i64 x.member, .int .i64 x.kind, .slice x.clients.A x.clients.val.length x.clients.c]
def okAcctV (x : AcctV) : Prop := In64 x.id ∧ In64 x.member ∧ In64 x.kind
theorem rowsAcctV (l : List AcctV) : ∀ r ∈ l.map encAcctV, r.length = 4 ∧ ∀ u ∈ r, u.oneCell' = true := by
  intro r hr
  obtain ⟨m, _, rfl⟩ := List.mem_map.1 hr
  refine ⟨rfl, ?_⟩
  simp only [encAcctV, List.mem_cons, List.not_mem_nil, or_false, forall_eq_or_imp, forall_eq]
  exact ⟨rfl, rfl, rfl, rfl⟩
structure Acct where
  id : Int
  member : Int
  kind : Int
  clients : List Int
  deriving DecidableEq
/-- What it is, wherever its clients lie. -/
def lgA (x : AcctV) : Acct := ⟨x.id, x.member, x.kind, x.clients.val⟩
/-- Its clients are there. -/
def GoodA (w : World) (x : AcctV) : Prop := Rs w 1 (x.clients.val.map encI) x.clients.A x.clients.c
theorem GoodA.keep {w w' : World} {x : AcctV} (h : GoodA w x) (hb : Below w.heap.size w w') : GoodA w' x := Rs.keep h hb
/-- Clients rise strictly from p on, 16 at most. -/
def risC : Int → List Int → Bool
  | _, [] => true
  | p, c :: t => decide (p < c) && decide (c ≤ 16) && risC c t
theorem risC_cons {p c : Int} {t : List Int} : risC p (c :: t) = true ↔ p < c ∧ c ≤ 16 ∧ risC c t = true := by simp [risC, and_assoc]
theorem risC_no {p c : Int} {t : List Int} (h : c ≤ p ∨ 16 < c) : risC p (c :: t) = false := by
  cases hr : risC p (c :: t)
  · rfl
  · rw [risC_cons] at hr; omega
theorem risC_step {p c : Int} {t : List Int} (h : p < c) (h2 : c ≤ 16) : risC p (c :: t) = risC c t := by simp [risC, h, h2]
theorem risC_len : ∀ {l : List Int} {p : Int} (_ : risC p l = true) (_ : p ≤ 16), p + l.length ≤ 16
  | [], p, _, hp => by simpa using hp
  | c :: t, p, h, _ => by
    rw [risC_cons] at h
    have := risC_len h.2.2 h.2.1
    simp only [List.length_cons]; omega
/-- Where all there may be are, each is. -/
theorem risC_full : ∀ {l : List Int} {p : Int} (_ : risC p l = true) (_ : 16 ≤ p + l.length) {c : Int} (_ : p < c) (_ : c ≤ 16), c ∈ l
  | [], p, _, hf, c, h1, h2 => by simp at hf; omega
  | d :: t, p, h, hf, c, h1, h2 => by
    rw [risC_cons] at h
    have hb := risC_len h.2.2 h.2.1
    simp only [List.length_cons] at hf
    by_cases e : c = d
    · simp [e]
    · have hd : d = p + 1 := by omega
      exact List.mem_cons_of_mem _ (risC_full h.2.2 (by omega) (by omega) h2)
theorem risC_pair : ∀ {l : List Int} {p : Int} (_ : risC p l = true), l.Pairwise (· < ·) ∧ ∀ c ∈ l, p < c ∧ c ≤ 16
  | [], _, _ => by simp
  | d :: t, p, h => by
    rw [risC_cons] at h
    have ⟨h1, h2⟩ := risC_pair h.2.2
    refine ⟨List.pairwise_cons.2 ⟨fun c hc => (h2 c hc).1, h1⟩, fun c hc => ?_⟩
    rcases List.mem_cons.1 hc with rfl | hc
    · omega
    · have := h2 c hc; omega
theorem risC_of_pair : ∀ {l : List Int} {p : Int} (_ : l.Pairwise (· < ·)) (_ : ∀ c ∈ l, p < c ∧ c ≤ 16), risC p l = true
  | [], _, _, _ => rfl
  | d :: t, p, h, hb => by
    rw [List.pairwise_cons] at h
    have h0 := hb d (by simp)
    exact risC_cons.2 ⟨h0.1, h0.2, risC_of_pair h.2 (fun c hc => ⟨h.1 c hc, (hb c (by simp [hc])).2⟩)⟩
def mostA (k : Int) : Int := if k = 1 then 0 else if k = 4 then 1 else 16
/-- Whether an account may be. -/
def okAAc (x : Acct) : Prop := (1 ≤ x.id ∧ x.id ≤ 16) ∧ (1 ≤ x.member ∧ x.member ≤ 8) ∧ (1 ≤ x.kind ∧ x.kind ≤ 4) ∧ (x.clients.length : Int) ≤ mostA x.kind ∧ risC 0 x.clients = true
instance (x : Acct) : Decidable (okAAc x) := by unfold okAAc; infer_instance
def codeAAc (x : Acct) : Int := if okAAc x then 0 else 2
theorem codeA_yesAc {x : Acct} (h : okAAc x) : codeAAc x = 0 := if_pos h
theorem codeA_noAc {x : Acct} (h : ¬ okAAc x) : codeAAc x = 2 := if_neg h
/-- All parts. -/
def unitsA (x : Acct) : List Un := if x.kind = 1 then [⟨x.id, 0⟩] else x.clients.map (fun c => ⟨x.id, c⟩)
def hasA (x : Acct) (u : Un) : Bool := decide (u ∈ unitsA x)
def insCAc (l : List Int) (c : Int) : List Int := l.takeWhile (fun x => decide (x < c)) ++ c :: l.dropWhile (fun x => decide (x < c))
def bindC (x : Acct) (c : Int) : Int := if okAAc x then (if x.kind = 1 then 17 else if c < 1 ∨ 16 < c then 2 else if c ∈ x.clients then 12 else if mostA x.kind ≤ x.clients.length then 10 else 0) else 2
def bindA (x : Acct) (c : Int) : Acct := if bindC x c = 0 then ⟨x.id, x.member, x.kind, insCAc x.clients c⟩ else ⟨0, 0, 0, []⟩
/-- In a row that rises, what stands where a client would is it, or it is not there. -/
theorem at_mem {l : List Int} (hs : l.Pairwise (· < ·)) (c : Int) : atB (fun x => x == c) l (l.takeWhile (fun x => decide (x < c))).length = decide (c ∈ l) := by
  induction l with
  | nil => simp [atB]
  | cons d t ih =>
    rw [List.pairwise_cons] at hs
    by_cases h : d < c
    · rw [List.takeWhile_cons_of_pos (by simpa using h)]
      have h1 : ¬ c = d := by omega
      have := ih hs.2
      unfold atB at this ⊢
      simp only [List.length_cons, List.getElem?_cons_succ, this, List.mem_cons, h1, false_or]
    · rw [List.takeWhile_cons_of_neg (by simpa using h)]
      by_cases e : c = d
      · subst e; simp [atB]
      · have h2 : c ∉ t := fun hc => by have := hs.1 c hc; omega
        have h3 : ¬ d = c := fun h => e h.symm
        simp [atB, e, h2, h3]
theorem bind_room {x : Acct} (h : okAAc x) {c : Int} (hk : ¬ x.kind = 1) (hc : ¬ (c < 1 ∨ 16 < c)) (hn : c ∉ x.clients) : (mostA x.kind ≤ x.clients.length) ↔ (x.kind = 4 ∧ 0 < x.clients.length) := by
  obtain ⟨_, _, h3, h4, h5⟩ := h
  unfold mostA at h4 ⊢
  by_cases k4 : x.kind = 4
  · rw [if_neg hk, if_pos k4]
    constructor
    · intro h; exact ⟨k4, by omega⟩
    · intro h; omega
  · rw [if_neg hk, if_neg k4]
    constructor
    · intro h; exact absurd (risC_full h5 (by omega) (by omega) (by omega)) hn
    · intro h; exact absurd h.1 k4
theorem okA_len {x : Acct} (h : okAAc x) : x.clients.length ≤ 16 := by have := risC_len h.2.2.2.2 (by omega); omega
def findAcctV (l : List AcctV) (id : Int) : AcctV × Bool := match l.find? (fun m => m.id == id) with | some m => (m, true) | none => (⟨0, 0, 0, ⟨none, 0, []⟩⟩, false)
theorem findAcctV_hit {l : List AcctV} {id : Int} {k : Nat} (h : k < l.length) (hm : (l[k].id == id) = true) (hn : ∀ j (_ : j < l.length), j < k → (l[j].id == id) = false) : findAcctV l id = (l[k], true) := by
  have : l.find? (fun m => m.id == id) = some l[k] := by
    rw [List.find?_eq_some_iff_getElem]
    exact ⟨hm, k, h, rfl, fun j hj => by simp [hn j (by omega) hj]⟩
  simp [findAcctV, this]
theorem findAcctV_miss {l : List AcctV} {id : Int} (hn : ∀ j (_ : j < l.length), (l[j].id == id) = false) : findAcctV l id = (⟨0, 0, 0, ⟨none, 0, []⟩⟩, false) := by
  have : l.find? (fun m => m.id == id) = none := by
    rw [List.find?_eq_none]
    intro x hx
    obtain ⟨j, hj, rfl⟩ := List.mem_iff_getElem.1 hx
    simp [hn j hj]
  simp [findAcctV, this]
def insAcctV (l : List AcctV) (m : AcctV) : List AcctV := l.takeWhile (fun x => decide (x.id < m.id)) ++ m :: l.dropWhile (fun x => decide (x.id < m.id))
def putAcctVC (ob : Bool) (l : List AcctV) (m : AcctV) : Int := if ob then (if (findAcctV l m.id).2 then 12 else 0) else 2
def putAcctVL (ob : Bool) (l : List AcctV) (m : AcctV) : List AcctV := if ob = true ∧ (findAcctV l m.id).2 = false then insAcctV l m else []
def PutAcctVPost (ob : Bool) (w : World) (l : List AcctV) (m : AcctV) (e : Ending) (w' : World) : Prop :=
  ∃ v, e = .returned (.tuple #[v, .int .i64 (putAcctVC ob l m)]) ∧ Own w' w.heap.size 89 4 v ((putAcctVL ob l m).map encAcctV) ∧ Below w.heap.size w w'
theorem insAcctV_len (l : List AcctV) (m : AcctV) : (insAcctV l m).length = l.length + 1 := by
  unfold insAcctV
  have := congrArg List.length (List.takeWhile_append_dropWhile (p := fun x : AcctV => decide (x.id < m.id)) (l := l))
  simp only [List.length_append, List.length_cons] at this ⊢
  omega
theorem putAcctVL_len (ob : Bool) (l : List AcctV) (m : AcctV) : (putAcctVL ob l m).length ≤ l.length + 1 := by
  unfold putAcctVL
  split
  · rw [insAcctV_len]; omega
  · simp
def stepAcctV (okf : AcctV → Bool) (out : List AcctV) (m : AcctV) : List AcctV := if putAcctVC (okf m) out m = 0 then putAcctVL (okf m) out m else out
def tabAcctVN (okf : AcctV → Bool) (l : List AcctV) (k : Nat) : List AcctV := (l.take k).foldl (stepAcctV okf) []
theorem tabAcctVN_succ {okf : AcctV → Bool} {l : List AcctV} {k : Nat} (h : k < l.length) : tabAcctVN okf l (k + 1) = stepAcctV okf (tabAcctVN okf l k) l[k] := by
  unfold tabAcctVN
  rw [List.take_succ_eq_append_getElem h, List.foldl_append]
  rfl
theorem tabAcctVN_len (okf : AcctV → Bool) (l : List AcctV) : ∀ k, (tabAcctVN okf l k).length ≤ k
  | 0 => by simp [tabAcctVN]
  | k + 1 => by
    have ih := tabAcctVN_len okf l k
    rcases Nat.lt_or_ge k l.length with h | h
    · rw [tabAcctVN_succ h]; unfold stepAcctV; split
      · have := putAcctVL_len (okf l[k]) (tabAcctVN okf l k) l[k]; omega
      · omega
    · have : tabAcctVN okf l (k + 1) = tabAcctVN okf l k := by unfold tabAcctVN; rw [List.take_of_length_le (by omega), List.take_of_length_le h]
      rw [this]; omega
theorem tabAcctV_at {okf : AcctV → Bool} {l : List AcctV} {k n : Nat} (h : k = n ∨ (k ≤ n ∧ l.length ≤ k)) : tabAcctVN okf l k = tabAcctVN okf l n := by
  rcases h with rfl | ⟨h1, h2⟩
  · rfl
  · unfold tabAcctVN; rw [List.take_of_length_le h2, List.take_of_length_le (by omega)]
/-- Strictly by number. -/
def SortedAcctV (l : List AcctV) : Prop := l.Pairwise (fun a b => a.id < b.id)
theorem sorted_insAcctV {l : List AcctV} {m : AcctV} (hs : SortedAcctV l) (hn : (findAcctV l m.id).2 = false) : SortedAcctV (insAcctV l m) := by
  have hne : ∀ x ∈ l, x.id ≠ m.id := by
    intro x hx he
    unfold findAcctV at hn
    cases hf : l.find? (fun y => y.id == m.id) with
    | none => rw [List.find?_eq_none] at hf; exact hf x hx (by simp [he])
    | some y => rw [hf] at hn; cases hn
  unfold SortedAcctV at hs ⊢
  unfold insAcctV
  have hs' := hs
  rw [← List.takeWhile_append_dropWhile (p := fun x : AcctV => decide (x.id < m.id)) (l := l), List.pairwise_append] at hs'
  obtain ⟨h1, h2, h3⟩ := hs'
  rw [List.pairwise_append, List.pairwise_cons]
  refine ⟨h1, ⟨fun x hx => ?_, h2⟩, fun a ha b hb => ?_⟩
  · cases hd : l.dropWhile (fun x : AcctV => decide (x.id < m.id)) with
    | nil => rw [hd] at hx; cases hx
    | cons y t =>
      have hy : ¬ y.id < m.id := by
        have := List.head_dropWhile_not (p := fun x : AcctV => decide (x.id < m.id)) (l := l) (by rw [hd]; simp)
        simp [hd] at this; omega
      have hym : y ∈ l := (List.dropWhile_sublist (l := l) (p := fun x : AcctV => decide (x.id < m.id))).subset (by rw [hd]; simp)
      have := hne y hym
      rw [hd] at hx h2
      rcases List.mem_cons.1 hx with rfl | hx
      · omega
      · have := (List.pairwise_cons.1 h2).1 x hx; omega
  · rcases List.mem_cons.1 hb with rfl | hb
    · have := List.all_eq_true.1 (List.all_takeWhile (p := fun x : AcctV => decide (x.id < b.id)) (l := l)) a ha; simpa using this
    · exact h3 a ha b hb
theorem sorted_tabAcctVN (okf : AcctV → Bool) (l : List AcctV) : ∀ k, SortedAcctV (tabAcctVN okf l k)
  | 0 => by simp [tabAcctVN, SortedAcctV]
  | k + 1 => by
    have ih := sorted_tabAcctVN okf l k
    rcases Nat.lt_or_ge k l.length with h | h
    · rw [tabAcctVN_succ h]; unfold stepAcctV; split
      · rename_i hq
        unfold putAcctVL
        split
        · rename_i hh; exact sorted_insAcctV ih hh.2
        · exact List.Pairwise.nil
      · exact ih
    · have : tabAcctVN okf l (k + 1) = tabAcctVN okf l k := by unfold tabAcctVN; rw [List.take_of_length_le (by omega), List.take_of_length_le h]
      rw [this]; exact ih
def okAV (x : AcctV) : Bool := decide (okAAc (lgA x))
/-- A table with an account as it is now. -/
def setAL (ob : Bool) (l : List AcctV) (m : AcctV) : List AcctV := if ob = true ∧ (findAcctV l m.id).2 = true then l.map (fun x => if x.id == m.id then m else x) else []
def setAC (ob : Bool) (l : List AcctV) (m : AcctV) : Int := if ob then (if (findAcctV l m.id).2 then 0 else 11) else 2
def ofA (l : List AcctV) (mem : Int) : List AcctV := l.filter (fun x => x.member == mem)
def ownerA (l : List AcctV) (u : Un) : Int := match l.find? (fun x => hasA (lgA x) u) with | some x => x.member | none => 0
end Go.Proofs.Ytiidplinmempcaa

/- Slices of the reference's whole numbers, read or owned. -/
namespace Go.Proofs.Ytiidplinmempcaa
open Go.RowKit
/-- A value that is a whole number. -/
def BigV (w : World) (L : Nat) (v : Value) (n : Int) : Prop := ∃ s A l c, v = .agg #[.bool s, .slice A l.length c] ∧ IsBig w n s A l c ∧ l.length ≤ L
theorem BigV.keep {w w' : World} {L : Nat} {v : Value} {n : Int} (h : BigV w L v n) (hb : Below w.heap.size w w') : BigV w' L v n := by
  obtain ⟨s, A, l, c, h1, h2, h3⟩ := h
  exact ⟨s, A, l, c, h1, h2.keep hb, h3⟩
theorem BigV.mono {w : World} {L M : Nat} {v : Value} {n : Int} (h : BigV w L v n) (hL : L ≤ M) : BigV w M v n := by
  obtain ⟨s, A, l, c, h1, h2, h3⟩ := h
  exact ⟨s, A, l, c, h1, h2, by omega⟩
theorem isBig_zero (w : World) : IsBig w 0 false none [] 0 := ⟨fun i r hr => by simp at hr, bit_nil, top_nil, rfl, by simp, by simp, rfl⟩
theorem BigV.zero (w : World) (L : Nat) : BigV w L (.agg #[.bool false, .slice none 0 0]) 0 := ⟨false, none, [], 0, rfl, isBig_zero w, by simp⟩
/-- Two cells that hold a whole number. -/
def BigR (w : World) (L : Nat) (r : List Value) (n : Int) : Prop := ∃ s A l c, r = [.bool s, .slice A l.length c] ∧ IsBig w n s A l c ∧ l.length ≤ L
theorem BigR.keep {w w' : World} {L : Nat} {v : List Value} {n : Int} (h : BigR w L v n) (hb : Below w.heap.size w w') : BigR w' L v n := by
  obtain ⟨s, A, l, c, h1, h2, h3⟩ := h
  exact ⟨s, A, l, c, h1, h2.keep hb, h3⟩
theorem BigR.mono {w : World} {L M : Nat} {v : List Value} {n : Int} (h : BigR w L v n) (hL : L ≤ M) : BigR w M v n := by
  obtain ⟨s, A, l, c, h1, h2, h3⟩ := h
  exact ⟨s, A, l, c, h1, h2, by omega⟩
theorem BigR.far {w : World} {L : Nat} {r : List Value} {n : Int} (h : BigR w L r n) {p : Addr} {v0 : Value} (hp : w.cell? p = some v0) (hne : ∀ k x, v0 ≠ .int k x) (u : Value) : BigR (w.setCell p u) L r n := by
  obtain ⟨s, A, l, c, h1, h2, h3⟩ := h
  exact ⟨s, A, l, c, h1, h2.far hp hne u, h3⟩
/-- A slice of the call's own of whole numbers. -/
def OwnB (w : World) (base L : Nat) (v : Value) (ns : List Int) : Prop := ∃ rows, Each (BigR w L) rows ns ∧ Own w base 34 2 v rows
theorem OwnB.keep {w w' : World} {base L : Nat} {v : Value} {ns : List Int} (h : OwnB w base L v ns) (hb : Below w.heap.size w w') : OwnB w' base L v ns := by
  obtain ⟨rows, h1, h2⟩ := h
  exact ⟨rows, h1.imp fun _ _ h => h.keep hb, h2.keep hb⟩
theorem OwnB.mono {w : World} {base b L M : Nat} {v : Value} {ns : List Int} (h : OwnB w base L v ns) (hb : b ≤ base) (hL : L ≤ M) : OwnB w b M v ns := by
  obtain ⟨rows, h1, h2⟩ := h
  exact ⟨rows, h1.imp fun _ _ h => h.mono hL, h2.mono hb⟩
theorem OwnB.at {w : World} {base L : Nat} {g n c : Nat} {ns : List Int} (h : OwnB w base L (.slice (some ⟨g, 0, none⟩) n c) ns) {i : Nat} {x : Int} (hx : ns[i]? = some x) :
    ∃ s A l d, w.cell? ⟨g, i * 2, none⟩ = some (.bool s) ∧ w.cell? ⟨g, i * 2 + 1, none⟩ = some (.slice A l.length d) ∧ IsBig w x s A l d ∧ l.length ≤ L := by
  obtain ⟨rows, h1, h2⟩ := h
  obtain ⟨hi, rfl⟩ := List.getElem?_eq_some_iff.1 hx
  obtain ⟨r, hr, s, A, l, d, rfl, hB, hl⟩ := h1.get hi
  obtain ⟨b, o, hA, hb, hc⟩ := h2.rd.1 i _ hr
  injection hA with hA
  injection hA with e1 e2 _
  subst e1 e2
  have c0 := hc 0 _ rfl
  have c1 := hc 1 _ rfl
  simp only [Nat.zero_add, Nat.add_zero] at c0 c1
  exact ⟨s, A, l, d, c0, c1, hB, hl⟩
theorem OwnB.len {w : World} {base L : Nat} {A : Option Addr} {n c : Nat} {ns : List Int} (h : OwnB w base L (.slice A n c) ns) : n = ns.length ∧ n ≤ c ∧ c ≤ maxLen := by
  obtain ⟨rows, h1, h2⟩ := h
  have h3 := h2.rd
  exact ⟨h3.2.1.trans h1.len, by omega, h3.2.2.2⟩
theorem OwnB.frozen {w : World} {base L : Nat} {g n c : Nat} {ns : List Int} (h : OwnB w base L (.slice (some ⟨g, 0, none⟩) n c) ns) : (∀ i, w.frozen? ⟨g, i, none⟩ = false) ∧ base ≤ g ∧ g < w.heap.size := by
  obtain ⟨rows, h1, h2⟩ := h
  obtain ⟨cur, hk⟩ := h2.blk rfl
  have h3 := h2.block g rfl
  exact ⟨fun i => hk.frozen i, h3⟩
/-- A store of a whole number at place i. -/
theorem OwnB.store {w : World} {base L M : Nat} {g n c : Nat} {ns : List Int} (h : OwnB w base L (.slice (some ⟨g, 0, none⟩) n c) ns) {i : Nat} (hi : i < ns.length) {s : Bool} {A : Option Addr} {l : List Int} {d : Nat} {x : Int} (hB : IsBig w x s A l d) (hl : l.length ≤ M) (hL : L ≤ M) :
    OwnB ((w.setCell ⟨g, i * 2, none⟩ (.bool s)).setCell ⟨g, i * 2 + 1, none⟩ (.slice A l.length d)) base M (.slice (some ⟨g, 0, none⟩) n c) (ns.set i x) := by
  obtain ⟨s0, A0, l0, d0, c0, c1, _, _⟩ := h.at (List.getElem?_eq_getElem hi)
  obtain ⟨rows, h1, h2⟩ := h
  have hi' : i < rows.length := by rw [h1.len]; exact hi
  have hr := h2.1 _ (List.getElem_mem hi')
  obtain ⟨p, q, he⟩ : ∃ p q, rows[i] = [p, q] := by
    match h4 : rows[i], hr with
    | [p, q], _ => exact ⟨p, q, rfl⟩
  have k1 := h2.put rfl (List.getElem?_eq_getElem hi') (show 0 < 2 from by omega) (.bool s)
  have k2 := k1.put rfl (List.getElem?_set_self (by simpa using hi')) (show 1 < 2 from by omega) (.slice A l.length d)
  simp only [List.set_set, he, List.set_cons_zero, List.set_cons_succ, Nat.add_zero] at k2
  have c1' : (w.setCell ⟨g, i * 2, none⟩ (.bool s)).cell? ⟨g, i * 2 + 1, none⟩ = some (.slice A0 l0.length d0) := by
    rw [World.cell?_setCell_other _ _ _ _ (by intro e; injection e with _ e _; omega)]; exact c1
  refine ⟨_, ⟨by rw [List.length_set, List.length_set, h1.len], fun j a b ha hb => ?_⟩, k2⟩
  rw [List.getElem?_set] at ha hb
  split at ha
  · rename_i e
    subst e
    try rw [if_pos hi'] at ha
    rw [if_pos rfl, if_pos hi] at hb
    injection ha with ha
    injection hb with hb
    subst ha hb
    exact ⟨s, A, l, d, rfl, (hB.far c0 (by simp) _).far c1' (by simp) _, hl⟩
  · rename_i e
    rw [if_neg e] at hb
    exact (((h1.pt j a b ha hb).far c0 (by simp) _).far c1' (by simp) _).mono hL
/-- Noughts, made as a literal. -/
theorem ownB_zeros (w : World) (n : Nat) (hn : n ≤ maxLen) (cs : Array Value) (hcs : cs = ((List.replicate n [Value.bool false, .slice none 0 0]).flatten).toArray) {base : Nat} (hb : base ≤ w.heap.size) (L : Nat) :
    OwnB (w.alloc (.cells cs 34)) base L (.slice (some ⟨w.heap.size, 0, none⟩) n n) (List.replicate n 0) := by
  have hall : ∀ r ∈ List.replicate n [Value.bool false, .slice none 0 0], r.length = 2 := by
    intro r hr; rw [List.eq_of_mem_replicate hr]; rfl
  refine ⟨List.replicate n [.bool false, .slice none 0 0], ⟨by simp, fun i a b h1 h2 => ?_⟩, hall, ?_, .inr ⟨w.heap.size, n, cs, by simp, hb, heap_alloc_new w _, by simp, hn, ?_, ?_⟩⟩
  · have e1 := List.eq_of_mem_replicate (List.mem_of_getElem? h1)
    have e2 := List.eq_of_mem_replicate (List.mem_of_getElem? h2)
    subst e1 e2
    exact ⟨false, none, [], 0, rfl, isBig_zero _, by simp⟩
  · rw [flatten_length hall]
  · rw [hcs]; simp only [List.size_toArray]; rw [flatten_length hall]; simp
  · rw [hcs]
    simp only []
    rw [List.take_of_length_le]
    rw [flatten_length hall]; exact Nat.le_refl _
end Go.Proofs.Ytiidplinmempcaa

/- Legs: contracts of vec.Is, Get, the reference's Is, Get. -/
namespace Go.Proofs.Ytiidplinmempcaa
open Go.RowKit
structure Leg where
  inst : Int
  qty : Int
  deriving DecidableEq
def encLeg (x : Leg) : List Value := [.int .i64 x.inst, .int .i64 x.qty]
def okLeg (x : Leg) : Prop := In64 x.inst ∧ In64 x.qty
theorem rowsLeg (l : List Leg) : ∀ r ∈ l.map encLeg, r.length = 2 ∧ ∀ u ∈ r, u.oneCell' = true := by
  intro r hr
  obtain ⟨m, _, rfl⟩ := List.mem_map.1 hr
  refine ⟨rfl, ?_⟩
  simp only [encLeg, List.mem_cons, List.not_mem_nil, or_false, forall_eq_or_imp, forall_eq]
  exact ⟨rfl, rfl⟩
theorem encLeg_inj {x y : Leg} (h : encLeg x = encLeg y) : x = y := by
  unfold encLeg at h
  simp only [List.cons.injEq, Value.int.injEq, and_true, true_and] at h
  obtain ⟨h0, h1⟩ := h
  obtain ⟨xinst, xqty⟩ := x
  obtain ⟨yinst, yqty⟩ := y
  simp only at h0 h1
  subst h0 h1
  rfl
theorem neqLeg {x y : Leg} (h : x ≠ y) : ((x.inst == y.inst) = false) ∨ ((x.qty == y.qty) = false) := by
  cases h0 : (x.inst == y.inst)
  · simp
  cases h1 : (x.qty == y.qty)
  · simp
  · exfalso
    apply h
    obtain ⟨xinst, xqty⟩ := x
    obtain ⟨yinst, yqty⟩ := y
    simp_all
theorem elLeg : Elem Try.prog 23 116 2 16 := elem_of Try.underlying23 (z := .agg #[.int .i64 0, .int .i64 0]) (by kernel_rfl) rfl (by omega)
def isF : Int → List Leg → Bool
  | _, [] => true
  | a, x :: l => decide (a < x.inst) && decide (x.inst ≤ 8) && decide (x.qty ≠ 0) && isF x.inst l
def getF (i : Int) : List Leg → Int
  | [] => 0
  | x :: l => if x.inst = i then x.qty else getF i l
def isV (l : List Leg) : Bool := isF 0 l
theorem isF_yes {a : Int} {x : Leg} {l : List Leg} (h1 : a < x.inst ∧ x.inst ≤ 8) (h3 : (x.qty == 0) = false) : isF a (x :: l) = isF x.inst l := by
  have : x.qty ≠ 0 := by simpa using h3
  simp [isF, h1.1, h1.2, this]
theorem isF_no {a : Int} {x : Leg} {l : List Leg} (h1 : ¬ (a < x.inst ∧ x.inst ≤ 8)) : isF a (x :: l) = false := by
  simp only [isF, Bool.and_eq_false_iff, decide_eq_false_iff_not]
  omega
theorem isF_no0 {a : Int} {x : Leg} {l : List Leg} (h3 : (x.qty == 0) = true) : isF a (x :: l) = false := by
  have : x.qty = 0 := by simpa using h3
  simp [isF, this]
set_option maxRecDepth 100000 in
set_option maxHeartbeats 1000000 in
theorem vecIs (l : List Leg) (A : Option Addr) (c : Nat) (w : World) (hl : l.length ≤ 1099511627776) (hr : Rd w A 2 (l.map encLeg)) :
    Calls Try.prog 71 #[.slice A l.length c] w fun e w' => e = .returned (.bool (isV l)) ∧ Below w.heap.size w w' := by
  have HR := Lib.hid hr
  clear hr
  go_enter Try.func71, Try.ntmps71
  go_wp2_with fail
  go_loopw [3, 8] (fun a i wr => ∃ (k : Nat) (x : Int), k ≤ l.length ∧ i = .int .i64 k ∧ a = .int .i64 x ∧ isV l = isF x (l.drop k) ∧ Below w.heap.size w wr) (fun _ i _ => l.length - (intOf i).toNat)
  case atStart => exact ⟨0, 0, Nat.zero_le _, rfl, rfl, rfl, Below.refl _ _⟩
  case round =>
    obtain ⟨k, x, hk, rfl, rfl, hv, hbl⟩ := hrel
    have Hbl := Lib.hid hbl
    have HV := Lib.hid hv
    have hz := hbl.size
    clear hbl hv
    by_cases hlt : k < l.length
    · obtain ⟨be, oe, rfl, hbe, hqe⟩ := HR.out k (encLeg l[k]) (by simp [hlt])
      replace hqe := fun j v hv => (Hbl.out.cell (p := ⟨be, oe + k * 2 + j, none⟩) hbe).trans (hqe j v hv)
      have e0 := hqe 0 _ rfl
      have e1 := hqe 1 _ rfl
      simp only [Nat.add_zero] at e0
      clear hqe
      have HD := Lib.hid (drop_cons' hlt)
      cases hq : (l[k].qty == 0)
      · by_cases hg : x < l[k].inst ∧ l[k].inst ≤ 8
        · have HN := Lib.hid (isF_yes (l := l.drop (k + 1)) hg hq)
          go_wp2_with fail
          go_roundw
          case rel => exact ⟨k + 1, _, by omega, by go_num, rfl, by rw [HV.out, HD.out, HN.out], by have hbl := Hbl.out; (repeat' (first | (with_reducible exact Below.refl _ _) | (with_reducible assumption) | (with_reducible refine Below.alloc ?_ ?_ _) | (with_reducible refine Below.setCell ?_ ?_ _) | (with_reducible refine Below.drew ?_) | (with_reducible refine below_drewN ?_ _) | (with_reducible refine below_via ?_ (by with_reducible assumption) ?_) | omega | (simp; done) | (simp; omega)))⟩
          case measure => simp [intOf]; omega
        · have HN := Lib.hid (isF_no (l := l.drop (k + 1)) hg)
          go_wp2_with fail
          all_goals
            go_ret
            exact ⟨by rw [HV.out, HD.out, HN.out]; first | done | rfl, by (have hbl := Hbl.out; (repeat' (first | (with_reducible exact Below.refl _ _) | (with_reducible assumption) | (with_reducible refine Below.alloc ?_ ?_ _) | (with_reducible refine Below.setCell ?_ ?_ _) | (with_reducible refine Below.drew ?_) | (with_reducible refine below_drewN ?_ _) | (with_reducible refine below_via ?_ (by with_reducible assumption) ?_) | omega | (simp; done) | (simp; omega))))⟩
      · have HN := Lib.hid (isF_no0 (a := x) (l := l.drop (k + 1)) hq)
        go_wp2_with fail
        all_goals
          go_ret
          exact ⟨by rw [HV.out, HD.out, HN.out]; first | done | rfl, by (have hbl := Hbl.out; (repeat' (first | (with_reducible exact Below.refl _ _) | (with_reducible assumption) | (with_reducible refine Below.alloc ?_ ?_ _) | (with_reducible refine Below.setCell ?_ ?_ _) | (with_reducible refine Below.drew ?_) | (with_reducible refine below_drewN ?_ _) | (with_reducible refine below_via ?_ (by with_reducible assumption) ?_) | omega | (simp; done) | (simp; omega))))⟩
    · have HD := Lib.hid (drop_all (l := l) (k := k) (by omega))
      go_wp2_with fail
      go_ret
      exact ⟨by rw [HV.out, HD.out]; rfl, Hbl.out⟩
set_option maxRecDepth 100000 in
set_option maxHeartbeats 1000000 in
theorem vecGet (l : List Leg) (id : Int) (A : Option Addr) (c : Nat) (w : World) (hl : l.length ≤ 1099511627776) (hr : Rd w A 2 (l.map encLeg)) :
    Calls Try.prog 104 #[.slice A l.length c, .int .i64 id] w fun e w' => e = .returned (.int .i64 (getF id l)) ∧ Below w.heap.size w w' := by
  have HR := Lib.hid hr
  clear hr
  go_enter Try.func104, Try.ntmps104
  go_wp2_with fail
  go_loopw [9] (fun i wr => ∃ k : Nat, k ≤ l.length ∧ i = .int .i64 k ∧ getF id l = getF id (l.drop k) ∧ Below w.heap.size w wr) (fun i _ => l.length - (intOf i).toNat)
  case atStart => exact ⟨0, Nat.zero_le _, rfl, rfl, Below.refl _ _⟩
  case round =>
    obtain ⟨k, hk, rfl, hv, hbl⟩ := hrel
    have Hbl := Lib.hid hbl
    have HV := Lib.hid hv
    have hz := hbl.size
    clear hbl hv
    by_cases hlt : k < l.length
    · obtain ⟨be, oe, rfl, hbe, hqe⟩ := HR.out k (encLeg l[k]) (by simp [hlt])
      replace hqe := fun j v hv => (Hbl.out.cell (p := ⟨be, oe + k * 2 + j, none⟩) hbe).trans (hqe j v hv)
      have e0 := hqe 0 _ rfl
      have e1 := hqe 1 _ rfl
      simp only [Nat.add_zero] at e0
      clear hqe
      have HD := Lib.hid (drop_cons' hlt)
      cases hq : (l[k].inst == id)
      · have HN := Lib.hid (show getF id (l[k] :: l.drop (k + 1)) = getF id (l.drop (k + 1)) from by rw [getF, if_neg (by simpa using hq)])
        go_wp2_with fail
        go_roundw
        case rel => exact ⟨k + 1, by omega, by go_num, by rw [HV.out, HD.out, HN.out], by (have hbl := Hbl.out; (repeat' (first | (with_reducible exact Below.refl _ _) | (with_reducible assumption) | (with_reducible refine Below.alloc ?_ ?_ _) | (with_reducible refine Below.setCell ?_ ?_ _) | (with_reducible refine Below.drew ?_) | (with_reducible refine below_drewN ?_ _) | (with_reducible refine below_via ?_ (by with_reducible assumption) ?_) | omega | (simp; done) | (simp; omega))))⟩
        case measure => simp [intOf]; omega
      · have HN := Lib.hid (show getF id (l[k] :: l.drop (k + 1)) = l[k].qty from by rw [getF, if_pos (by simpa using hq)])
        go_wp2_with fail
        go_ret
        exact ⟨by rw [HV.out, HD.out, HN.out]; first | done | rfl, by (have hbl := Hbl.out; (repeat' (first | (with_reducible exact Below.refl _ _) | (with_reducible assumption) | (with_reducible refine Below.alloc ?_ ?_ _) | (with_reducible refine Below.setCell ?_ ?_ _) | (with_reducible refine Below.drew ?_) | (with_reducible refine below_drewN ?_ _) | (with_reducible refine below_via ?_ (by with_reducible assumption) ?_) | omega | (simp; done) | (simp; omega))))⟩
    · have HD := Lib.hid (drop_all (l := l) (k := k) (by omega))
      go_wp2_with fail
      go_ret
      exact ⟨by rw [HV.out, HD.out]; rfl, Hbl.out⟩
set_option maxRecDepth 100000 in
set_option maxHeartbeats 1000000 in
theorem refGet11 (l : List Leg) (id : Int) (A : Option Addr) (c : Nat) (w : World) (hl : l.length ≤ 1099511627776) (hr : Rd w A 2 (l.map encLeg)) :
    Calls Try.prog 84 #[.slice A l.length c, .int .i64 id] w fun e w' => e = .returned (.int .i64 (getF id l)) ∧ Below w.heap.size w w' := by
  have HR := Lib.hid hr
  clear hr
  go_enter Try.func84, Try.ntmps84
  go_wp2_with fail
  go_loopw [5] (fun i wr => ∃ k : Nat, k ≤ l.length ∧ i = .int .i64 k ∧ getF id l = getF id (l.drop k) ∧ Below w.heap.size w wr) (fun i _ => l.length - (intOf i).toNat)
  case atStart => exact ⟨0, Nat.zero_le _, rfl, rfl, Below.refl _ _⟩
  case round =>
    obtain ⟨k, hk, rfl, hv, hbl⟩ := hrel
    have Hbl := Lib.hid hbl
    have HV := Lib.hid hv
    have hz := hbl.size
    clear hbl hv
    by_cases hlt : k < l.length
    · obtain ⟨be, oe, rfl, hbe, hqe⟩ := HR.out k (encLeg l[k]) (by simp [hlt])
      replace hqe := fun j v hv => (Hbl.out.cell (p := ⟨be, oe + k * 2 + j, none⟩) hbe).trans (hqe j v hv)
      have e0 := hqe 0 _ rfl
      have e1 := hqe 1 _ rfl
      simp only [Nat.add_zero] at e0
      clear hqe
      have HD := Lib.hid (drop_cons' hlt)
      cases hq : (l[k].inst == id)
      · have HN := Lib.hid (show getF id (l[k] :: l.drop (k + 1)) = getF id (l.drop (k + 1)) from by rw [getF, if_neg (by simpa using hq)])
        go_wp2_with fail
        go_roundw
        case rel => exact ⟨k + 1, by omega, by go_num, by rw [HV.out, HD.out, HN.out], by (have hbl := Hbl.out; (repeat' (first | (with_reducible exact Below.refl _ _) | (with_reducible assumption) | (with_reducible refine Below.alloc ?_ ?_ _) | (with_reducible refine Below.setCell ?_ ?_ _) | (with_reducible refine Below.drew ?_) | (with_reducible refine below_drewN ?_ _) | (with_reducible refine below_via ?_ (by with_reducible assumption) ?_) | omega | (simp; done) | (simp; omega))))⟩
        case measure => simp [intOf]; omega
      · have HN := Lib.hid (show getF id (l[k] :: l.drop (k + 1)) = l[k].qty from by rw [getF, if_pos (by simpa using hq)])
        go_wp2_with fail
        go_ret
        exact ⟨by rw [HV.out, HD.out, HN.out]; first | done | rfl, by (have hbl := Hbl.out; (repeat' (first | (with_reducible exact Below.refl _ _) | (with_reducible assumption) | (with_reducible refine Below.alloc ?_ ?_ _) | (with_reducible refine Below.setCell ?_ ?_ _) | (with_reducible refine Below.drew ?_) | (with_reducible refine below_drewN ?_ _) | (with_reducible refine below_via ?_ (by with_reducible assumption) ?_) | omega | (simp; done) | (simp; omega))))⟩
    · have HD := Lib.hid (drop_all (l := l) (k := k) (by omega))
      go_wp2_with fail
      go_ret
      exact ⟨by rw [HV.out, HD.out]; rfl, Hbl.out⟩
theorem isF_bad {a : Int} {x : Leg} {l : List Leg} (h : ¬ a < x.inst ∨ 8 < x.inst ∨ (x.qty == 0) = true) : isF a (x :: l) = false := by
  rcases h with h | h | h
  · exact isF_no (by omega)
  · exact isF_no (by omega)
  · exact isF_no0 h
set_option maxRecDepth 100000 in
set_option maxHeartbeats 4000000 in
theorem refIs11 (l : List Leg) (A : Option Addr) (c : Nat) (w : World) (hl : l.length ≤ 1099511627776) (hr : Rd w A 2 (l.map encLeg)) :
    Calls Try.prog 76 #[.slice A l.length c] w fun e w' => e = .returned (.bool (isV l)) ∧ Below w.heap.size w w' := by
  have HR := Lib.hid hr
  clear hr
  go_enter Try.func76, Try.ntmps76
  go_wp2_with fail
  go_loopw [3] (fun i wr => ∃ (k : Nat) (x : Int), k ≤ l.length ∧ i = .int .i64 k ∧ isV l = isF x (l.drop k) ∧ Below w.heap.size w wr ∧ (k = 0 ∧ x = 0 ∨ 0 < k ∧ x = (l.getD (k - 1) ⟨0, 0⟩).inst ∧ 1 ≤ x)) (fun i _ => l.length - (intOf i).toNat)
  case atStart => exact ⟨0, 0, Nat.zero_le _, rfl, rfl, Below.refl _ _, .inl ⟨rfl, rfl⟩⟩
  case round =>
    obtain ⟨k, x, hk, rfl, hv, hbl, hx⟩ := hrel
    have Hbl := Lib.hid hbl
    have HV := Lib.hid hv
    have hz := hbl.size
    clear hbl hv
    by_cases hlt : k < l.length
    · obtain ⟨be, oe, rfl, hbe, hqe⟩ := HR.out k (encLeg l[k]) (by simp [hlt])
      replace hqe := fun j v hv => (Hbl.out.cell (p := ⟨be, oe + k * 2 + j, none⟩) hbe).trans (hqe j v hv)
      have e0 := hqe 0 _ rfl
      have e1 := hqe 1 _ rfl
      simp only [Nat.add_zero] at e0
      clear hqe
      have HD := Lib.hid (drop_cons' hlt)
      have WK := Lib.hid (show IntKind.i64.wrap ((k : Int) - 1) = (k : Int) - 1 from IntWalk.i64_in _ (by omega))
      have TK := Lib.hid (show ((k : Int) - 1).toNat = k - 1 from by omega)
      rcases hx with ⟨k0, hx⟩ | ⟨k0, hx, x1⟩
      · have g0 : decide (0 < k) = false := by simp; omega
        have K0 := Lib.hid k0
        have X0 := Lib.hid hx
        have x0 : 0 ≤ x ∧ x ≤ 0 := by omega
        clear k0 hx
        by_cases t0 : l[k].inst < 1
        · have d0 := decide_eq_true t0
          have HN := Lib.hid (isF_bad (a := x) (x := l[k]) (l := l.drop (k + 1)) (by first | (left; omega) | (right; left; omega) | (right; right; assumption)))
          have wk := WK.out
          have tk := TK.out
          go_wp2_with fail
          go_quiet (fail)
          clear wk tk
          go_wp2_with fail
          go_ret
          exact ⟨by rw [HV.out, HD.out, HN.out]; first | done | rfl, by (have hbl := Hbl.out; (repeat' (first | (with_reducible exact Below.refl _ _) | (with_reducible assumption) | (with_reducible refine Below.alloc ?_ ?_ _) | (with_reducible refine Below.setCell ?_ ?_ _) | (with_reducible refine Below.drew ?_) | (with_reducible refine below_drewN ?_ _) | (with_reducible refine below_via ?_ (by with_reducible assumption) ?_) | omega | (simp; done) | (simp; omega))))⟩
        have d0 := decide_eq_false t0
        by_cases t1 : 8 < l[k].inst
        · have d1 := decide_eq_true t1
          have HN := Lib.hid (isF_bad (a := x) (x := l[k]) (l := l.drop (k + 1)) (by first | (left; omega) | (right; left; omega) | (right; right; assumption)))
          have wk := WK.out
          have tk := TK.out
          go_wp2_with fail
          go_quiet (fail)
          clear wk tk
          go_wp2_with fail
          go_ret
          exact ⟨by rw [HV.out, HD.out, HN.out]; first | done | rfl, by (have hbl := Hbl.out; (repeat' (first | (with_reducible exact Below.refl _ _) | (with_reducible assumption) | (with_reducible refine Below.alloc ?_ ?_ _) | (with_reducible refine Below.setCell ?_ ?_ _) | (with_reducible refine Below.drew ?_) | (with_reducible refine below_drewN ?_ _) | (with_reducible refine below_via ?_ (by with_reducible assumption) ?_) | omega | (simp; done) | (simp; omega))))⟩
        have d1 := decide_eq_false t1
        cases t2 : (l[k].qty == 0)
        rotate_left
        · have HN := Lib.hid (isF_bad (a := x) (x := l[k]) (l := l.drop (k + 1)) (by first | (left; omega) | (right; left; omega) | (right; right; assumption)))
          have wk := WK.out
          have tk := TK.out
          go_wp2_with fail
          go_quiet (fail)
          clear wk tk
          go_wp2_with fail
          go_ret
          exact ⟨by rw [HV.out, HD.out, HN.out]; first | done | rfl, by (have hbl := Hbl.out; (repeat' (first | (with_reducible exact Below.refl _ _) | (with_reducible assumption) | (with_reducible refine Below.alloc ?_ ?_ _) | (with_reducible refine Below.setCell ?_ ?_ _) | (with_reducible refine Below.drew ?_) | (with_reducible refine below_drewN ?_ _) | (with_reducible refine below_via ?_ (by with_reducible assumption) ?_) | omega | (simp; done) | (simp; omega))))⟩
        have X1 : x < l[k].inst := by omega
        have HN := Lib.hid (isF_yes (a := x) (x := l[k]) (l := l.drop (k + 1)) ⟨by omega, by omega⟩ t2)
        have wk := WK.out
        have tk := TK.out
        go_wp2_with fail
        go_quiet (fail)
        clear wk tk
        go_wp2_with fail
        go_roundw
        case rel => exact ⟨k + 1, l[k].inst, by omega, by go_num, by rw [HV.out, HD.out, HN.out], by (have hbl := Hbl.out; (repeat' (first | (with_reducible exact Below.refl _ _) | (with_reducible assumption) | (with_reducible refine Below.alloc ?_ ?_ _) | (with_reducible refine Below.setCell ?_ ?_ _) | (with_reducible refine Below.drew ?_) | (with_reducible refine below_drewN ?_ _) | (with_reducible refine below_via ?_ (by with_reducible assumption) ?_) | omega | (simp; done) | (simp; omega)))), .inr ⟨by omega, by rw [Nat.add_sub_cancel, getD_at hlt], by omega⟩⟩
        case measure => simp [intOf]; omega
      · have g0 : decide (0 < k) = true := by simpa using k0
        have g1 : (0 : Int) ≤ (k : Int) - 1 := by omega
        have hk1 : k - 1 < l.length := by omega
        rw [getD_at hk1] at hx
        obtain ⟨b1, o1, q1, hb1, hq1⟩ := HR.out (k - 1) (encLeg l[k - 1]) (by simp [hk1])
        injection q1 with q1
        injection q1 with q1 q2 _
        subst q1 q2
        have f0 := (Hbl.out.cell (p := ⟨be, oe + (k - 1) * 2 + 0, none⟩) hbe).trans (hq1 0 _ rfl)
        simp only [Nat.add_zero] at f0
        rw [← hx] at f0
        have X0 := Lib.hid hx
        clear hq1 hx
        by_cases t0 : l[k].inst < 1
        · have d0 := decide_eq_true t0
          have HN := Lib.hid (isF_bad (a := x) (x := l[k]) (l := l.drop (k + 1)) (by first | (left; omega) | (right; left; omega) | (right; right; assumption)))
          have wk := WK.out
          have tk := TK.out
          go_wp2_with fail
          go_quiet (fail)
          clear wk tk
          go_wp2_with fail
          go_ret
          exact ⟨by rw [HV.out, HD.out, HN.out]; first | done | rfl, by (have hbl := Hbl.out; (repeat' (first | (with_reducible exact Below.refl _ _) | (with_reducible assumption) | (with_reducible refine Below.alloc ?_ ?_ _) | (with_reducible refine Below.setCell ?_ ?_ _) | (with_reducible refine Below.drew ?_) | (with_reducible refine below_drewN ?_ _) | (with_reducible refine below_via ?_ (by with_reducible assumption) ?_) | omega | (simp; done) | (simp; omega))))⟩
        have d0 := decide_eq_false t0
        by_cases t1 : 8 < l[k].inst
        · have d1 := decide_eq_true t1
          have HN := Lib.hid (isF_bad (a := x) (x := l[k]) (l := l.drop (k + 1)) (by first | (left; omega) | (right; left; omega) | (right; right; assumption)))
          have wk := WK.out
          have tk := TK.out
          go_wp2_with fail
          go_quiet (fail)
          clear wk tk
          go_wp2_with fail
          go_ret
          exact ⟨by rw [HV.out, HD.out, HN.out]; first | done | rfl, by (have hbl := Hbl.out; (repeat' (first | (with_reducible exact Below.refl _ _) | (with_reducible assumption) | (with_reducible refine Below.alloc ?_ ?_ _) | (with_reducible refine Below.setCell ?_ ?_ _) | (with_reducible refine Below.drew ?_) | (with_reducible refine below_drewN ?_ _) | (with_reducible refine below_via ?_ (by with_reducible assumption) ?_) | omega | (simp; done) | (simp; omega))))⟩
        have d1 := decide_eq_false t1
        cases t2 : (l[k].qty == 0)
        rotate_left
        · have HN := Lib.hid (isF_bad (a := x) (x := l[k]) (l := l.drop (k + 1)) (by first | (left; omega) | (right; left; omega) | (right; right; assumption)))
          have wk := WK.out
          have tk := TK.out
          go_wp2_with fail
          go_quiet (fail)
          clear wk tk
          go_wp2_with fail
          go_ret
          exact ⟨by rw [HV.out, HD.out, HN.out]; first | done | rfl, by (have hbl := Hbl.out; (repeat' (first | (with_reducible exact Below.refl _ _) | (with_reducible assumption) | (with_reducible refine Below.alloc ?_ ?_ _) | (with_reducible refine Below.setCell ?_ ?_ _) | (with_reducible refine Below.drew ?_) | (with_reducible refine below_drewN ?_ _) | (with_reducible refine below_via ?_ (by with_reducible assumption) ?_) | omega | (simp; done) | (simp; omega))))⟩
        by_cases t3 : l[k].inst ≤ x
        · have d3 := decide_eq_true t3
          have HN := Lib.hid (isF_bad (a := x) (x := l[k]) (l := l.drop (k + 1)) (by first | (left; omega) | (right; left; omega) | (right; right; assumption)))
          have wk := WK.out
          have tk := TK.out
          go_wp2_with fail
          go_quiet (fail)
          clear wk tk
          go_wp2_with fail
          go_ret
          exact ⟨by rw [HV.out, HD.out, HN.out]; first | done | rfl, by (have hbl := Hbl.out; (repeat' (first | (with_reducible exact Below.refl _ _) | (with_reducible assumption) | (with_reducible refine Below.alloc ?_ ?_ _) | (with_reducible refine Below.setCell ?_ ?_ _) | (with_reducible refine Below.drew ?_) | (with_reducible refine below_drewN ?_ _) | (with_reducible refine below_via ?_ (by with_reducible assumption) ?_) | omega | (simp; done) | (simp; omega))))⟩
        have d3 := decide_eq_false t3
        have HN := Lib.hid (isF_yes (a := x) (x := l[k]) (l := l.drop (k + 1)) ⟨by omega, by omega⟩ t2)
        have wk := WK.out
        have tk := TK.out
        go_wp2_with fail
        go_quiet (fail)
        clear wk tk
        go_wp2_with fail
        go_roundw
        case rel => exact ⟨k + 1, l[k].inst, by omega, by go_num, by rw [HV.out, HD.out, HN.out], by (have hbl := Hbl.out; (repeat' (first | (with_reducible exact Below.refl _ _) | (with_reducible assumption) | (with_reducible refine Below.alloc ?_ ?_ _) | (with_reducible refine Below.setCell ?_ ?_ _) | (with_reducible refine Below.drew ?_) | (with_reducible refine below_drewN ?_ _) | (with_reducible refine below_via ?_ (by with_reducible assumption) ?_) | omega | (simp; done) | (simp; omega)))), .inr ⟨by omega, by rw [Nat.add_sub_cancel, getD_at hlt], by omega⟩⟩
        case measure => simp [intOf]; omega
    · have HD := Lib.hid (drop_all (l := l) (k := k) (by omega))
      go_wp2_with fail
      go_ret
      exact ⟨by rw [HV.out, HD.out]; rfl, Hbl.out⟩
end Go.Proofs.Ytiidplinmempcaa

/- Contracts of vec.none, ContainsFunc of it, vec.Same. -/
namespace Go.Proofs.Ytiidplinmempcaa
open Go.RowKit
set_option maxRecDepth 100000 in
set_option maxHeartbeats 1000000 in
theorem vecNone (l : List Leg) (A : Option Addr) (c : Nat) (w : World) (hl : l.length ≤ 1099511627776) (hr : Rd w A 2 (l.map encLeg)) :
    Calls Try.prog 138 #[.slice A l.length c] w fun e w' => e = .returned (.bool (!isV l)) ∧ Below w.heap.size w w' := by
  have HR := Lib.hid hr
  clear hr
  go_enter Try.func138, Try.ntmps138
  go_wp2_with (go_at_call 71; (with_reducible refine (vecIs l A c _ hl HR.out).mono ?_); rintro e w1 ⟨rfl, hb1⟩; obtain ⟨fc1, fg1, hc1, hf1, hz1⟩ := bget hb1; try simp at hz1)
  go_ret
  exact ⟨rfl, by (repeat' (first | (with_reducible exact Below.refl _ _) | (with_reducible assumption) | (with_reducible refine Below.alloc ?_ ?_ _) | (with_reducible refine Below.setCell ?_ ?_ _) | (with_reducible refine Below.drew ?_) | (with_reducible refine below_drewN ?_ _) | (with_reducible refine below_via ?_ (by with_reducible assumption) ?_) | omega | (simp; done) | (simp; omega)))⟩
def Short (ls : List (List Leg)) : Prop := ls.length ≤ 1099511627776 ∧ ∀ l ∈ ls, l.length ≤ 1099511627776
theorem Short.pt {ls : List (List Leg)} (h : Short ls) {i : Nat} (hi : i < ls.length) : ls[i].length ≤ 1099511627776 := h.2 _ (List.getElem_mem hi)
set_option maxRecDepth 100000 in
set_option maxHeartbeats 1000000 in
theorem vecIndex (ls : List (List Leg)) (A : Option Addr) (c : Nat) (w : World) (hl : Short ls) (hr : RsS 2 encLeg w ls A c) :
    Calls Try.prog 168 #[.slice A ls.length c, .func (Fn.func 138) #[] #[]] w fun e w' => e = .returned (.int .i64 (idxOf (fun l => !isV l) ls)) ∧ Below w.heap.size w w' := by
  have HR := Lib.hid hr
  have HL := Lib.hid hl
  have hl1 := hl.1
  clear hr hl
  go_enter Try.func168, Try.ntmps168
  go_wp2_with fail
  go_loopw [8] (fun i wr => ∃ k : Nat, k ≤ ls.length ∧ i = .int .i64 k ∧ Below w.heap.size w wr ∧ ∀ j (_ : j < ls.length), j < k → (!isV ls[j]) = false) (fun i _ => ls.length - (intOf i).toNat)
  case atStart => exact ⟨0, Nat.zero_le _, rfl, Below.refl _ _, fun j _ h => absurd h (by omega)⟩
  case round =>
    obtain ⟨k, hk, rfl, hbl, hno⟩ := hrel
    have Hbl := Lib.hid hbl
    have Hno := Lib.hid hno
    have hz := hbl.size
    clear hbl hno
    by_cases hlt : k < ls.length
    · obtain ⟨b, o, B, d, rfl, hb, hq, hrk⟩ := HR.out.row hlt
      have e0 := (Hbl.out.cell (p := ⟨b, o + k, none⟩) hb).trans hq
      have HK := Lib.hid (hrk.keep Hbl.out)
      have HKL := HL.out.pt hlt
      clear hq hrk
      cases hm : (!isV ls[k])
      · have Hm := Lib.hid hm
        clear hm
        go_wp2_with (go_at_call 138; (with_reducible refine (vecNone ls[k] B d _ HKL HK.out.rd).mono ?_); rw [Hm.out]; rintro e w1 ⟨rfl, hb1⟩; have hz1 := hb1.size; have Hb1 := Lib.hid hb1; clear hb1)
        go_roundw
        case rel => exact ⟨k + 1, by omega, by go_num, Hbl.out.trans (Hb1.out.mono hz), fun j hj h => by
          rcases Nat.lt_or_ge j k with h1 | h1
          · exact Hno.out j hj h1
          · obtain rfl : j = k := by omega
            exact Hm.out⟩
        case measure => simp [intOf]; omega
      · have hi := idx_hit (p := fun l => !isV l) hlt hm Hno.out
        have Hi := Lib.hid hi
        have Hm := Lib.hid hm
        clear hm hi
        go_wp2_with (go_at_call 138; (with_reducible refine (vecNone ls[k] B d _ HKL HK.out.rd).mono ?_); rw [Hm.out]; rintro e w1 ⟨rfl, hb1⟩; have hz1 := hb1.size; have Hb1 := Lib.hid hb1; clear hb1)
        go_ret
        exact ⟨by rw [Hi.out]; rfl, Hbl.out.trans (Hb1.out.mono hz)⟩
    · have hi := idx_miss (p := fun l => !isV l) (l := ls) (fun j hj => Hno.out j hj (by omega))
      have Hi := Lib.hid hi
      clear hi
      go_wp2_with fail
      go_ret
      exact ⟨by rw [Hi.out]; rfl, Hbl.out⟩
def allV (ls : List (List Leg)) : Bool := ls.all isV
theorem idx_none (ls : List (List Leg)) : decide (0 ≤ idxOf (fun l => !isV l) ls) = !allV ls := by
  unfold idxOf allV
  cases h : ls.findIdx? (fun l => !isV l) with
  | none =>
    rw [List.findIdx?_eq_none_iff] at h
    have : ls.all isV = true := by rw [List.all_eq_true]; intro x hx; simpa using h x hx
    simp [this]
  | some k =>
    rw [List.findIdx?_eq_some_iff_getElem] at h
    obtain ⟨hk, h1, _⟩ := h
    have : ls.all isV = false := by
      rw [List.all_eq_false]; exact ⟨_, List.getElem_mem hk, by simpa using h1⟩
    simp [this]
set_option maxRecDepth 100000 in
set_option maxHeartbeats 1000000 in
theorem vecContains (ls : List (List Leg)) (A : Option Addr) (c : Nat) (w : World) (hl : Short ls) (hr : RsS 2 encLeg w ls A c) :
    Calls Try.prog 137 #[.slice A ls.length c, .func (Fn.func 138) #[] #[]] w fun e w' => e = .returned (.bool (!allV ls)) ∧ Below w.heap.size w w' := by
  have HR := Lib.hid hr
  have HL := Lib.hid hl
  have HI := Lib.hid (idx_none ls)
  clear hr hl
  go_enter Try.func137, Try.ntmps137
  go_wp2_with (go_at_call 168; (with_reducible refine (vecIndex ls A c _ HL.out HR.out).mono ?_); rintro e w1 ⟨rfl, hb1⟩; obtain ⟨fc1, fg1, hc1, hf1, hz1⟩ := bget hb1; try simp at hz1)
  go_ret
  exact ⟨by rw [← HI.out]; rfl, by (repeat' (first | (with_reducible exact Below.refl _ _) | (with_reducible assumption) | (with_reducible refine Below.alloc ?_ ?_ _) | (with_reducible refine Below.setCell ?_ ?_ _) | (with_reducible refine Below.drew ?_) | (with_reducible refine below_drewN ?_ _) | (with_reducible refine below_via ?_ (by with_reducible assumption) ?_) | omega | (simp; done) | (simp; omega)))⟩
end Go.Proofs.Ytiidplinmempcaa

/- Contract of vec.Add. -/
namespace Go.Proofs.Ytiidplinmempcaa
open Go.RowKit
def sumG (ls : List (List Leg)) (i : Int) : Int := (ls.map (getF i)).sum
/-- The legs of the instruments 1 .. n by these numbers. -/
def sumsL (f : Int → Int) : Nat → List Leg
  | 0 => []
  | n + 1 => sumsL f n ++ (if f ((n : Int) + 1) = 0 then [] else [⟨(n : Int) + 1, f ((n : Int) + 1)⟩])
def fitN (f : Int → Int) : Nat → Bool
  | 0 => true
  | n + 1 => fitN f n && in64 (f ((n : Int) + 1))
def vecC (f : Int → Int) : Int := if fitN f 8 then 0 else 7
def vecL (f : Int → Int) : List Leg := if fitN f 8 then sumsL f 8 else []
def addC (ls : List (List Leg)) : Int := if allV ls then vecC (sumG ls) else 3
def addL (ls : List (List Leg)) : List Leg := if allV ls then vecL (sumG ls) else []
theorem fit_mono {f : Int → Int} {n m : Nat} (h : n ≤ m) (hm : fitN f m = true) : fitN f n = true := by
  induction m with
  | zero => obtain rfl : n = 0 := by omega
            rfl
  | succ m ih =>
    rcases Nat.lt_or_ge n (m + 1) with h1 | h1
    · simp only [fitN, Bool.and_eq_true] at hm; exact ih (by omega) hm.1
    · obtain rfl : n = m + 1 := by omega
      exact hm
theorem fit_no {f : Int → Int} {n : Nat} (hn : n < 8) (h : in64 (f ((n : Int) + 1)) = false) : fitN f 8 = false := by
  cases h8 : fitN f 8 with
  | false => rfl
  | true =>
    have := fit_mono (show n + 1 ≤ 8 from hn) h8
    simp [fitN, h] at this
theorem sumsL_len (f : Int → Int) : ∀ n, (sumsL f n).length ≤ n
  | 0 => by simp [sumsL]
  | n + 1 => by
    have := sumsL_len f n
    simp only [sumsL, List.length_append]
    split <;> simp <;> omega
def LegsPost (w : World) (c : Int) (l : List Leg) (e : Ending) (w' : World) : Prop :=
  ∃ v, e = .returned (.tuple #[v, .int .i64 c]) ∧ Own w' w.heap.size 116 2 v (l.map encLeg) ∧ Below w.heap.size w w'
/-- Legs whose numbers are of 64 bits. -/
def Legs64 (l : List Leg) : Prop := ∀ x ∈ l, In64 x.qty
theorem get64 {l : List Leg} {i : Int} (h : Legs64 l) : In64 (getF i l) := by
  induction l with
  | nil => simp [getF, In64]
  | cons x l ih =>
    simp only [getF]
    split
    · exact h x (by simp)
    · exact ih fun y hy => h y (by simp [hy])
theorem elI : Elem Try.prog 110 2 1 8 := elem_of Try.underlying110 (z := .int .i64 0) (by kernel_rfl) rfl (by omega)
theorem rowsI (l : List Int) : ∀ r ∈ l.map encI, r.length = 1 ∧ ∀ u ∈ r, u.oneCell' = true := by
  intro r hr
  obtain ⟨m, _, rfl⟩ := List.mem_map.1 hr
  exact ⟨rfl, by simp [encI]; rfl⟩
set_option maxRecDepth 100000 in
set_option maxHeartbeats 4000000 in
theorem vecAdd (ls : List (List Leg)) (A : Option Addr) (c : Nat) (w : World) (hl : Short ls) (h64 : ∀ l ∈ ls, Legs64 l) (hr : RsS 2 encLeg w ls A c) :
    Calls Try.prog 96 #[.slice A ls.length c] w (LegsPost w (addC ls) (addL ls)) := by
  have HR := Lib.hid hr
  have HL := Lib.hid hl
  have H64 := Lib.hid h64
  have hl1 := hl.1
  clear hr hl h64
  cases ha : allV ls
  · have HC := Lib.hid (show addC ls = 3 from by unfold addC; rw [ha]; rfl)
    have HA := Lib.hid (show addL ls = [] from by unfold addL; rw [ha]; rfl)
    have C1 := Lib.hid (fun W h => ha ▸ vecContains ls A c W HL.out h)
    clear ha
    go_enter Try.func96, Try.ntmps96
    go_wp2_with (go_at_call 137; (with_reducible refine (C1.out _ HR.out).mono ?_); rintro e w1 ⟨rfl, hb1⟩; obtain ⟨fc1, fg1, hc1, hf1, hz1⟩ := bget hb1; try simp at hz1)
    go_ret2
    exact ⟨_, by rw [HC.out]; rfl, by rw [HA.out]; exact Own.nil _ _ _ _, by (repeat' (first | (with_reducible exact Below.refl _ _) | (with_reducible assumption) | (with_reducible refine Below.alloc ?_ ?_ _) | (with_reducible refine Below.setCell ?_ ?_ _) | (with_reducible refine Below.drew ?_) | (with_reducible refine below_drewN ?_ _) | (with_reducible refine below_via ?_ (by with_reducible assumption) ?_) | omega | (simp; done) | (simp; omega)))⟩
  have HC := Lib.hid (show addC ls = vecC (sumG ls) from by unfold addC; rw [ha]; rfl)
  have HA := Lib.hid (show addL ls = vecL (sumG ls) from by unfold addL; rw [ha]; rfl)
  have C1 := Lib.hid (fun W h => ha ▸ vecContains ls A c W HL.out h)
  clear ha
  go_enter Try.func96, Try.ntmps96
  go_wp2_with (go_at_call 137; (with_reducible refine (C1.out _ HR.out).mono ?_); rintro e w1 ⟨rfl, hb1⟩; obtain ⟨fc1, fg1, hc1, hf1, hz1⟩ := bget hb1; try simp at hz1)
  have Hb1 := Lib.hid hb1
  clear hc1 hf1 hb1
  go_loopw [4, 5] (fun v i wr => ∃ j : Nat, j ≤ 8 ∧ i = .int .i64 ((j : Int) + 1) ∧ fitN (sumG ls) j = true ∧ Own wr w.heap.size 116 2 v ((sumsL (sumG ls) j).map encLeg) ∧ Below w.heap.size w wr) (fun _ i _ => 9 - (intOf i).toNat)
  case atStart => exact ⟨0, Nat.zero_le _, rfl, rfl, Own.nil _ _ _ _, Hb1.out⟩
  case round =>
    obtain ⟨j, hj, rfl, hfit, hown, hbl⟩ := hrel
    have Hfit := Lib.hid hfit
    have Hown := Lib.hid hown
    have Hbl := Lib.hid hbl
    have hz := hbl.size
    have hsl := sumsL_len (sumG ls) j
    clear hfit hown hbl
    by_cases h8 : j < 8
    · have d8 : decide ((j : Int) + 1 ≤ 8) = true := by simp; omega
      obtain ⟨wo, hwo⟩ : ∃ wo : World, wo = wr := ⟨_, rfl⟩
      subst hwo
      go_wp2_with fail
      go_loopw [6, 19] (fun v i wr => ∃ k : Nat, k ≤ ls.length ∧ i = .int .i64 k ∧ Own wr wo.heap.size 2 1 v (((ls.map (getF ((j : Int) + 1))).take k).map encI) ∧ Below wo.heap.size wo wr) (fun _ i _ => ls.length - (intOf i).toNat)
      case atStart => exact ⟨0, Nat.zero_le _, rfl, Own.nil _ _ _ _, Below.refl _ _⟩
      case round =>
        obtain ⟨k, hk, rfl, hown2, hbl2⟩ := hrel
        have Hown2 := Lib.hid hown2
        have Hbl2 := Lib.hid hbl2
        have hz2 := hbl2.size
        clear hown2 hbl2
        by_cases hlt : k < ls.length
        · obtain ⟨b, o, B, d, rfl, hb, hq, hrk⟩ := HR.out.row hlt
          have hball := Hbl.out.trans (Hbl2.out.mono hz)
          have e0 := (hball.cell (p := ⟨b, o + k, none⟩) hb).trans hq
          have HK := Lib.hid (hrk.keep hball)
          have HKL := HL.out.pt hlt
          have HS : Hid (((ls.map (getF ((j : Int) + 1))).take (k + 1)).map encI = ((ls.map (getF ((j : Int) + 1))).take k).map encI ++ [encI (getF ((j : Int) + 1) ls[k])]) := by
            unfold Hid; rw [map_snoc (by simpa using hlt)]; simp
          have hlen : (((ls.map (getF ((j : Int) + 1))).take k).map encI).length ≤ k := by simp; omega
          clear hq hrk hball
          obtain ⟨g, hg⟩ : ∃ g, g = getF ((j : Int) + 1) ls[k] := ⟨_, rfl⟩
          have c3 := fun W (h : Rd W B 2 (ls[k].map encLeg)) => vecGet ls[k] ((j : Int) + 1) B d W HKL h
          rw [← hg] at HS c3
          have C3 := Lib.hid c3
          clear hg c3
          go_wp2_with (first | (go_at_call 104; (with_reducible refine (C3.out _ HK.out.rd).mono ?_); rintro e w3 ⟨rfl, hb3⟩; have hz3 := hb3.size; have Hb3 := Lib.hid hb3; clear hb3) | (at_builtin; refine wpList_app rfl _ _ _ rfl elI wo.heap.size _ _ rfl ((Hown2.out.keep Hb3.out).alloc _) (some ⟨w3.heap.size, 0, none⟩) 1 1 rfl [encI g] rfl (fun h => by cases h) rd_one (rowsI [g]) (by unfold maxLen; omega) (by omega) (by simp; omega) ?_; intro v' w4 hown4 hb4))
          go_roundw
          case rel => exact ⟨k + 1, by omega, by go_num, by rw [HS.out]; exact hown4, ((Hbl2.out.trans (Hb3.out.mono hz2)).alloc (by omega) _).trans hb4⟩
          case measure => simp [intOf]; omega
        · obtain rfl : k = ls.length := by omega
          have ho := Hown2.out
          rw [List.take_of_length_le (by simp)] at ho
          obtain ⟨A', c', rfl, _, _, hr', _⟩ := ho.shape
          obtain ⟨is, his⟩ : ∃ is, is = ls.map (getF ((j : Int) + 1)) := ⟨_, rfl⟩
          have hisl : is.length = ls.length := by rw [his, List.length_map]
          have hsum : is.sum = sumG ls ((j : Int) + 1) := by rw [his]; rfl
          have hi64 : ∀ n ∈ is, In64 n := by
            rw [his]; intro n hn; obtain ⟨l, h1, rfl⟩ := List.mem_map.1 hn; exact get64 (H64.out l h1)
          rw [← his] at hr'
          have Hr' := Lib.hid hr'
          have I64 := Lib.hid hi64
          have lis : is.length ≤ 1099511627776 := by omega
          rw [← his]
          have HSM := Lib.hid hsum
          clear hr' ho his hi64 hisl hsum
          simp only [List.length_map]
          cases h64 : in64 is.sum
          · have N64 := Lib.hid (in64_no h64)
            have HF := Lib.hid (fit_no (f := sumG ls) h8 (by rw [← HSM.out]; exact h64))
            clear h64
            go_wp2_with (go_at_call 139; (with_reducible refine (fixSumNo is A' c' _ lis I64.out Hr'.out N64.out).mono ?_); rintro e w5 ⟨rfl, hb5⟩; have Hb5 := Lib.hid hb5; clear hb5)
            go_ret2
            exact ⟨_, by rw [HC.out, vecC, HF.out]; rfl, by rw [HA.out, vecL, HF.out]; exact Own.nil _ _ _ _, Hbl.out.trans ((Hbl2.out.mono hz).trans (Hb5.out.mono (by omega)))⟩
          · have N64 := Lib.hid (in64_iff.1 h64)
            have HF := Lib.hid (show fitN (sumG ls) (j + 1) = true from by rw [fitN, Hfit.out, ← HSM.out, h64]; rfl)
            clear h64
            obtain ⟨n, hn⟩ : ∃ n, n = is.sum := ⟨_, rfl⟩
            have c5 := fun W h => fixSumYes is A' c' W lis I64.out h N64.out
            rw [← hn] at HSM c5
            have C5 := Lib.hid c5
            clear c5 hn
            cases hq : (n == 0)
            · have hne : sumsL (sumG ls) (j + 1) = sumsL (sumG ls) j ++ [⟨(j : Int) + 1, n⟩] := by
                rw [sumsL, ← HSM.out, if_neg (by simpa using hq)]
              have HNE := Lib.hid hne
              clear hne
              go_wp2_with (first | (go_at_call 139; (with_reducible refine (C5.out _ Hr'.out).mono ?_); rintro e w5 ⟨rfl, hb5⟩; have hz5 := hb5.size; have Hb5 := Lib.hid hb5; clear hb5) | (at_builtin; refine wpList_app rfl _ _ _ rfl elLeg w.heap.size _ _ rfl (((Hown.out.keep Hbl2.out).keep Hb5.out).alloc _) (some ⟨w5.heap.size, 0, none⟩) 1 1 rfl [encLeg ⟨(j : Int) + 1, n⟩] rfl (fun h => by cases h) rd_one (rowsLeg [⟨(j : Int) + 1, n⟩]) (by unfold maxLen; simp; omega) (by simp; omega) (by simp; omega) ?_; intro v' w6 hown6 hb6))
              go_roundw
              case rel => exact ⟨j + 1, by omega, by go_num, HF.out, by rw [HNE.out, List.map_append]; exact hown6, ((Hbl.out.trans ((Hbl2.out.mono hz).trans (Hb5.out.mono (by omega)))).alloc (by omega) _).trans hb6⟩
              case measure => simp [intOf]; omega
            · have hne : sumsL (sumG ls) (j + 1) = sumsL (sumG ls) j := by
                rw [sumsL, ← HSM.out, if_pos (by simpa using hq), List.append_nil]
              have HNE := Lib.hid hne
              clear hne
              go_wp2_with (go_at_call 139; (with_reducible refine (C5.out _ Hr'.out).mono ?_); rintro e w5 ⟨rfl, hb5⟩; have hz5 := hb5.size; have Hb5 := Lib.hid hb5; clear hb5)
              go_roundw
              case rel => exact ⟨j + 1, by omega, by go_num, HF.out, by rw [HNE.out]; exact (Hown.out.keep Hbl2.out).keep Hb5.out, Hbl.out.trans ((Hbl2.out.mono hz).trans (Hb5.out.mono (by omega)))⟩
              case measure => simp [intOf]; omega
    · obtain rfl : j = 8 := by omega
      go_wp2_with fail
      go_ret2
      exact ⟨_, by rw [HC.out, vecC, Hfit.out]; rfl, by rw [HA.out, vecL, Hfit.out]; exact Hown.out, Hbl.out⟩
end Go.Proofs.Ytiidplinmempcaa
