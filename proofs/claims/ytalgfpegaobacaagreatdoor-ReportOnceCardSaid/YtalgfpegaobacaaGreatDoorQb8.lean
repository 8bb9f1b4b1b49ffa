/- Joined. -/
import Derived.Test.YtalgfpegaobacaaGreatDoorQb2
import Derived.Test.YtalgfpegaobacaaGreatDoorQb3
import Derived.Test.YtalgfpegaobacaaGreatDoorQz27
namespace Go.Proofs.YtalgfpegaobacaaGreatDoor
set_option linter.all false
open Go.RowKit
theorem dec_mem (u : Nat) : ∀ b ∈ Lib.decDigits u, 48 ≤ b.toNat ∧ b.toNat ≤ 57 := by
 induction u using Nat.strongRecOn with
 | _ u ih =>
  intro b hb
  rw [Lib.decDigits] at hb
  split at hb
  ·rename_i h
   rw [List.mem_singleton] at hb
   subst hb
   rw [UInt8.toNat_ofNat']
   omega
  ·rename_i h
   rcases List.mem_append.1 hb with hb | hb
   ·exact ih (u / 10) (by omega) b hb
   ·rw [List.mem_singleton] at hb
    subst hb
    rw [UInt8.toNat_ofNat']
    omega
def valD (l : Str) : Nat := l.foldl (fun a b => a * 10 + (b.toNat - 48)) 0
theorem valD_dec (u : Nat) : valD (Lib.decDigits u) = u := by
 induction u using Nat.strongRecOn with
 | _ u ih =>
  rw [Lib.decDigits]
  split
  ·rename_i h
   show 0 * 10 + ((UInt8.ofNat (48 + u)).toNat - 48) = u
   rw [UInt8.toNat_ofNat']
   omega
  ·rename_i h
   have h1 := ih (u / 10) (by omega)
   unfold valD at h1 ⊢
   rw [List.foldl_append, h1]
   show u / 10 * 10 + ((UInt8.ofNat (48 + u % 10)).toNat - 48) = u
   rw [UInt8.toNat_ofNat']
   omega
theorem dec_inj {u v : Nat} (h : Lib.decDigits u = Lib.decDigits v) : u = v := by rw [← valD_dec u, h, valD_dec]
theorem itoa_byte (n : Int) : ∀ b ∈ Lib.itoa n, b.toNat = 45 ∨ (48 ≤ b.toNat ∧ b.toNat ≤ 57) := by
 intro b hb
 unfold Lib.itoa at hb
 split at hb
 ·rcases List.mem_cons.1 hb with rfl | hb
  ·exact .inl rfl
  ·exact .inr (dec_mem _ b hb)
 ·exact .inr (dec_mem _ b hb)
theorem itoa_inj {m n : Int} (h : Lib.itoa m = Lib.itoa n) : m = n := by
 have no : ∀ u v : Nat, (45 : UInt8) :: Lib.decDigits u = Lib.decDigits v → False := fun u v e => by
  have h1 := dec_mem v 45 (by rw [← e]; exact List.mem_cons_self ..)
  have h2 : (45 : UInt8).toNat = 45 := rfl
  omega
 unfold Lib.itoa at h
 split at h
 ·split at h
  ·injection h with _ h
   have := dec_inj h
   omega
  ·exact (no _ _ h).elim
 ·split at h
  ·exact (no _ _ h.symm).elim
  ·have := dec_inj h
   omega
theorem itoa_no (n : Int) : (32 : UInt8) ∉ Lib.itoa n ∧ (46 : UInt8) ∉ Lib.itoa n := by
 refine ⟨fun h => ?_, fun h => ?_⟩
 ·have h1 := itoa_byte n _ h
  have h2 : (32 : UInt8).toNat = 32 := rfl
  omega
 ·have h1 := itoa_byte n _ h
  have h2 : (46 : UInt8).toNat = 46 := rfl
  omega
theorem cut_inj {b : UInt8} : ∀ {x x' y y' : Str} (_ : b ∉ x) (_ : b ∉ x') (_ : x ++ b :: y = x' ++ b :: y'), x = x' ∧ y = y'
 | [], [], _, _, _, _, h => by injection h with _ h; exact ⟨rfl, h⟩
 | [], c :: x', _, _, _, h2, h => by injection h with h _; exact absurd (h ▸ List.mem_cons_self ..) h2
 | c :: x, [], _, _, h1, _, h => by injection h with h _; exact absurd (h ▸ List.mem_cons_self ..) h1
 | c :: x, c' :: x', _, _, h1, h2, h => by
  injection h with h0 h
  have ih := cut_inj (fun hb => h1 (List.mem_cons_of_mem _ hb)) (fun hb => h2 (List.mem_cons_of_mem _ hb)) h
  exact ⟨by rw [h0, ih.1], ih.2⟩
theorem place_inj {u v : Un} (h : placeL u = placeL v) : u = v := by
 unfold placeL at h
 have h1 := cut_inj (itoa_no u.acc).2 (itoa_no v.acc).2 h
 have h2 := itoa_inj h1.1
 have h3 := itoa_inj h1.2
 cases u; cases v
 simp_all
theorem place_no (u : Un) : (32 : UInt8) ∉ placeL u := by
 unfold placeL
 intro h
 rcases List.mem_append.1 h with h | h
 ·exact (itoa_no _).1 h
 ·rcases List.mem_append.1 h with h | h
  ·simp at h
  ·exact (itoa_no _).1 h
theorem maybe_no (n e : Int) : (32 : UInt8) ∉ maybeL n e := by
 unfold maybeL
 split
 ·exact (itoa_no _).1
 ·decide
theorem kind_no (k : Int) : (32 : UInt8) ∉ kindL k := by
 unfold kindL
 repeat' split
 all_goals decide
theorem phase_no (k : Int) : (32 : UInt8) ∉ phaseL k := by
 unfold phaseL
 repeat' split
 all_goals decide
theorem ln_cons (x y : Str) (t : List Str) : lnL (x :: y :: t) = x ++ 32 :: lnL (y :: t) := by simp [lnL, Lib.join, List.intercalate]
theorem ln_one (x : Str) : lnL [x] = x := by simp [lnL, Lib.join, List.intercalate]
theorem ln_inj : ∀ {a b : List Str} (_ : ∀ x ∈ a, (32 : UInt8) ∉ x) (_ : ∀ x ∈ b, (32 : UInt8) ∉ x) (_ : a ≠ []) (_ : b ≠ []) (_ : lnL a = lnL b), a = b
 | [], _, _, _, h, _, _ => absurd rfl h
 | _ :: _, [], _, _, _, h, _ => absurd rfl h
 | [x], [y], _, _, _, _, h => by rw [ln_one, ln_one] at h; rw [h]
 | [x], y :: z :: t, h1, _, _, _, h => by
  rw [ln_one, ln_cons] at h
  exact absurd (show (32 : UInt8) ∈ x by rw [h]; simp) (h1 x (List.mem_singleton.2 rfl))
 | x :: z :: t, [y], _, h1, _, _, h => by
  rw [ln_one, ln_cons] at h
  exact absurd (show (32 : UInt8) ∈ y by rw [← h]; simp) (h1 y (List.mem_singleton.2 rfl))
 | x :: z :: t, x' :: z' :: t', h1, h2, _, _, h => by
  rw [ln_cons, ln_cons] at h
  have h3 := cut_inj (h1 x (List.mem_cons_self ..)) (h2 x' (List.mem_cons_self ..)) h
  have ih := ln_inj (a := z :: t) (b := z' :: t') (fun w hw => h1 w (List.mem_cons_of_mem _ hw)) (fun w hw => h2 w (List.mem_cons_of_mem _ hw)) (by simp) (by simp) h3.2
  rw [h3.1, ih]
def Key.un : Key → Option Un
 | .unit u => some u
 | .leg _ u _ => some u
 | .lot u _ _ => some u
 | _ => none
def Key.ac : Key → Option Int
 | .unit u => some u.acc
 | .leg _ u _ => some u.acc
 | .lot u _ _ => some u.acc
 | .acct i => some i
 | .margin u => some u.acc
 | _ => none
def Key.isU : Key → Bool
 | .unit _ => true
 | _ => false
def Says (p : Str × Key) : Prop := ∃ rest : List Str, (∀ x ∈ p.2.hd ++ rest, (32 : UInt8) ∉ x) ∧ p.1 = lnL (p.2.hd ++ rest)
theorem hd_inj {k k' : Key} {r r' : List Str} (h : k.hd ++ r = k'.hd ++ r') : k = k' := by
 cases k with
 | leg s u i =>
  cases s <;> cases k' with
  | leg s' u' i' =>
   cases s' <;> simp [Key.hd] at h
   all_goals rw [place_inj h.1, itoa_inj h.2.1]
  | _ => simp [Key.hd] at h
 | _ =>
  cases k' with
  | leg s' u' i' => cases s' <;> simp [Key.hd] at h
  | _ =>
   simp [Key.hd] at h
   first
    | done
    | rfl
    | (rw [place_inj h.1, itoa_inj h.2.1, itoa_inj h.2.2.1])
    | (rw [place_inj h.1])
    | (rw [itoa_inj h.1])
theorem hd_ne (k : Key) (r : List Str) : k.hd ++ r ≠ [] := by
 cases k with
 | leg s u i => cases s <;> simp [Key.hd]
 | _ => simp [Key.hd]
theorem says_inj {p q : Str × Key} (h1 : Says p) (h2 : Says q) (h : p.1 = q.1) : p.2 = q.2 := by
 obtain ⟨r, n1, e1⟩ := h1
 obtain ⟨s, n2, e2⟩ := h2
 rw [e1, e2] at h
 exact hd_inj (ln_inj n1 n2 (hd_ne _ _) (hd_ne _ _) h)
def pfxU (s : Str) : Bool := decide (5 < s.length) && decide (s.take 5 = [117, 110, 105, 116, 32])
theorem place_ne (u : Un) : 0 < (placeL u).length := by unfold placeL; simp; omega
theorem first_no {s : Str} {b : UInt8} {t : Str} (h : s = b :: t) (hb : b ≠ 117) : pfxU s = false := by
 subst h
 unfold pfxU
 have : (b :: t).take 5 ≠ [117, 110, 105, 116, 32] := fun e => by
  simp at e
  exact hb e.1
 rw [decide_eq_false this, Bool.and_false]
theorem says_pfx {p : Str × Key} (h : Says p) : pfxU p.1 = p.2.isU := by
 obtain ⟨s, k⟩ := p
 obtain ⟨r, _, e⟩ := h
 dsimp only at e ⊢
 cases k with
 | unit u =>
  have h1 : s = [117, 110, 105, 116, 32] ++ lnL (placeL u :: r) := by rw [e]; simp only [Key.hd, List.cons_append, List.nil_append]; rw [ln_cons]; rfl
  have h2 : 0 < (lnL (placeL u :: r)).length := by
   have := place_ne u
   cases r with
   | nil => rw [ln_one]; exact this
   | cons y t => rw [ln_cons, List.length_append]; omega
  unfold pfxU
  rw [h1, decide_eq_true (by simp; omega), decide_eq_true (by simp)]
  rfl
 | day => exact first_no (b := 100) (t := (lnL (wdDay :: r)).tail) (by rw [e]; cases r <;> simp [Key.hd, ln_one, ln_cons]) (by decide)
 | leg q u i =>
  cases q
  ·exact first_no (b := 112) (t := (lnL (wdPosition :: placeL u :: Lib.itoa i :: r)).tail) (by rw [e]; simp [Key.hd, ln_cons]) (by decide)
  ·exact first_no (b := 115) (t := (lnL (wdSale :: placeL u :: Lib.itoa i :: r)).tail) (by rw [e]; simp [Key.hd, ln_cons]) (by decide)
 | lot u a t => exact first_no (b := 108) (t := (lnL (wdLot :: placeL u :: Lib.itoa a :: Lib.itoa t :: r)).tail) (by rw [e]; simp [Key.hd, ln_cons]) (by decide)
 | acct i => exact first_no (b := 97) (t := (lnL (wdAccount :: Lib.itoa i :: r)).tail) (by rw [e]; simp [Key.hd, ln_cons]) (by decide)
 | margin u => exact first_no (b := 109) (t := (lnL (wdMargin :: placeL u :: r)).tail) (by rw [e]; simp [Key.hd, ln_cons]) (by decide)
 | mem i => exact first_no (b := 109) (t := (lnL (wdMember :: Lib.itoa i :: r)).tail) (by rw [e]; simp [Key.hd, ln_cons]) (by decide)
def unitQ (R : RepL) (u : Un) : List (Str × Key) := (lnL (unitW (getPu R.S.pu u) u), .unit u) :: ((ofK R.S.bk u).map (fun x => (lnL (legW wdPosition u x), .leg false u x.inst)) ++ ((ofK R.sale u).map (fun x => (lnL (legW wdSale u x), .leg true u x.inst)) ++ (ofK R.S.ho u).map (fun x => (lnL (lotW u x), .lot u x.asset x.tag))))
def unitsQ (R : RepL) : List Un → List (Str × Key)
 | [] => []
 | u :: us => unitQ R u ++ unitsQ R us
def accountQ (R : RepL) (a : Acct) : List (Str × Key) := (lnL (accountW a), .acct a.id) :: ((unitsN a).map (fun u => (lnL (marginW R a u), .margin u)) ++ unitsQ R (unitsA a))
def accountsQ (R : RepL) : List Acct → List (Str × Key)
 | [] => []
 | a :: t => accountQ R a ++ accountsQ R t
def memberQ (R : RepL) (m : Mb) : List (Str × Key) := (lnL (memberW R m), .mem m.id) :: accountsQ R (ofL R.acs m.id)
def membersQ (R : RepL) : List Mb → List (Str × Key)
 | [] => []
 | m :: t => memberQ R m ++ membersQ R t
def allQ (R : RepL) : List (Str × Key) := (lnL [wdDay, Lib.itoa R.day], .day) :: (unitQ R ⟨0, 0⟩ ++ (unitQ R ⟨0, 1⟩ ++ membersQ R R.mem))
theorem unitQ_fst (R : RepL) (u : Un) : (unitQ R u).map (·.1) = unitL R u := by simp [unitQ, unitL, legsL, lotsL, List.map_map, Function.comp_def]
theorem unitsQ_fst (R : RepL) : ∀ us, (unitsQ R us).map (·.1) = unitsL R us
 | [] => rfl
 | u :: us => by show (unitQ R u ++ unitsQ R us).map _ = unitL R u ++ unitsL R us; rw [List.map_append, unitQ_fst, unitsQ_fst R us]
theorem accountQ_fst (R : RepL) (a : Acct) : (accountQ R a).map (·.1) = accountL R a := by
 unfold accountQ accountL
 rw [List.map_cons, List.map_append, unitsQ_fst, List.map_map]
 rfl
theorem accountsQ_fst (R : RepL) : ∀ us, (accountsQ R us).map (·.1) = accountsL R us
 | [] => rfl
 | u :: us => by show (accountQ R u ++ accountsQ R us).map _ = accountL R u ++ accountsL R us; rw [List.map_append, accountQ_fst, accountsQ_fst R us]
theorem memberQ_fst (R : RepL) (m : Mb) : (memberQ R m).map (·.1) = memberL R m := by
 unfold memberQ memberL
 rw [List.map_cons, accountsQ_fst]
theorem membersQ_fst (R : RepL) : ∀ us, (membersQ R us).map (·.1) = membersL R us
 | [] => rfl
 | u :: us => by show (memberQ R u ++ membersQ R us).map _ = memberL R u ++ membersL R us; rw [List.map_append, memberQ_fst, membersQ_fst R us]
theorem allQ_fst (R : RepL) : (allQ R).map (·.1) = allL R := by
 unfold allQ allL
 rw [List.map_cons, List.map_append, List.map_append, unitQ_fst, unitQ_fst, membersQ_fst]
theorem unitQ_says (R : RepL) (u : Un) : ∀ p ∈ unitQ R u, Says p := by
 intro p hp
 unfold unitQ at hp
 rcases List.mem_cons.1 hp with rfl | hp
 ·exact ⟨[wdCash, Lib.itoa (getPu R.S.pu u)], by (simp only [Key.hd, List.cons_append, List.nil_append, List.mem_cons, List.not_mem_nil, or_false, forall_eq_or_imp, forall_eq]); exact ⟨by decide, place_no u, by decide, (itoa_no _).1⟩, rfl⟩
 ·rcases List.mem_append.1 hp with hp | hp
  ·obtain ⟨x, _, rfl⟩ := List.mem_map.1 hp
   exact ⟨[Lib.itoa x.qty], by (simp only [Key.hd, List.cons_append, List.nil_append, List.mem_cons, List.not_mem_nil, or_false, forall_eq_or_imp, forall_eq]); exact ⟨by decide, place_no u, (itoa_no _).1, (itoa_no _).1⟩, rfl⟩
  ·rcases List.mem_append.1 hp with hp | hp
   ·obtain ⟨x, _, rfl⟩ := List.mem_map.1 hp
    exact ⟨[Lib.itoa x.qty], by (simp only [Key.hd, List.cons_append, List.nil_append, List.mem_cons, List.not_mem_nil, or_false, forall_eq_or_imp, forall_eq]); exact ⟨by decide, place_no u, (itoa_no _).1, (itoa_no _).1⟩, rfl⟩
   ·obtain ⟨x, _, rfl⟩ := List.mem_map.1 hp
    exact ⟨[Lib.itoa x.qty], by (simp only [Key.hd, List.cons_append, List.nil_append, List.mem_cons, List.not_mem_nil, or_false, forall_eq_or_imp, forall_eq]); exact ⟨by decide, place_no u, (itoa_no _).1, (itoa_no _).1, (itoa_no _).1⟩, rfl⟩
theorem unitsQ_mem {R : RepL} {p : Str × Key} : ∀ {us : List Un} (_ : p ∈ unitsQ R us), ∃ u ∈ us, p ∈ unitQ R u
 | [], h => by cases h
 | u :: us, h => by
  rcases List.mem_append.1 h with h | h
  ·exact ⟨u, List.mem_cons_self .., h⟩
  ·obtain ⟨v, hv, h⟩ := unitsQ_mem h
   exact ⟨v, List.mem_cons_of_mem _ hv, h⟩
theorem accountsQ_mem {R : RepL} {p : Str × Key} : ∀ {us : List Acct} (_ : p ∈ accountsQ R us), ∃ u ∈ us, p ∈ accountQ R u
 | [], h => by cases h
 | u :: us, h => by
  rcases List.mem_append.1 h with h | h
  ·exact ⟨u, List.mem_cons_self .., h⟩
  ·obtain ⟨v, hv, h⟩ := accountsQ_mem h
   exact ⟨v, List.mem_cons_of_mem _ hv, h⟩
theorem membersQ_mem {R : RepL} {p : Str × Key} : ∀ {us : List Mb} (_ : p ∈ membersQ R us), ∃ u ∈ us, p ∈ memberQ R u
 | [], h => by cases h
 | u :: us, h => by
  rcases List.mem_append.1 h with h | h
  ·exact ⟨u, List.mem_cons_self .., h⟩
  ·obtain ⟨v, hv, h⟩ := membersQ_mem h
   exact ⟨v, List.mem_cons_of_mem _ hv, h⟩
theorem accountQ_says (R : RepL) (a : Acct) : ∀ p ∈ accountQ R a, Says p := by
 intro p hp
 unfold accountQ at hp
 rcases List.mem_cons.1 hp with rfl | hp
 ·exact ⟨[kindL a.kind, wdMember, Lib.itoa a.member], by (simp only [Key.hd, List.cons_append, List.nil_append, List.mem_cons, List.not_mem_nil, or_false, forall_eq_or_imp, forall_eq]); exact ⟨by decide, (itoa_no _).1, kind_no _, by decide, (itoa_no _).1⟩, rfl⟩
 ·rcases List.mem_append.1 hp with hp | hp
  ·obtain ⟨u, _, rfl⟩ := List.mem_map.1 hp
   exact ⟨[wdNeed, maybeL (nofN R.S.ins R.S.bk a u) (nofC R.S.ins R.S.bk a u), wdExcess, maybeL (excN R.S a u) (excC R.S a u)], by (simp only [Key.hd, List.cons_append, List.nil_append, List.mem_cons, List.not_mem_nil, or_false, forall_eq_or_imp, forall_eq]); exact ⟨by decide, place_no u, by decide, maybe_no _ _, by decide, maybe_no _ _⟩, rfl⟩
  ·obtain ⟨u, _, h⟩ := unitsQ_mem hp
   exact unitQ_says R u p h
theorem memberQ_says (R : RepL) (m : Mb) : ∀ p ∈ memberQ R m, Says p := by
 intro p hp
 unfold memberQ at hp
 rcases List.mem_cons.1 hp with rfl | hp
 ·exact ⟨[phaseL m.phase, wdUntil, Lib.itoa m.til, wdCap, Lib.itoa m.cap, wdUsed, maybeL (heldN R.S.bk (unitsOfL (ofL R.acs m.id))) (heldC R.S.bk (unitsOfL (ofL R.acs m.id)))], by (simp only [Key.hd, List.cons_append, List.nil_append, List.mem_cons, List.not_mem_nil, or_false, forall_eq_or_imp, forall_eq]); exact ⟨by decide, (itoa_no _).1, phase_no _, by decide, (itoa_no _).1, by decide, (itoa_no _).1, by decide, maybe_no _ _⟩, rfl⟩
 ·obtain ⟨a, _, h⟩ := accountsQ_mem hp
  exact accountQ_says R a p h
theorem allQ_says (R : RepL) : ∀ p ∈ allQ R, Says p := by
 intro p hp
 unfold allQ at hp
 rcases List.mem_cons.1 hp with rfl | hp
 ·exact ⟨[Lib.itoa R.day], by (simp only [Key.hd, List.cons_append, List.nil_append, List.mem_cons, List.not_mem_nil, or_false, forall_eq_or_imp, forall_eq]); exact ⟨by decide, (itoa_no _).1⟩, rfl⟩
 ·rcases List.mem_append.1 hp with hp | hp
  ·exact unitQ_says R _ p hp
  ·rcases List.mem_append.1 hp with hp | hp
   ·exact unitQ_says R _ p hp
   ·obtain ⟨a, _, h⟩ := membersQ_mem hp
    exact memberQ_says R a p h
abbrev DistP (l : List (Str × Key)) : Prop := l.Pairwise (fun p q => p.2 ≠ q.2)
theorem unitQ_un {R : RepL} {u : Un} {p : Str × Key} (hp : p ∈ unitQ R u) : p.2.un = some u ∧ p.2.ac = some u.acc := by
 unfold unitQ at hp
 rcases List.mem_cons.1 hp with rfl | hp
 ·exact ⟨rfl, rfl⟩
 ·rcases List.mem_append.1 hp with hp | hp
  ·obtain ⟨x, _, rfl⟩ := List.mem_map.1 hp
   exact ⟨rfl, rfl⟩
  ·rcases List.mem_append.1 hp with hp | hp
   ·obtain ⟨x, _, rfl⟩ := List.mem_map.1 hp
    exact ⟨rfl, rfl⟩
   ·obtain ⟨x, _, rfl⟩ := List.mem_map.1 hp
    exact ⟨rfl, rfl⟩
theorem unitQ_dist {R : RepL} (h : LedgF R) (u : Un) : DistP (unitQ R u) := by
 unfold unitQ
 rw [DistP, List.pairwise_cons, List.pairwise_append, List.pairwise_append, List.pairwise_map, List.pairwise_map, List.pairwise_map]
 refine ⟨fun p hp e => ?_, (h.bk u).imp fun hne e => ?_, ⟨(h.sale u).imp fun hne e => ?_, (h.ho u).imp fun hne e => ?_, fun p hp q hq e => ?_⟩, fun p hp q hq e => ?_⟩
 ·rcases List.mem_append.1 hp with hp | hp
  ·obtain ⟨x, _, rfl⟩ := List.mem_map.1 hp
   cases e
  ·rcases List.mem_append.1 hp with hp | hp
   ·obtain ⟨x, _, rfl⟩ := List.mem_map.1 hp
    cases e
   ·obtain ⟨x, _, rfl⟩ := List.mem_map.1 hp
    cases e
 ·injection e with _ _ e; exact hne e
 ·injection e with _ _ e; exact hne e
 ·injection e with _ e1 e2; exact hne ⟨e1, e2⟩
 ·obtain ⟨x, _, rfl⟩ := List.mem_map.1 hp
  obtain ⟨y, _, rfl⟩ := List.mem_map.1 hq
  cases e
 ·obtain ⟨x, _, rfl⟩ := List.mem_map.1 hp
  rcases List.mem_append.1 hq with hq | hq
  ·obtain ⟨y, _, rfl⟩ := List.mem_map.1 hq
   injection e with e _ _
   cases e
  ·obtain ⟨y, _, rfl⟩ := List.mem_map.1 hq
   cases e
theorem unitsQ_dist {R : RepL} (h : LedgF R) : ∀ {us : List Un} (_ : us.Nodup), DistP (unitsQ R us)
 | [], _ => List.Pairwise.nil
 | u :: us, hn => by
  rw [List.nodup_cons] at hn
  refine List.pairwise_append.2 ⟨unitQ_dist h u, unitsQ_dist h hn.2, fun p hp q hq e => ?_⟩
  obtain ⟨v, hv, hq⟩ := unitsQ_mem hq
  have h1 := (unitQ_un hp).1
  rw [e, (unitQ_un hq).1] at h1
  injection h1 with h1
  exact hn.1 (h1 ▸ hv)
theorem unitsA_acc {a : Acct} {u : Un} (h : u ∈ unitsA a) : u.acc = a.id := by
 unfold unitsA at h
 split at h
 ·rw [List.mem_singleton] at h; rw [h]
 ·obtain ⟨c, _, rfl⟩ := List.mem_map.1 h; rfl
theorem unitsN_acc {a : Acct} {u : Un} (h : u ∈ unitsN a) : u.acc = a.id := by
 unfold unitsN at h
 split at h
 ·rw [List.mem_singleton] at h; rw [h]
 ·exact unitsA_acc h
theorem unitsN_nodup {a : Acct} (h : okAAc a) : (unitsN a).Nodup := by
 unfold unitsN
 split
 ·simp
 ·exact units_nodup h
theorem accountQ_ac {R : RepL} {a : Acct} {p : Str × Key} (hp : p ∈ accountQ R a) : p.2.ac = some a.id := by
 unfold accountQ at hp
 rcases List.mem_cons.1 hp with rfl | hp
 ·rfl
 ·rcases List.mem_append.1 hp with hp | hp
  ·obtain ⟨u, hu, rfl⟩ := List.mem_map.1 hp
   show some u.acc = _
   rw [unitsN_acc hu]
  ·obtain ⟨u, hu, hp⟩ := unitsQ_mem hp
   rw [(unitQ_un hp).2, unitsA_acc hu]
theorem accountQ_dist {R : RepL} (h : LedgF R) {a : Acct} (ha : okAAc a) : DistP (accountQ R a) := by
 unfold accountQ
 rw [DistP, List.pairwise_cons, List.pairwise_append, List.pairwise_map]
 refine ⟨fun p hp e => ?_, (unitsN_nodup ha).imp fun hne e => ?_, unitsQ_dist h (units_nodup ha), fun p hp q hq e => ?_⟩
 ·rcases List.mem_append.1 hp with hp | hp
  ·obtain ⟨u, _, rfl⟩ := List.mem_map.1 hp
   cases e
  ·obtain ⟨u, _, hp⟩ := unitsQ_mem hp
   have := (unitQ_un hp).1
   rw [← e] at this
   cases this
 ·injection e with e; exact hne e
 ·obtain ⟨u, _, rfl⟩ := List.mem_map.1 hp
  obtain ⟨v, _, hq⟩ := unitsQ_mem hq
  have := (unitQ_un hq).1
  rw [← e] at this
  cases this
theorem accountsQ_dist {R : RepL} (h : LedgF R) : ∀ {l : List Acct} (_ : ∀ a ∈ l, okAAc a) (_ : l.Pairwise (fun a b => a.id < b.id)), DistP (accountsQ R l)
 | [], _, _ => List.Pairwise.nil
 | a :: l, hk, hn => by
  rw [List.pairwise_cons] at hn
  refine List.pairwise_append.2 ⟨accountQ_dist h (hk a (List.mem_cons_self ..)), accountsQ_dist h (fun x hx => hk x (List.mem_cons_of_mem _ hx)) hn.2, fun p hp q hq e => ?_⟩
  obtain ⟨v, hv, hq⟩ := accountsQ_mem hq
  have h1 := accountQ_ac hp
  rw [e, accountQ_ac hq] at h1
  injection h1 with h1
  have := hn.1 v hv
  omega
theorem same_acct {l : List Acct} (hs : l.Pairwise (fun a b => a.id < b.id)) {a b : Acct} (ha : a ∈ l) (hb : b ∈ l) (h : a.id = b.id) : a = b := by
 induction l with
 | nil => cases ha
 | cons x t ih =>
  rw [List.pairwise_cons] at hs
  rcases List.mem_cons.1 ha with h1 | h1 <;> rcases List.mem_cons.1 hb with h2 | h2
  ·rw [h1, h2]
  ·have := hs.1 b h2; rw [← h1] at this; omega
  ·have := hs.1 a h1; rw [← h2] at this; omega
  ·exact ih hs.2 h1 h2
theorem memberQ_ac {R : RepL} {m : Mb} {p : Str × Key} (hp : p ∈ memberQ R m) : p.2 = .mem m.id ∨ ∃ a ∈ R.acs, a.member = m.id ∧ p.2.ac = some a.id := by
 unfold memberQ at hp
 rcases List.mem_cons.1 hp with rfl | hp
 ·exact .inl rfl
 ·obtain ⟨a, ha, hp⟩ := accountsQ_mem hp
  have h1 := ofL_mem ha
  exact .inr ⟨a, h1.1, h1.2, accountQ_ac hp⟩
theorem memberQ_dist {R : RepL} (h : LedgF R) (m : Mb) : DistP (memberQ R m) := by
 unfold memberQ
 rw [DistP, List.pairwise_cons]
 refine ⟨fun p hp e => ?_, accountsQ_dist h (fun a ha => h.ok a (ofL_mem ha).1) (h.acs.sublist List.filter_sublist)⟩
 obtain ⟨a, _, hp⟩ := accountsQ_mem hp
 have := accountQ_ac hp
 rw [← e] at this
 cases this
theorem membersQ_dist {R : RepL} (h : LedgF R) : ∀ {l : List Mb} (_ : l.Pairwise (fun a b => a.id < b.id)), DistP (membersQ R l)
 | [], _ => List.Pairwise.nil
 | m :: l, hn => by
  rw [List.pairwise_cons] at hn
  refine List.pairwise_append.2 ⟨memberQ_dist h m, membersQ_dist h hn.2, fun p hp q hq e => ?_⟩
  obtain ⟨v, hv, hq⟩ := membersQ_mem hq
  have h0 := hn.1 v hv
  rcases memberQ_ac hp with h1 | ⟨a, ha, hm, h1⟩
  ·rcases memberQ_ac hq with h2 | ⟨b, hb, hm', h2⟩
   ·rw [← e, h1] at h2
    injection h2 with h2
    omega
   ·rw [← e, h1] at h2
    cases h2
  ·rcases memberQ_ac hq with h2 | ⟨b, hb, hm', h2⟩
   ·rw [e, h2] at h1
    cases h1
   ·rw [e, h2] at h1
    injection h1 with h1
    have := same_acct h.acs hb ha h1
    subst this
    omega
theorem allQ_dist {R : RepL} (h : LedgF R) : DistP (allQ R) := by
 unfold allQ
 have hm : ∀ u : Un, u.acc = 0 → ∀ p ∈ unitQ R u, ∀ q ∈ membersQ R R.mem, p.2 ≠ q.2 := fun u hu p hp q hq e => by
  obtain ⟨m, _, hq⟩ := membersQ_mem hq
  have h1 := (unitQ_un hp).2
  rcases memberQ_ac hq with h2 | ⟨a, ha, _, h2⟩
  ·rw [e, h2] at h1
   cases h1
  ·rw [e, h2] at h1
   injection h1 with h1
   have := (h.ok a ha).1
   omega
 rw [DistP, List.pairwise_cons, List.pairwise_append, List.pairwise_append]
 refine ⟨fun p hp e => ?_, unitQ_dist h _, ⟨unitQ_dist h _, membersQ_dist h h.mem, hm _ rfl⟩, fun p hp q hq e => ?_⟩
 ·rcases List.mem_append.1 hp with hp | hp
  ·have := (unitQ_un hp).1
   rw [← e] at this
   cases this
  ·rcases List.mem_append.1 hp with hp | hp
   ·have := (unitQ_un hp).1
    rw [← e] at this
    cases this
   ·obtain ⟨m, _, hp⟩ := membersQ_mem hp
    rcases memberQ_ac hp with h2 | ⟨a, ha, _, h2⟩
    ·rw [← e] at h2
     cases h2
    ·rw [← e] at h2
     cases h2
 ·rcases List.mem_append.1 hq with hq | hq
  ·have h1 := (unitQ_un hp).1
   rw [e, (unitQ_un hq).1] at h1
   injection h1 with h1
   injection h1 with _ h1
   exact absurd h1 (by decide)
  ·exact hm _ rfl p hp q hq e
theorem lines_nodup {R : RepL} (h : LedgF R) : (allL R).Nodup := by
 rw [← allQ_fst]
 unfold List.Nodup
 rw [List.pairwise_map]
 exact (allQ_dist h).imp_of_mem fun hp hq hne e => hne (says_inj (allQ_says R _ hp) (allQ_says R _ hq) e)
def cntK (l : List (Str × Key)) : Nat := l.countP (fun p => p.2.isU)
theorem cntK_app (a b : List (Str × Key)) : cntK (a ++ b) = cntK a + cntK b := List.countP_append
theorem cntK_map {α : Type} (f : α → Str × Key) (hf : ∀ x, (f x).2.isU = false) (l : List α) : cntK (l.map f) = 0 := by
 unfold cntK
 rw [List.countP_eq_zero]
 intro p hp
 obtain ⟨x, _, rfl⟩ := List.mem_map.1 hp
 rw [hf x]
 simp
theorem unitQ_cnt (R : RepL) (u : Un) : cntK (unitQ R u) = 1 := by
 unfold unitQ
 show List.countP _ (_ :: _) = 1
 rw [List.countP_cons]
 show cntK _ + 1 = 1
 rw [cntK_app, cntK_app, cntK_map _ (fun _ => rfl), cntK_map _ (fun _ => rfl), cntK_map _ (fun _ => rfl)]
theorem unitsQ_cnt (R : RepL) : ∀ us : List Un, cntK (unitsQ R us) = us.length
 | [] => rfl
 | u :: us => by
  show cntK (unitQ R u ++ unitsQ R us) = us.length + 1
  rw [cntK_app, unitQ_cnt, unitsQ_cnt R us, Nat.add_comm]
theorem accountsQ_cnt (R : RepL) : ∀ l : List Acct, cntK (accountsQ R l) = (unitsOfL l).length
 | [] => rfl
 | a :: l => by
  show cntK (accountQ R a ++ accountsQ R l) = (unitsA a ++ unitsOfL l).length
  rw [cntK_app, accountsQ_cnt R l, List.length_append]
  congr 1
  unfold accountQ
  show List.countP _ (_ :: _) = _
  rw [List.countP_cons]
  show cntK _ + 0 = _
  rw [cntK_app, cntK_map _ (fun _ => rfl), unitsQ_cnt]
  omega
def sumM (f : Int → Nat) : List Mb → Nat
 | [] => 0
 | m :: t => f m.id + sumM f t
theorem membersQ_cnt (R : RepL) : ∀ l : List Mb, cntK (membersQ R l) = sumM (fun id => (unitsOfL (ofL R.acs id)).length) l
 | [] => rfl
 | m :: l => by
  show cntK (memberQ R m ++ membersQ R l) = _ + sumM _ l
  rw [cntK_app, membersQ_cnt R l]
  congr 1
  unfold memberQ
  show List.countP _ (_ :: _) = _
  rw [List.countP_cons]
  show cntK _ + 0 = _
  rw [accountsQ_cnt]
  rfl
theorem sumM_add (f g : Int → Nat) : ∀ l : List Mb, sumM (fun i => f i + g i) l = sumM f l + sumM g l
 | [] => rfl
 | m :: l => by
  show f m.id + g m.id + sumM _ l = (f m.id + sumM f l) + (g m.id + sumM g l)
  rw [sumM_add f g l]; omega
theorem sumM_none (k : Int) (n : Nat) : ∀ {l : List Mb} (_ : ∀ m ∈ l, m.id ≠ k), sumM (fun i => if k = i then n else 0) l = 0
 | [], _ => rfl
 | m :: l, h => by
  show (if k = m.id then n else 0) + sumM _ l = 0
  rw [if_neg (fun e => h m (List.mem_cons_self ..) e.symm), sumM_none k n fun x hx => h x (List.mem_cons_of_mem _ hx)]
theorem sumM_one (k : Int) (n : Nat) : ∀ {l : List Mb} (_ : l.Pairwise (fun a b => a.id < b.id)) (_ : ∃ m ∈ l, m.id = k), sumM (fun i => if k = i then n else 0) l = n
 | [], _, h => by obtain ⟨m, hm, _⟩ := h; cases hm
 | m :: l, hs, h => by
  rw [List.pairwise_cons] at hs
  show (if k = m.id then n else 0) + sumM _ l = n
  by_cases hk : k = m.id
  ·rw [if_pos hk, sumM_none k n fun x hx => by have := hs.1 x hx; omega]; omega
  ·rw [if_neg hk, sumM_one k n hs.2 (by
    obtain ⟨x, hx, e⟩ := h
    rcases List.mem_cons.1 hx with rfl | hx
    ·exact absurd e.symm hk
    ·exact ⟨x, hx, e⟩)]; omega
theorem sumM_all {ms : List Mb} (hs : ms.Pairwise (fun a b => a.id < b.id)) : ∀ {l : List Acct} (_ : ∀ a ∈ l, ∃ m ∈ ms, m.id = a.member), sumM (fun id => (unitsOfL (ofL l id)).length) ms = (unitsOfL l).length
 | [], _ => by
  have : ∀ l : List Mb, sumM (fun id => (unitsOfL (ofL [] id)).length) l = 0 := fun l => by
   induction l with
   | nil => rfl
   | cons m l ih => show 0 + sumM _ l = 0; rw [ih]
  exact this ms
 | a :: l, h => by
  have e : (fun id => (unitsOfL (ofL (a :: l) id)).length) = fun id => (if a.member = id then (unitsA a).length else 0) + (unitsOfL (ofL l id)).length := by
   funext id
   unfold ofL
   by_cases hk : a.member = id
   ·rw [if_pos hk, List.filter_cons_of_pos (by simpa using hk)]
    show (unitsA a ++ _).length = _
    rw [List.length_append]
   ·rw [if_neg hk, List.filter_cons_of_neg (by simpa using hk), Nat.zero_add]
  rw [e, sumM_add, sumM_one a.member _ hs (h a (List.mem_cons_self ..)), sumM_all hs fun x hx => h x (List.mem_cons_of_mem _ hx)]
  show _ = (unitsA a ++ unitsOfL l).length
  rw [List.length_append]
theorem lines_count {R : RepL} (h : LedgF R) : ((allL R).filter pfxU).length = (unitsOfL R.acs).length + 2 := by
 rw [← allQ_fst, ← List.countP_eq_length_filter, List.countP_map]
 have e : (allQ R).countP (pfxU ∘ fun x => x.1) = cntK (allQ R) := List.countP_congr fun p hp => by
  show pfxU p.1 = true ↔ _
  rw [says_pfx (allQ_says R p hp)]
 rw [e]
 unfold allQ
 show List.countP _ (_ :: _) = _
 rw [List.countP_cons]
 show cntK _ + 0 = _
 rw [cntK_app, cntK_app, unitQ_cnt, unitQ_cnt, membersQ_cnt, sumM_all h.mem h.there]
 omega
end Go.Proofs.YtalgfpegaobacaaGreatDoor
