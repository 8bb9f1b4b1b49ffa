/- Joined: Ho5, Ho6. -/
import Derived.Test.YtiidplinmempcaaJa10
import Derived.Test.YtiidplinmempcaaJa2
import Derived.Test.YtiidplinmempcaaJa6
import Derived.Test.YtiidplinmempcaaJz4
/- Holds: contracts of Move, Pass, the reference's Move, Pass. -/
namespace Go.Proofs.Ytiidplinmempcaa
open Go.RowKit
/-- Nothing, or the head of a block. -/
abbrev FormA {α : Type} (l : List α) (A : Option Addr) (c : Nat) : Prop := (A = none ∧ l = [] ∧ c = 0) ∨ ∃ b o, A = some ⟨b, o, none⟩
theorem hold_rs {w : World} {L : List (Row Lot)} {code : Int} {e : Ending} {w' : World} (h : HoldPost w L code e w') : ∃ (ys : List HoldV) (A : Option Addr) (c : Nat), e = .returned (.tuple #[.slice A ys.length c, .int .i64 code]) ∧ ys.map lgHoldV = L ∧ Rs w' 3 (ys.map encHoldV) A c ∧ FormA ys A c ∧ (∀ y ∈ ys, GoodHoldV w' y) ∧ Below w.heap.size w w' := by
  obtain ⟨v, ys, rfl, hl, hown, hg, hb⟩ := h
  obtain ⟨A, c, hv, hrs, hf⟩ := hown.rs
  rw [List.length_map] at hv
  subst hv
  refine ⟨ys, A, c, rfl, hl, hrs, ?_, hg, hb⟩
  rcases hf with ⟨h1, h2, h3⟩ | ⟨g, h1, _⟩
  · exact .inl ⟨h1, List.map_eq_nil_iff.1 h2, h3⟩
  · exact .inr ⟨g, 0, h1⟩
theorem hold1_rs {w : World} {L : List (Row Lot)} {e : Ending} {w' : World} (h : HoldPost1 w L e w') : ∃ (ys : List HoldV) (A : Option Addr) (c : Nat), e = .returned (.slice A ys.length c) ∧ ys.map lgHoldV = L ∧ Rs w' 3 (ys.map encHoldV) A c ∧ FormA ys A c ∧ (∀ y ∈ ys, GoodHoldV w' y) ∧ Below w.heap.size w w' := by
  obtain ⟨v, ys, rfl, hl, hown, hg, hb⟩ := h
  obtain ⟨A, c, hv, hrs, hf⟩ := hown.rs
  rw [List.length_map] at hv
  subst hv
  refine ⟨ys, A, c, rfl, hl, hrs, ?_, hg, hb⟩
  rcases hf with ⟨h1, h2, h3⟩ | ⟨g, h1, _⟩
  · exact .inl ⟨h1, List.map_eq_nil_iff.1 h2, h3⟩
  · exact .inr ⟨g, 0, h1⟩
theorem tak_le (l : List Lot) (x : Lot) : (takLL l x).length ≤ l.length := by
  unfold takLL
  split
  · split
    · simp; omega
    · simp
  · simp
theorem tak_zero {l : List Lot} {x : Lot} (h : takLC l x = 0) : thL l x = true ∧ x.qty ≤ (l.getD (plL l x) ⟨0, 0, 0⟩).qty ∧ 0 < x.qty := by
  unfold takLC at h
  by_cases hc : codeL l x = 0
  · rw [if_pos hc] at h
    unfold codeL at hc
    cases h1 : isL l
    · rw [h1] at hc; simp at hc
    · cases h2 : rightL x
      · rw [h1, h2] at hc; simp at hc
      · by_cases h3 : thL l x = true ∧ x.qty ≤ (l.getD (plL l x) ⟨0, 0, 0⟩).qty
        · exact ⟨h3.1, h3.2, (rightL_iff.1 h2).2.2.2.2⟩
        · rw [if_neg h3] at h; omega
  · rw [if_neg hc] at h; exact absurd h hc
theorem tak_in {l : List Lot} {x : Lot} (h : ∀ y ∈ l, In64 y.qty) : ∀ y ∈ takLL l x, In64 y.qty := by
  intro y hy
  unfold takLL at hy
  by_cases hz : takLC l x = 0
  · rw [if_pos hz] at hy
    obtain ⟨h1, h2, h3⟩ := tak_zero hz
    have h4 := thL_lt h1
    split at hy
    · rw [List.mem_append] at hy
      rcases hy with hy | hy
      · exact h y (List.mem_of_mem_take hy)
      · exact h y (List.mem_of_mem_drop hy)
    · rcases List.mem_or_eq_of_mem_set hy with hy | rfl
      · exact h y hy
      · rw [getD_at h4] at h2 ⊢
        have h5 := h _ (List.getElem_mem h4)
        unfold In64 at h5 ⊢
        dsimp only
        omega
  · rw [if_neg hz] at hy; simp at hy
theorem LQ.with {L : List (Row Lot)} (h : LQ L) (u : Un) {now : List Lot} (h1 : now.length ≤ 1000) (h2 : ∀ y ∈ now, In64 y.qty) : LQ (withK L u now) := by
  intro r hr
  rcases with_mem hr with ⟨hm, _⟩ | ⟨rfl, _⟩
  · exact h r hm
  · exact ⟨h1, h2⟩
theorem LQ.tak {L : List (Row Lot)} (h : LQ L) (u : Un) (x : Lot) : LQ (tkHL L u x) := by
  unfold tkHL
  split
  · have h1 := h.of u
    have h2 := tak_le (ofK L u) x
    exact h.with u (by omega) (tak_in h1.2)
  · intro r hr; simp at hr
theorem tkH_len (L : List (Row Lot)) (u : Un) (x : Lot) : (tkHL L u x).length ≤ L.length + 1 := by
  unfold tkHL
  split
  · exact with_len _ _ _
  · simp
theorem holdSetR (l : List HoldV) (u : Un) (all : List Lot) (A B : Option Addr) (c d : Nat) (w : World) (hl : l.length ≤ 2000) (hal : all.length ≤ 1000000) (hs : SortK (l.map lgHoldV)) (hr : Rs w 3 (l.map encHoldV) A c) (_ : FormA l A c) (hg : ∀ x ∈ l, GoodHoldV w x) (hrl : Rs w 3 (all.map encLot) B d) :
    Calls Try.prog 91 #[.slice A l.length c, .agg #[.int .i64 u.acc, .int .i64 u.cli], .slice B all.length d] w (HoldPost1 w (withK (l.map lgHoldV) u all)) := holdSet l u all A B c d w hl hal hs hr.rd hg hrl
theorem holdPutR (l : List HoldV) (u : Un) (x : Lot) (A : Option Addr) (c : Nat) (w : World) (hl : l.length ≤ 2000) (hq : LQ (l.map lgHoldV)) (hx : In64 x.qty) (hr : Rs w 3 (l.map encHoldV) A c) (_ : FormA l A c) (hg : ∀ x ∈ l, GoodHoldV w x) :
    Calls Try.prog 64 #[.slice A l.length c, .agg #[.int .i64 u.acc, .int .i64 u.cli], .agg #[.int .i64 x.asset, .int .i64 x.tag, .int .i64 x.qty]] w (HoldPost w (ptL (l.map lgHoldV) u x) (ptC (l.map lgHoldV) u x)) := holdPut l u x A c w hl hq hx hr.rd hg
theorem holdTakeR (l : List HoldV) (u : Un) (x : Lot) (A : Option Addr) (c : Nat) (w : World) (hl : l.length ≤ 2000) (hq : LQ (l.map lgHoldV)) (hx : In64 x.qty) (hr : Rs w 3 (l.map encHoldV) A c) (_ : FormA l A c) (hg : ∀ x ∈ l, GoodHoldV w x) :
    Calls Try.prog 66 #[.slice A l.length c, .agg #[.int .i64 u.acc, .int .i64 u.cli], .agg #[.int .i64 x.asset, .int .i64 x.tag, .int .i64 x.qty]] w (HoldPost w (tkHL (l.map lgHoldV) u x) (tkHC (l.map lgHoldV) u x)) := holdTake l u x A c w hl hq hx hr.rd hg
theorem holdOfR (l : List HoldV) (u : Un) (A : Option Addr) (c : Nat) (w : World) (hl : l.length ≤ 1000000) (hr : Rd w A 3 (l.map encHoldV)) (hg : ∀ x ∈ l, GoodHoldV w x) :
    Calls Try.prog 61 #[.slice A l.length c, .agg #[.int .i64 u.acc, .int .i64 u.cli]] w fun e w' => ∃ A2 c2, e = .returned (.slice A2 (ofK (l.map lgHoldV) u).length c2) ∧ Rs w' 3 ((ofK (l.map lgHoldV) u).map encLot) A2 c2 ∧ Below w.heap.size w w' := by
  refine (holdOf l u A c w hl hr hg).mono ?_
  rintro e w' ⟨v, rfl, hown, hb⟩
  obtain ⟨A2, c2, hv, hrs, _⟩ := hown.rs
  rw [List.length_map] at hv
  subst hv
  exact ⟨A2, c2, rfl, hrs, hb⟩
set_option maxRecDepth 100000 in
set_option maxHeartbeats 16000000 in
theorem holdMove (l : List HoldV) (a b : Un) (A : Option Addr) (c : Nat) (w : World) (hl : l.length ≤ 1000) (hq : LQ (l.map lgHoldV)) (hr : Rs w 3 (l.map encHoldV) A c) (hform : FormA l A c) (hg : ∀ x ∈ l, GoodHoldV w x) :
    Calls Try.prog 29 #[.slice A l.length c, .agg #[.int .i64 a.acc, .int .i64 a.cli], .agg #[.int .i64 b.acc, .int .i64 b.cli]] w (HoldPost w (mhL (l.map lgHoldV) a b) (mhC (l.map lgHoldV) a b)) := by
  have hof := hq.of a
  have hob := hq.of b
  have ci := fun W (h : Below w.heap.size w W) => holdIs l A c W (by omega) (hr.keep h).rd (fun x hx => (hg x hx).keep h)
  rw [show isHoldV l = isK isL (l.map lgHoldV) from rfl] at ci
  have ca := fun W (h : Below w.heap.size w W) => holdOfR l a A c W (by omega) (hr.keep h).rd (fun y hy => (hg y hy).keep h)
  have cb := fun W (h : Below w.heap.size w W) => holdOfR l b A c W (by omega) (hr.keep h).rd (fun y hy => (hg y hy).keep h)
  have c1 := fun (hs : SortK (l.map lgHoldV)) W (h : Below w.heap.size w W) => holdSetR l a [] A none c 0 W (by omega) (by simp) hs (hr.keep h) hform (fun y hy => (hg y hy).keep h) (Rs.empty _ _)
  simp only [List.length_nil] at c1
  have hwl := with_len (l.map lgHoldV) a []
  rw [List.length_map] at hwl
  have c2 := fun (hs : SortK (l.map lgHoldV)) (ys : List HoldV) W A5 A1 c5 c1 (hlg : ys.map lgHoldV = withK (l.map lgHoldV) a []) (h5 : Rs W 3 (ys.map encHoldV) A5 c5) (hf : FormA ys A5 c5) (hy : ∀ y ∈ ys, GoodHoldV W y) (h1 : Rs W 3 ((ofK (l.map lgHoldV) a).map encLot) A1 c1) => hlg ▸ holdSetR ys b (ofK (l.map lgHoldV) a) A5 A1 c5 c1 W (by have h1 := congrArg List.length hlg; rw [List.length_map] at h1; omega) (by omega) (by rw [hlg]; exact with_sort hs a []) h5 hf hy h1
  have hC : mhC (l.map lgHoldV) a b = if isK isL (l.map lgHoldV) then (if a = b then 24 else if 0 < (ofK (l.map lgHoldV) b).length then 21 else 0) else 3 := rfl
  have hL : mhL (l.map lgHoldV) a b = if mhC (l.map lgHoldV) a b = 0 then withK (withK (l.map lgHoldV) a []) b (ofK (l.map lgHoldV) a) else [] := rfl
  have CA := Lib.hid ca
  have CB := Lib.hid cb
  clear hr hg hq hof hob ca cb hform hwl
  generalize withK (withK (l.map lgHoldV) a []) b (ofK (l.map lgHoldV) a) = R2 at *
  generalize withK (l.map lgHoldV) a [] = R1 at *
  generalize mhL (l.map lgHoldV) a b = R at *
  generalize mhC (l.map lgHoldV) a b = code at *
  generalize ofK (l.map lgHoldV) a = Oa at *
  generalize ofK (l.map lgHoldV) b = Ob at *
  cases hi : isK isL (l.map lgHoldV)
  · rw [hi] at ci hC
    obtain rfl : code = 3 := hC
    have HL := Lib.hid (show R = [] from hL)
    have CI := Lib.hid ci
    clear ci c1 c2 hi hL
    go_enter Try.func29, Try.ntmps29
    go_wp2_with (first | (go_at_call 58; (with_reducible refine (CI.out _ (by (repeat' (first | (with_reducible exact Below.refl _ _) | (with_reducible assumption) | (with_reducible refine Below.alloc ?_ ?_ _) | (with_reducible refine Below.setCell ?_ ?_ _) | (with_reducible refine Below.drew ?_) | (with_reducible refine below_drewN ?_ _) | (with_reducible refine below_via ?_ (by with_reducible assumption) ?_) | omega | (simp; done) | (simp; omega))))).mono ?_); rintro e w9 ⟨rfl, hb9⟩; obtain ⟨fc9, fg9, hc9, hf9, hz9⟩ := bget hb9; (try simp at hz9)) | fail)
    go_ret2
    exact ⟨_, [], rfl, HL.out.symm, Own.nil _ _ _ _, fun y hy => absurd hy (by simp), by (repeat' (first | (with_reducible exact Below.refl _ _) | (with_reducible assumption) | (with_reducible refine Below.alloc ?_ ?_ _) | (with_reducible refine Below.setCell ?_ ?_ _) | (with_reducible refine Below.drew ?_) | (with_reducible refine below_drewN ?_ _) | (with_reducible refine below_via ?_ (by with_reducible assumption) ?_) | omega | (simp; done) | (simp; omega)))⟩
  rw [hi] at ci hC
  simp only [if_true] at hC
  have CI := Lib.hid ci
  have C1 := Lib.hid (c1 (isK_facts hi).1)
  have C2 := Lib.hid (c2 (isK_facts hi).1)
  clear ci c1 c2 hi
  rcases un_tHoldV (x := a) (u := b) with rfl | hne
  · rw [if_pos rfl] at hC
    subst hC
    have HL := Lib.hid (show R = [] from hL)
    clear hL
    go_enter Try.func29, Try.ntmps29
    go_wp2_with (first | (go_at_call 58; (with_reducible refine (CI.out _ (by (repeat' (first | (with_reducible exact Below.refl _ _) | (with_reducible assumption) | (with_reducible refine Below.alloc ?_ ?_ _) | (with_reducible refine Below.setCell ?_ ?_ _) | (with_reducible refine Below.drew ?_) | (with_reducible refine below_drewN ?_ _) | (with_reducible refine below_via ?_ (by with_reducible assumption) ?_) | omega | (simp; done) | (simp; omega))))).mono ?_); rintro e w9 ⟨rfl, hb9⟩; obtain ⟨fc9, fg9, hc9, hf9, hz9⟩ := bget hb9; (try simp at hz9)) | fail)
    go_ret2
    exact ⟨_, [], rfl, HL.out.symm, Own.nil _ _ _ _, fun y hy => absurd hy (by simp), by (repeat' (first | (with_reducible exact Below.refl _ _) | (with_reducible assumption) | (with_reducible refine Below.alloc ?_ ?_ _) | (with_reducible refine Below.setCell ?_ ?_ _) | (with_reducible refine Below.drew ?_) | (with_reducible refine below_drewN ?_ _) | (with_reducible refine below_via ?_ (by with_reducible assumption) ?_) | omega | (simp; done) | (simp; omega)))⟩
  rw [if_neg (un_dHoldV hne)] at hC
  cases hn : decide (0 < Ob.length)
  · rw [if_neg (by simpa using hn)] at hC
    subst hC
    have HL := Lib.hid (show R = R2 from hL)
    clear hL
    rcases hne with hne | hne
    all_goals
      go_enter Try.func29, Try.ntmps29
      go_wp2_with (first | (go_at_call 58; (with_reducible refine (CI.out _ (by (repeat' (first | (with_reducible exact Below.refl _ _) | (with_reducible assumption) | (with_reducible refine Below.alloc ?_ ?_ _) | (with_reducible refine Below.setCell ?_ ?_ _) | (with_reducible refine Below.drew ?_) | (with_reducible refine below_drewN ?_ _) | (with_reducible refine below_via ?_ (by with_reducible assumption) ?_) | omega | (simp; done) | (simp; omega))))).mono ?_); rintro e w9 ⟨rfl, hb9⟩; obtain ⟨fc9, fg9, hc9, hf9, hz9⟩ := bget hb9; (try simp at hz9)) | (go_at_call 61; (with_reducible refine (CB.out _ (by (repeat' (first | (with_reducible exact Below.refl _ _) | (with_reducible assumption) | (with_reducible refine Below.alloc ?_ ?_ _) | (with_reducible refine Below.setCell ?_ ?_ _) | (with_reducible refine Below.drew ?_) | (with_reducible refine below_drewN ?_ _) | (with_reducible refine below_via ?_ (by with_reducible assumption) ?_) | omega | (simp; done) | (simp; omega))))).mono ?_); rintro e w2 ⟨A2, c2, rfl, hrs2, hb2⟩; clear hrs2; obtain ⟨fc2, fg2, hc2, hf2, hz2⟩ := bget hb2; (try simp at hz2)) | (go_at_call 61; (with_reducible refine (CA.out _ (by (repeat' (first | (with_reducible exact Below.refl _ _) | (with_reducible assumption) | (with_reducible refine Below.alloc ?_ ?_ _) | (with_reducible refine Below.setCell ?_ ?_ _) | (with_reducible refine Below.drew ?_) | (with_reducible refine below_drewN ?_ _) | (with_reducible refine below_via ?_ (by with_reducible assumption) ?_) | omega | (simp; done) | (simp; omega))))).mono ?_); rintro e w1 ⟨A1, c1, rfl, hrs1, hb1⟩; have H1 := Lib.hid hrs1; clear hrs1; obtain ⟨fc1, fg1, hc1, hf1, hz1⟩ := bget hb1; (try simp at hz1)) | fail)
      go_region_held3 (fun w' => (w'.cell? ⟨w.heap.size, 0, none⟩ = some (.int .i64 a.acc) ∧ w'.cell? ⟨w.heap.size, 1, none⟩ = some (.int .i64 a.cli)) ∧ (w'.cell? ⟨w.heap.size + 1, 0, none⟩ = some (.int .i64 b.acc) ∧ w'.cell? ⟨w.heap.size + 1, 1, none⟩ = some (.int .i64 b.cli))) (first | (simp [go_sem]; done) | (repeat' (first | (with_reducible assumption) | (with_reducible refine And.intro ?_ ?_) | (with_reducible refine cell_drew ?_) | (with_reducible refine cell_via (by with_reducible assumption) ?_ ?_) | (simp [*]; done) | (simp [go_sem]; done) | (with_reducible refine cell_alloc ?_ ?_) | (with_reducible refine cell_set_far ?_ ?_) | omega | (simp; omega)))) (first | (go_at_call 61; (with_reducible refine (CA.out _ (by (repeat' (first | (with_reducible exact Below.refl _ _) | (with_reducible assumption) | (with_reducible refine Below.alloc ?_ ?_ _) | (with_reducible refine Below.setCell ?_ ?_ _) | (with_reducible refine Below.drew ?_) | (with_reducible refine below_drewN ?_ _) | (with_reducible refine below_via ?_ (by with_reducible assumption) ?_) | omega | (simp; done) | (simp; omega))))).mono ?_); rintro e w1 ⟨A1, c1, rfl, hrs1, hb1⟩; have H1 := Lib.hid hrs1; clear hrs1; obtain ⟨fc1, fg1, hc1, hf1, hz1⟩ := bget hb1; (try simp at hz1)) | (go_at_call 91; (with_reducible refine (C1.out _ (by (repeat' (first | (with_reducible exact Below.refl _ _) | (with_reducible assumption) | (with_reducible refine Below.alloc ?_ ?_ _) | (with_reducible refine Below.setCell ?_ ?_ _) | (with_reducible refine Below.drew ?_) | (with_reducible refine below_drewN ?_ _) | (with_reducible refine below_via ?_ (by with_reducible assumption) ?_) | omega | (simp; done) | (simp; omega))))).mono ?_); intro e w5 hp5; obtain ⟨ys, A5, c5, rfl, hlg5, hrs5, hfm5, hgd5, hb5⟩ := hold1_rs hp5; have HLG5 := Lib.hid hlg5; have H5 := Lib.hid hrs5; have HF5 := Lib.hid hfm5; have HG5 := Lib.hid hgd5; clear hp5 hlg5 hrs5 hfm5 hgd5; obtain ⟨fc5, fg5, hc5, hf5, hz5⟩ := bget hb5; (try simp at hz5)) | (go_at_call 91; (with_reducible refine (C2.out ys _ A5 A1 c5 c1 HLG5.out (H5.out.keep (by (repeat' (first | (with_reducible exact Below.refl _ _) | (with_reducible assumption) | (with_reducible refine Below.alloc ?_ ?_ _) | (with_reducible refine Below.setCell ?_ ?_ _) | (with_reducible refine Below.drew ?_) | (with_reducible refine below_drewN ?_ _) | (with_reducible refine below_via ?_ (by with_reducible assumption) ?_) | omega | (simp; done) | (simp; omega))))) HF5.out (fun y hy => (HG5.out y hy).keep (by (repeat' (first | (with_reducible exact Below.refl _ _) | (with_reducible assumption) | (with_reducible refine Below.alloc ?_ ?_ _) | (with_reducible refine Below.setCell ?_ ?_ _) | (with_reducible refine Below.drew ?_) | (with_reducible refine below_drewN ?_ _) | (with_reducible refine below_via ?_ (by with_reducible assumption) ?_) | omega | (simp; done) | (simp; omega))))) (H1.out.keep (by (repeat' (first | (with_reducible exact Below.refl _ _) | (with_reducible assumption) | (with_reducible refine Below.alloc ?_ ?_ _) | (with_reducible refine Below.setCell ?_ ?_ _) | (with_reducible refine Below.drew ?_) | (with_reducible refine below_drewN ?_ _) | (with_reducible refine below_via ?_ (by with_reducible assumption) ?_) | omega | (simp; done) | (simp; omega)))))).mono ?_); rintro e w6 ⟨v6, zs, rfl, hlg6, hown6, hgd6, hb6⟩; have HLG6 := Lib.hid hlg6; have HO6 := Lib.hid hown6; have HG6 := Lib.hid hgd6; clear hlg6 hown6 hgd6; obtain ⟨fc6, fg6, hc6, hf6, hz6⟩ := bget hb6; (try simp at hz6)) | fail)
      go_wp2_with fail
      go_ret2
      exact ⟨_, zs, rfl, HLG6.out.trans HL.out.symm, HO6.out.mono (by first | omega | (simp; done) | (simp; omega)), HG6.out, by (repeat' (first | (with_reducible exact Below.refl _ _) | (with_reducible assumption) | (with_reducible refine Below.alloc ?_ ?_ _) | (with_reducible refine Below.setCell ?_ ?_ _) | (with_reducible refine Below.drew ?_) | (with_reducible refine below_drewN ?_ _) | (with_reducible refine below_via ?_ (by with_reducible assumption) ?_) | omega | (simp; done) | (simp; omega)))⟩
  · rw [if_pos (by simpa using hn)] at hC
    subst hC
    have HL := Lib.hid (show R = [] from hL)
    clear hL
    rcases hne with hne | hne
    all_goals
      go_enter Try.func29, Try.ntmps29
      go_wp2_with (first | (go_at_call 58; (with_reducible refine (CI.out _ (by (repeat' (first | (with_reducible exact Below.refl _ _) | (with_reducible assumption) | (with_reducible refine Below.alloc ?_ ?_ _) | (with_reducible refine Below.setCell ?_ ?_ _) | (with_reducible refine Below.drew ?_) | (with_reducible refine below_drewN ?_ _) | (with_reducible refine below_via ?_ (by with_reducible assumption) ?_) | omega | (simp; done) | (simp; omega))))).mono ?_); rintro e w9 ⟨rfl, hb9⟩; obtain ⟨fc9, fg9, hc9, hf9, hz9⟩ := bget hb9; (try simp at hz9)) | (go_at_call 61; (with_reducible refine (CB.out _ (by (repeat' (first | (with_reducible exact Below.refl _ _) | (with_reducible assumption) | (with_reducible refine Below.alloc ?_ ?_ _) | (with_reducible refine Below.setCell ?_ ?_ _) | (with_reducible refine Below.drew ?_) | (with_reducible refine below_drewN ?_ _) | (with_reducible refine below_via ?_ (by with_reducible assumption) ?_) | omega | (simp; done) | (simp; omega))))).mono ?_); rintro e w2 ⟨A2, c2, rfl, hrs2, hb2⟩; clear hrs2; obtain ⟨fc2, fg2, hc2, hf2, hz2⟩ := bget hb2; (try simp at hz2)) | fail)
      go_ret2
      exact ⟨_, [], rfl, HL.out.symm, Own.nil _ _ _ _, fun y hy => absurd hy (by simp), by (repeat' (first | (with_reducible exact Below.refl _ _) | (with_reducible assumption) | (with_reducible refine Below.alloc ?_ ?_ _) | (with_reducible refine Below.setCell ?_ ?_ _) | (with_reducible refine Below.drew ?_) | (with_reducible refine below_drewN ?_ _) | (with_reducible refine below_via ?_ (by with_reducible assumption) ?_) | omega | (simp; done) | (simp; omega)))⟩
set_option maxRecDepth 100000 in
set_option maxHeartbeats 16000000 in
theorem ref26Move (l : List HoldV) (a b : Un) (A : Option Addr) (c : Nat) (w : World) (hl : l.length ≤ 1000) (hq : LQ (l.map lgHoldV)) (hr : Rs w 3 (l.map encHoldV) A c) (hform : FormA l A c) (hg : ∀ x ∈ l, GoodHoldV w x) :
    Calls Try.prog 30 #[.slice A l.length c, .agg #[.int .i64 a.acc, .int .i64 a.cli], .agg #[.int .i64 b.acc, .int .i64 b.cli]] w (HoldPost w (mhL (l.map lgHoldV) a b) (mhC (l.map lgHoldV) a b)) := by
  have hof := hq.of a
  have hob := hq.of b
  have ci := fun W (h : Below w.heap.size w W) => refHoldVIs l A c W (by omega) (hr.keep h).rd (fun x hx => (hg x hx).keep h)
  rw [show isHoldV l = isK isL (l.map lgHoldV) from rfl] at ci
  have ca := fun W (h : Below w.heap.size w W) => refHoldVOf l a A c W (by omega) (hr.keep h).rd (fun y hy => (hg y hy).keep h)
  have cb := fun W (h : Below w.heap.size w W) => refHoldVOf l b A c W (by omega) (hr.keep h).rd (fun y hy => (hg y hy).keep h)
  have c1 := fun (hs : SortK (l.map lgHoldV)) W (h : Below w.heap.size w W) => ref26With l a [] A none c 0 W (by omega) (by simp) hs (hr.keep h) hform (fun y hy => (hg y hy).keep h) (Rs.empty _ _)
  simp only [List.length_nil] at c1
  have hwl := with_len (l.map lgHoldV) a []
  rw [List.length_map] at hwl
  have c2 := fun (hs : SortK (l.map lgHoldV)) (ys : List HoldV) W A5 A1 c5 c1 (hlg : ys.map lgHoldV = withK (l.map lgHoldV) a []) (h5 : Rs W 3 (ys.map encHoldV) A5 c5) (hf : FormA ys A5 c5) (hy : ∀ y ∈ ys, GoodHoldV W y) (h1 : Rs W 3 ((ofK (l.map lgHoldV) a).map encLot) A1 c1) => hlg ▸ ref26With ys b (ofK (l.map lgHoldV) a) A5 A1 c5 c1 W (by have h1 := congrArg List.length hlg; rw [List.length_map] at h1; omega) (by omega) (by rw [hlg]; exact with_sort hs a []) h5 hf hy h1
  have hC : mhC (l.map lgHoldV) a b = if isK isL (l.map lgHoldV) then (if a = b then 24 else if 0 < (ofK (l.map lgHoldV) b).length then 21 else 0) else 3 := rfl
  have hL : mhL (l.map lgHoldV) a b = if mhC (l.map lgHoldV) a b = 0 then withK (withK (l.map lgHoldV) a []) b (ofK (l.map lgHoldV) a) else [] := rfl
  have CA := Lib.hid ca
  have CB := Lib.hid cb
  clear hr hg hq hof hob ca cb hform hwl
  generalize withK (withK (l.map lgHoldV) a []) b (ofK (l.map lgHoldV) a) = R2 at *
  generalize withK (l.map lgHoldV) a [] = R1 at *
  generalize mhL (l.map lgHoldV) a b = R at *
  generalize mhC (l.map lgHoldV) a b = code at *
  generalize ofK (l.map lgHoldV) a = Oa at *
  generalize ofK (l.map lgHoldV) b = Ob at *
  cases hi : isK isL (l.map lgHoldV)
  · rw [hi] at ci hC
    obtain rfl : code = 3 := hC
    have HL := Lib.hid (show R = [] from hL)
    have CI := Lib.hid ci
    clear ci c1 c2 hi hL
    go_enter Try.func30, Try.ntmps30
    go_wp2_with (first | (go_at_call 59; (with_reducible refine (CI.out _ (by (repeat' (first | (with_reducible exact Below.refl _ _) | (with_reducible assumption) | (with_reducible refine Below.alloc ?_ ?_ _) | (with_reducible refine Below.setCell ?_ ?_ _) | (with_reducible refine Below.drew ?_) | (with_reducible refine below_drewN ?_ _) | (with_reducible refine below_via ?_ (by with_reducible assumption) ?_) | omega | (simp; done) | (simp; omega))))).mono ?_); rintro e w9 ⟨rfl, hb9⟩; obtain ⟨fc9, fg9, hc9, hf9, hz9⟩ := bget hb9; (try simp at hz9)) | fail)
    go_ret2
    exact ⟨_, [], rfl, HL.out.symm, Own.nil _ _ _ _, fun y hy => absurd hy (by simp), by (repeat' (first | (with_reducible exact Below.refl _ _) | (with_reducible assumption) | (with_reducible refine Below.alloc ?_ ?_ _) | (with_reducible refine Below.setCell ?_ ?_ _) | (with_reducible refine Below.drew ?_) | (with_reducible refine below_drewN ?_ _) | (with_reducible refine below_via ?_ (by with_reducible assumption) ?_) | omega | (simp; done) | (simp; omega)))⟩
  rw [hi] at ci hC
  simp only [if_true] at hC
  have CI := Lib.hid ci
  have C1 := Lib.hid (c1 (isK_facts hi).1)
  have C2 := Lib.hid (c2 (isK_facts hi).1)
  clear ci c1 c2 hi
  rcases un_tHoldV (x := a) (u := b) with rfl | hne
  · rw [if_pos rfl] at hC
    subst hC
    have HL := Lib.hid (show R = [] from hL)
    clear hL
    go_enter Try.func30, Try.ntmps30
    go_wp2_with (first | (go_at_call 59; (with_reducible refine (CI.out _ (by (repeat' (first | (with_reducible exact Below.refl _ _) | (with_reducible assumption) | (with_reducible refine Below.alloc ?_ ?_ _) | (with_reducible refine Below.setCell ?_ ?_ _) | (with_reducible refine Below.drew ?_) | (with_reducible refine below_drewN ?_ _) | (with_reducible refine below_via ?_ (by with_reducible assumption) ?_) | omega | (simp; done) | (simp; omega))))).mono ?_); rintro e w9 ⟨rfl, hb9⟩; obtain ⟨fc9, fg9, hc9, hf9, hz9⟩ := bget hb9; (try simp at hz9)) | fail)
    go_ret2
    exact ⟨_, [], rfl, HL.out.symm, Own.nil _ _ _ _, fun y hy => absurd hy (by simp), by (repeat' (first | (with_reducible exact Below.refl _ _) | (with_reducible assumption) | (with_reducible refine Below.alloc ?_ ?_ _) | (with_reducible refine Below.setCell ?_ ?_ _) | (with_reducible refine Below.drew ?_) | (with_reducible refine below_drewN ?_ _) | (with_reducible refine below_via ?_ (by with_reducible assumption) ?_) | omega | (simp; done) | (simp; omega)))⟩
  rw [if_neg (un_dHoldV hne)] at hC
  cases hn : decide (0 < Ob.length)
  · rw [if_neg (by simpa using hn)] at hC
    subst hC
    have HL := Lib.hid (show R = R2 from hL)
    clear hL
    rcases hne with hne | hne
    all_goals
      go_enter Try.func30, Try.ntmps30
      go_wp2_with (first | (go_at_call 59; (with_reducible refine (CI.out _ (by (repeat' (first | (with_reducible exact Below.refl _ _) | (with_reducible assumption) | (with_reducible refine Below.alloc ?_ ?_ _) | (with_reducible refine Below.setCell ?_ ?_ _) | (with_reducible refine Below.drew ?_) | (with_reducible refine below_drewN ?_ _) | (with_reducible refine below_via ?_ (by with_reducible assumption) ?_) | omega | (simp; done) | (simp; omega))))).mono ?_); rintro e w9 ⟨rfl, hb9⟩; obtain ⟨fc9, fg9, hc9, hf9, hz9⟩ := bget hb9; (try simp at hz9)) | (go_at_call 62; (with_reducible refine (CB.out _ (by (repeat' (first | (with_reducible exact Below.refl _ _) | (with_reducible assumption) | (with_reducible refine Below.alloc ?_ ?_ _) | (with_reducible refine Below.setCell ?_ ?_ _) | (with_reducible refine Below.drew ?_) | (with_reducible refine below_drewN ?_ _) | (with_reducible refine below_via ?_ (by with_reducible assumption) ?_) | omega | (simp; done) | (simp; omega))))).mono ?_); rintro e w2 ⟨A2, c2, rfl, hrs2, hb2⟩; clear hrs2; obtain ⟨fc2, fg2, hc2, hf2, hz2⟩ := bget hb2; (try simp at hz2)) | (go_at_call 62; (with_reducible refine (CA.out _ (by (repeat' (first | (with_reducible exact Below.refl _ _) | (with_reducible assumption) | (with_reducible refine Below.alloc ?_ ?_ _) | (with_reducible refine Below.setCell ?_ ?_ _) | (with_reducible refine Below.drew ?_) | (with_reducible refine below_drewN ?_ _) | (with_reducible refine below_via ?_ (by with_reducible assumption) ?_) | omega | (simp; done) | (simp; omega))))).mono ?_); rintro e w1 ⟨A1, c1, rfl, hrs1, hb1⟩; have H1 := Lib.hid hrs1; clear hrs1; obtain ⟨fc1, fg1, hc1, hf1, hz1⟩ := bget hb1; (try simp at hz1)) | fail)
      go_region_held3 (fun w' => (w'.cell? ⟨w.heap.size, 0, none⟩ = some (.int .i64 a.acc) ∧ w'.cell? ⟨w.heap.size, 1, none⟩ = some (.int .i64 a.cli)) ∧ (w'.cell? ⟨w.heap.size + 1, 0, none⟩ = some (.int .i64 b.acc) ∧ w'.cell? ⟨w.heap.size + 1, 1, none⟩ = some (.int .i64 b.cli))) (first | (simp [go_sem]; done) | (repeat' (first | (with_reducible assumption) | (with_reducible refine And.intro ?_ ?_) | (with_reducible refine cell_drew ?_) | (with_reducible refine cell_via (by with_reducible assumption) ?_ ?_) | (simp [*]; done) | (simp [go_sem]; done) | (with_reducible refine cell_alloc ?_ ?_) | (with_reducible refine cell_set_far ?_ ?_) | omega | (simp; omega)))) (first | (go_at_call 62; (with_reducible refine (CA.out _ (by (repeat' (first | (with_reducible exact Below.refl _ _) | (with_reducible assumption) | (with_reducible refine Below.alloc ?_ ?_ _) | (with_reducible refine Below.setCell ?_ ?_ _) | (with_reducible refine Below.drew ?_) | (with_reducible refine below_drewN ?_ _) | (with_reducible refine below_via ?_ (by with_reducible assumption) ?_) | omega | (simp; done) | (simp; omega))))).mono ?_); rintro e w1 ⟨A1, c1, rfl, hrs1, hb1⟩; have H1 := Lib.hid hrs1; clear hrs1; obtain ⟨fc1, fg1, hc1, hf1, hz1⟩ := bget hb1; (try simp at hz1)) | (go_at_call 92; (with_reducible refine (C1.out _ (by (repeat' (first | (with_reducible exact Below.refl _ _) | (with_reducible assumption) | (with_reducible refine Below.alloc ?_ ?_ _) | (with_reducible refine Below.setCell ?_ ?_ _) | (with_reducible refine Below.drew ?_) | (with_reducible refine below_drewN ?_ _) | (with_reducible refine below_via ?_ (by with_reducible assumption) ?_) | omega | (simp; done) | (simp; omega))))).mono ?_); intro e w5 hp5; obtain ⟨ys, A5, c5, rfl, hlg5, hrs5, hfm5, hgd5, hb5⟩ := hold1_rs hp5; have HLG5 := Lib.hid hlg5; have H5 := Lib.hid hrs5; have HF5 := Lib.hid hfm5; have HG5 := Lib.hid hgd5; clear hp5 hlg5 hrs5 hfm5 hgd5; obtain ⟨fc5, fg5, hc5, hf5, hz5⟩ := bget hb5; (try simp at hz5)) | (go_at_call 92; (with_reducible refine (C2.out ys _ A5 A1 c5 c1 HLG5.out (H5.out.keep (by (repeat' (first | (with_reducible exact Below.refl _ _) | (with_reducible assumption) | (with_reducible refine Below.alloc ?_ ?_ _) | (with_reducible refine Below.setCell ?_ ?_ _) | (with_reducible refine Below.drew ?_) | (with_reducible refine below_drewN ?_ _) | (with_reducible refine below_via ?_ (by with_reducible assumption) ?_) | omega | (simp; done) | (simp; omega))))) HF5.out (fun y hy => (HG5.out y hy).keep (by (repeat' (first | (with_reducible exact Below.refl _ _) | (with_reducible assumption) | (with_reducible refine Below.alloc ?_ ?_ _) | (with_reducible refine Below.setCell ?_ ?_ _) | (with_reducible refine Below.drew ?_) | (with_reducible refine below_drewN ?_ _) | (with_reducible refine below_via ?_ (by with_reducible assumption) ?_) | omega | (simp; done) | (simp; omega))))) (H1.out.keep (by (repeat' (first | (with_reducible exact Below.refl _ _) | (with_reducible assumption) | (with_reducible refine Below.alloc ?_ ?_ _) | (with_reducible refine Below.setCell ?_ ?_ _) | (with_reducible refine Below.drew ?_) | (with_reducible refine below_drewN ?_ _) | (with_reducible refine below_via ?_ (by with_reducible assumption) ?_) | omega | (simp; done) | (simp; omega)))))).mono ?_); rintro e w6 ⟨v6, zs, rfl, hlg6, hown6, hgd6, hb6⟩; have HLG6 := Lib.hid hlg6; have HO6 := Lib.hid hown6; have HG6 := Lib.hid hgd6; clear hlg6 hown6 hgd6; obtain ⟨fc6, fg6, hc6, hf6, hz6⟩ := bget hb6; (try simp at hz6)) | fail)
      go_wp2_with fail
      go_ret2
      exact ⟨_, zs, rfl, HLG6.out.trans HL.out.symm, HO6.out.mono (by first | omega | (simp; done) | (simp; omega)), HG6.out, by (repeat' (first | (with_reducible exact Below.refl _ _) | (with_reducible assumption) | (with_reducible refine Below.alloc ?_ ?_ _) | (with_reducible refine Below.setCell ?_ ?_ _) | (with_reducible refine Below.drew ?_) | (with_reducible refine below_drewN ?_ _) | (with_reducible refine below_via ?_ (by with_reducible assumption) ?_) | omega | (simp; done) | (simp; omega)))⟩
  · rw [if_pos (by simpa using hn)] at hC
    subst hC
    have HL := Lib.hid (show R = [] from hL)
    clear hL
    rcases hne with hne | hne
    all_goals
      go_enter Try.func30, Try.ntmps30
      go_wp2_with (first | (go_at_call 59; (with_reducible refine (CI.out _ (by (repeat' (first | (with_reducible exact Below.refl _ _) | (with_reducible assumption) | (with_reducible refine Below.alloc ?_ ?_ _) | (with_reducible refine Below.setCell ?_ ?_ _) | (with_reducible refine Below.drew ?_) | (with_reducible refine below_drewN ?_ _) | (with_reducible refine below_via ?_ (by with_reducible assumption) ?_) | omega | (simp; done) | (simp; omega))))).mono ?_); rintro e w9 ⟨rfl, hb9⟩; obtain ⟨fc9, fg9, hc9, hf9, hz9⟩ := bget hb9; (try simp at hz9)) | (go_at_call 62; (with_reducible refine (CB.out _ (by (repeat' (first | (with_reducible exact Below.refl _ _) | (with_reducible assumption) | (with_reducible refine Below.alloc ?_ ?_ _) | (with_reducible refine Below.setCell ?_ ?_ _) | (with_reducible refine Below.drew ?_) | (with_reducible refine below_drewN ?_ _) | (with_reducible refine below_via ?_ (by with_reducible assumption) ?_) | omega | (simp; done) | (simp; omega))))).mono ?_); rintro e w2 ⟨A2, c2, rfl, hrs2, hb2⟩; clear hrs2; obtain ⟨fc2, fg2, hc2, hf2, hz2⟩ := bget hb2; (try simp at hz2)) | fail)
      go_ret2
      exact ⟨_, [], rfl, HL.out.symm, Own.nil _ _ _ _, fun y hy => absurd hy (by simp), by (repeat' (first | (with_reducible exact Below.refl _ _) | (with_reducible assumption) | (with_reducible refine Below.alloc ?_ ?_ _) | (with_reducible refine Below.setCell ?_ ?_ _) | (with_reducible refine Below.drew ?_) | (with_reducible refine below_drewN ?_ _) | (with_reducible refine below_via ?_ (by with_reducible assumption) ?_) | omega | (simp; done) | (simp; omega)))⟩
end Go.Proofs.Ytiidplinmempcaa

/- Holds: contracts of Total, the reference's Total. -/
namespace Go.Proofs.Ytiidplinmempcaa
open Go.RowKit
def totF (a : Int) : List Lot → Int := fun r => sumL r a
/-- How much each has of an asset. -/
def totsH (a : Int) (l : List HoldV) : List Int := l.map fun x => sumL x.lots.val a
theorem totsH_sum (a : Int) (l : List HoldV) : (totsH a l).sum = sumK (totF a) (l.map lgHoldV) := by
  unfold totsH sumK
  rw [List.map_map]; rfl
theorem sumL_bound {l : List Lot} (hl : l.length ≤ 1000) (h : ∀ y ∈ l, In64 y.qty) (a : Int) : -9223372036854775808000 ≤ sumL l a ∧ sumL l a ≤ 9223372036854775807000 := by
  have h1 := sum_bound64 (l := qtyL l a) fun z hz => by
    obtain ⟨y, hy, rfl⟩ := qtyL_mem hz
    exact h y hy
  have h2 := qtyL_len l a
  unfold sumL
  omega
theorem tots_bound (a : Int) : ∀ {l : List HoldV} (_ : LQ (l.map lgHoldV)), -9223372036854775808000 * (l.length : Int) ≤ (totsH a l).sum ∧ (totsH a l).sum ≤ 9223372036854775807000 * (l.length : Int)
  | [], _ => by simp [totsH]
  | x :: t, h => by
    have h1 := tots_bound a (l := t) fun r hr => h r (by rw [List.map_cons]; exact List.mem_cons_of_mem _ hr)
    have h2 := h (lgHoldV x) (by simp)
    have h3 := sumL_bound h2.1 h2.2 a
    have e : totsH a (x :: t) = sumL x.lots.val a :: totsH a t := rfl
    rw [e, List.sum_cons, List.length_cons]
    have h4 : sumL (lgHoldV x).rows a = sumL x.lots.val a := rfl
    rw [h4] at h3
    omega
theorem tot_in {l : List HoldV} (h : LQ (l.map lgHoldV)) (hl : l.length ≤ 2000) (a : Int) : In128 (totsH a l).sum := by
  have h1 := tots_bound a h
  unfold In128
  omega
theorem rowsWH (l : List Int) : ∀ r ∈ l.map encW, r.length = 2 ∧ ∀ u ∈ r, u.oneCell' = true := by
  intro r hr
  obtain ⟨m, _, rfl⟩ := List.mem_map.1 hr
  refine ⟨rfl, ?_⟩
  simp only [encW, List.mem_cons, List.not_mem_nil, or_false, forall_eq_or_imp, forall_eq]
  exact ⟨rfl, rfl⟩
set_option maxRecDepth 100000 in
set_option maxHeartbeats 8000000 in
theorem holdTotal (l : List HoldV) (a : Int) (A : Option Addr) (c : Nat) (w : World) (hl : l.length ≤ 2000) (hq : LQ (l.map lgHoldV)) (hr : Rd w A 3 (l.map encHoldV)) (hg : ∀ x ∈ l, GoodHoldV w x) :
    Calls Try.prog 57 #[.slice A l.length c, .int .i64 a] w fun e w' => e = .returned (.agg #[.int .i64 (whi ((totsH a l).sum)), .int .u64 (wlo ((totsH a l).sum))]) ∧ Below w.heap.size w w' := by
  have HR := Lib.hid hr
  have HG := Lib.hid hg
  have H128 := Lib.hid (tot_in hq hl a)
  have HB := Lib.hid (fun x (hx : x ∈ l) => hq (lgHoldV x) (List.mem_map.2 ⟨x, hx, rfl⟩))
  have H1 := Lib.hid (fun z (hz : z ∈ totsH a l) => (show In128 z from by
    obtain ⟨x, hx, rfl⟩ := List.mem_map.1 hz
    have h2 := hq (lgHoldV x) (List.mem_map.2 ⟨x, hx, rfl⟩)
    have h3 := sumL_bound h2.1 h2.2 a
    have h4 : sumL (lgHoldV x).rows a = sumL x.lots.val a := rfl
    rw [h4] at h3
    unfold In128
    omega))
  obtain ⟨S, hS⟩ : ∃ S, S = (totsH a l).sum := ⟨_, rfl⟩
  have HS := Lib.hid hS.symm
  rw [← hS]
  clear hr hg hq hS
  go_enter Try.func57, Try.ntmps57
  go_wp2_with fail
  go_loopw [5, 12] (fun v i wr => ∃ k : Nat, k ≤ l.length ∧ i = .int .i64 k ∧ Own wr (w.heap.size + 1) 28 2 v ((totsH a (l.take k)).map encW) ∧ Below w.heap.size w wr ∧ w.heap.size < wr.heap.size ∧ (wr.cell? ⟨w.heap.size, 0, none⟩ = some (.int .i64 0) ∧ wr.cell? ⟨w.heap.size, 1, none⟩ = some (.int .u64 0)) ∧ wr.frozen? ⟨w.heap.size, 0, none⟩ = false ∧ wr.frozen? ⟨w.heap.size, 1, none⟩ = false) (fun _ i _ => l.length - (intOf i).toNat)
  case atStart => exact ⟨0, Nat.zero_le _, rfl, Own.nil _ _ _ _, by (repeat' (first | (with_reducible exact Below.refl _ _) | (with_reducible assumption) | (with_reducible refine Below.alloc ?_ ?_ _) | (with_reducible refine Below.setCell ?_ ?_ _) | (with_reducible refine Below.drew ?_) | (with_reducible refine below_drewN ?_ _) | (with_reducible refine below_via ?_ (by with_reducible assumption) ?_) | omega | (simp; done) | (simp; omega))), by simp, by simp [go_sem], by simp [go_sem]⟩
  case round =>
    obtain ⟨k, hk, rfl, hown, hbl, hsz, ⟨z0, z1⟩, y0, y1⟩ := hrel
    have Hown := Lib.hid hown
    have Hbl := Lib.hid hbl
    have hz := hbl.size
    clear hown hbl
    by_cases hlt : k < l.length
    · have kl : (k : Int) < (l.length : Int) := by omega
      have dl : decide ((k : Int) < (l.length : Int)) = true := by simpa using hlt
      obtain ⟨b, o, rfl, hb, hc⟩ := HR.out k (encHoldV l[k]) (by simp [hlt])
      have e0 := (Hbl.out.cell (p := ⟨b, o + k * 3 + 0, none⟩) hb).trans (hc 0 _ rfl)
      have e1 := (Hbl.out.cell (p := ⟨b, o + k * 3 + 1, none⟩) hb).trans (hc 1 _ rfl)
      have e2 := (Hbl.out.cell (p := ⟨b, o + k * 3 + 2, none⟩) hb).trans (hc 2 _ rfl)
      simp only [Nat.add_zero] at e0
      clear hc
      have hbw : b < wr.heap.size := by omega
      have hgk := HG.out l[k] (List.getElem_mem hlt)
      have hqk := HB.out l[k] (List.getElem_mem hlt)
      have HGK := Lib.hid (hgk.2.keep Hbl.out)
      have hlen : (totsH a (l.take k)).length ≤ 2000 := by simp [totsH]; omega
      obtain ⟨n, hn⟩ : ∃ n, n = sumL l[k].lots.val a := ⟨_, rfl⟩
      have HN := Lib.hid (show totsH a (l.take (k + 1)) = totsH a (l.take k) ++ [n] from by unfold totsH; rw [map_snoc hlt, hn])
      have CV := Lib.hid (fun W (h : Rd W l[k].lots.A 3 (l[k].lots.val.map encLot)) => hn ▸ lotSum l[k].lots.val a l[k].lots.A l[k].lots.c W (by have := hqk.1; unfold lgHoldV at this; dsimp only at this; omega) hqk.2 h)
      clear hgk hqk hn
      generalize totsH a (l.take k) = z at *
      go_wp2_with (first | (go_at_call 111; (with_reducible refine (CV.out _ (HGK.out.keep (by (repeat' (first | (with_reducible exact Below.refl _ _) | (with_reducible assumption) | (with_reducible refine Below.alloc ?_ ?_ _) | (with_reducible refine Below.setCell ?_ ?_ _) | (with_reducible refine Below.drew ?_) | (with_reducible refine below_drewN ?_ _) | (with_reducible refine below_via ?_ (by with_reducible assumption) ?_) | omega | (simp; done) | (simp; omega))))).rd).mono ?_); rintro e w2 ⟨rfl, hb2⟩; obtain ⟨fc2, fg2, hc2, hf2, hz2⟩ := bget hb2; (try simp at hz2)) | (at_builtin; refine wpList_app rfl _ _ _ rfl elW (w.heap.size + 1) _ _ rfl ((Hown.out.keep (by (repeat' (first | (with_reducible exact Below.refl _ _) | (with_reducible assumption) | (with_reducible refine Below.alloc ?_ ?_ _) | (with_reducible refine Below.setCell ?_ ?_ _) | (with_reducible refine Below.drew ?_) | (with_reducible refine below_drewN ?_ _) | (with_reducible refine below_via ?_ (by with_reducible assumption) ?_) | omega | (simp; done) | (simp; omega))))).alloc _) (some ⟨_, 0, none⟩) 1 1 rfl [encW n] rfl (fun h => by cases h) (rd_oneN (by simp)) (rowsWH [n]) (by unfold maxLen; first | (simp; done) | omega | (simp; omega)) (by first | (simp; done) | omega | (simp; omega)) (by first | omega | (simp; done) | (simp; omega)) ?_; intro v3 w3 hown3 hb3; obtain ⟨fc3, fg3, hc3, hf3, hz3⟩ := bget hb3; (try simp at hz3)) | fail)
      go_roundw
      case rel => exact ⟨k + 1, by omega, by go_num, by rw [HN.out, List.map_append]; exact hown3, by have hbl := Hbl.out; (repeat' (first | (with_reducible exact Below.refl _ _) | (with_reducible assumption) | (with_reducible refine Below.alloc ?_ ?_ _) | (with_reducible refine Below.setCell ?_ ?_ _) | (with_reducible refine Below.drew ?_) | (with_reducible refine below_drewN ?_ _) | (with_reducible refine below_via ?_ (by with_reducible assumption) ?_) | omega | (simp; done) | (simp; omega))), by first | omega | (simp at hz3; omega), by simp [hc3, hc2, go_sem, z0, z1, hsz, ↓IntWalk.iteOmega], by simp [hf3, hf2, go_sem, y0, y1, hsz, ↓IntWalk.iteOmega]⟩
      case measure => simp [intOf]; omega
    · have dl : decide ((k : Int) < (l.length : Int)) = false := by simpa using hlt
      have HT := Lib.hid (show l.take k = l from List.take_of_length_le (by omega))
      have hown := Hown.out
      rw [HT.out] at hown
      obtain ⟨A9, c9, hv9, hrs9, _⟩ := hown.rs
      rw [List.length_map] at hv9
      subst hv9
      have CA := Lib.hid (fun W (h : Below wr.heap.size wr W) => HS.out ▸ wideAddYes (totsH a l) A9 c9 W (by simp [totsH]; omega) H1.out (hrs9.keep h).rd H128.out)
      clear hown hrs9
      generalize totsH a l = z at *
      go_wp2_with (first | (go_at_call 74; (with_reducible refine (CA.out _ (by (repeat' (first | (with_reducible exact Below.refl _ _) | (with_reducible assumption) | (with_reducible refine Below.alloc ?_ ?_ _) | (with_reducible refine Below.setCell ?_ ?_ _) | (with_reducible refine Below.drew ?_) | (with_reducible refine below_drewN ?_ _) | (with_reducible refine below_via ?_ (by with_reducible assumption) ?_) | omega | (simp; done) | (simp; omega))))).mono ?_); rintro e w1 ⟨rfl, hb1⟩; obtain ⟨fc1, fg1, hc1, hf1, hz1⟩ := bget hb1; (try simp at hz1)) | fail)
      have hbl := Hbl.out
      refine bodyPost_ret (by simp [results, Try.results57, go_sem, hc1, z0, z1, hsz, ↓IntWalk.iteOmega]; try rfl) rfl ⟨rfl, ?_⟩
      (repeat' (first | (with_reducible exact Below.refl _ _) | (with_reducible assumption) | (with_reducible refine Below.alloc ?_ ?_ _) | (with_reducible refine Below.setCell ?_ ?_ _) | (with_reducible refine Below.drew ?_) | (with_reducible refine below_drewN ?_ _) | (with_reducible refine below_via ?_ (by with_reducible assumption) ?_) | omega | (simp; done) | (simp; omega)))
set_option maxRecDepth 100000 in
set_option maxHeartbeats 16000000 in
theorem ref26Total (l : List HoldV) (a : Int) (A : Option Addr) (c : Nat) (w : World) (hl : l.length ≤ 1000) (h40 : ∀ x ∈ l, x.lots.val.length ≤ 40) (hq : LQ (l.map lgHoldV)) (hr : Rd w A 3 (l.map encHoldV)) (hg : ∀ x ∈ l, GoodHoldV w x) :
    Calls Try.prog 63 #[.slice A l.length c, .int .i64 a] w (BigPost w (totsH a l).sum 2000) := by
  have HR := Lib.hid hr
  have HG := Lib.hid hg
  have H40 := Lib.hid h40
  have HB := Lib.hid (fun x (hx : x ∈ l) => hq (lgHoldV x) (List.mem_map.2 ⟨x, hx, rfl⟩))
  clear hr hg hq h40
  go_enter Try.func63, Try.ntmps63
  go_wp2_with fail
  go_loopw [6] (fun i wr => ∃ (k : Nat) (s2 : Bool) (A2 : Option Addr) (l2 : List Int) (c2 : Nat), k ≤ l.length ∧ i = .int .i64 k ∧ IsBig wr (totsH a (l.take k)).sum s2 A2 l2 c2 ∧ l2.length ≤ 300 + k ∧ Blk wr (w.heap.size + 1) 34 #[.bool s2, .slice A2 l2.length c2] ∧ Below (w.heap.size + 1) (w.alloc (.cells #[.bool false, .slice none 0 0] 34)) wr) (fun i _ => l.length - (intOf i).toNat)
  case atStart => exact ⟨0, false, none, [], 0, Nat.zero_le _, rfl, isBig_nil2, by simp, Blk.here (by simp), by (repeat' (first | (with_reducible exact Below.refl _ _) | (with_reducible assumption) | (with_reducible refine Below.alloc ?_ ?_ _) | (with_reducible refine Below.setCell ?_ ?_ _) | (with_reducible refine Below.drew ?_) | (with_reducible refine below_drewN ?_ _) | (with_reducible refine below_via ?_ (by with_reducible assumption) ?_) | omega | (simp; done) | (simp; omega)))⟩
  case round =>
    obtain ⟨k, s2, A2, l2, c2, hk, rfl, hB2, hl2, hbk, hbl⟩ := hrel
    have hz := hbl.size
    simp at hz
    have b0 := hbk.cell 0
    have b1 := hbk.cell 1
    have z0 := hbk.frozen 0
    have z1 := hbk.frozen 1
    have ug := hbk.lt
    have r0 := (hbl.cell (p := ⟨w.heap.size, 0, none⟩) (by simp))
    have r1 := (hbl.cell (p := ⟨w.heap.size, 1, none⟩) (by simp))
    have f0 := (hbl.frozen (p := ⟨w.heap.size, 0, none⟩) (by simp))
    have f1 := (hbl.frozen (p := ⟨w.heap.size, 1, none⟩) (by simp))
    simp [go_sem] at b0 b1 r0 r1 f0 f1
    have HB2 := Lib.hid hB2
    have Hbk := Lib.hid hbk
    have Hbl := Lib.hid hbl
    have Hbw := Lib.hid (show Below w.heap.size w wr from ((Below.refl _ _).alloc (Nat.le_refl _) _).trans (hbl.mono (Nat.le_succ _)))
    clear hB2 hbk hbl
    by_cases hlt : k < l.length
    · have d2 : decide ((k : Int) < (l.length : Int)) = true := by simpa using hlt
      have kl : (k : Int) < (l.length : Int) := by omega
      obtain ⟨b, o, rfl, hb, hc⟩ := HR.out k (encHoldV l[k]) (by simp [hlt])
      have e2 := (Hbw.out.cell (p := ⟨b, o + k * 3 + 2, none⟩) hb).trans (hc 2 _ rfl)
      clear hc
      have hbw : b < wr.heap.size := by omega
      have hgk := HG.out l[k] (List.getElem_mem hlt)
      have hqk := HB.out l[k] (List.getElem_mem hlt)
      have h4k := H40.out l[k] (List.getElem_mem hlt)
      have HGK := Lib.hid (hgk.2.keep Hbw.out)
      obtain ⟨n, hn⟩ : ∃ n, n = sumL l[k].lots.val a := ⟨_, rfl⟩
      have CV := Lib.hid (fun W (h : Rd W l[k].lots.A 3 (l[k].lots.val.map encLot)) => hn ▸ ref18Sum l[k].lots.val a l[k].lots.A l[k].lots.c W h4k hqk.2 h)
      have HS := Lib.hid (show (totsH a (l.take (k + 1))).sum = (totsH a (l.take k)).sum + n from by unfold totsH; rw [map_snoc hlt, List.sum_append, hn]; simp)
      clear hgk hqk hn
      generalize (totsH a (l.take k)).sum = sm at *
      go_wp2_with fail
      go_region_with (first | (go_at_call 115; (with_reducible refine (CV.out _ (HGK.out.keep (by (repeat' (first | (with_reducible exact Below.refl _ _) | (with_reducible assumption) | (with_reducible refine Below.alloc ?_ ?_ _) | (with_reducible refine Below.setCell ?_ ?_ _) | (with_reducible refine Below.drew ?_) | (with_reducible refine below_drewN ?_ _) | (with_reducible refine below_via ?_ (by with_reducible assumption) ?_) | omega | (simp; done) | (simp; omega))))).rd).mono ?_); rintro e w3 ⟨s3, A3, l3, c3, rfl, hB3, hl3, hb3⟩; have HB3 := Lib.hid hB3; clear hB3; obtain ⟨fc3, fg3, hc3, hf3, hz3⟩ := bget hb3; (try simp at hz3)) | (go_at_call 24; (with_reducible refine (bigAdd sm n s2 s3 l2 l3 A2 A3 c2 c3 (300 + k) _ (by omega) (by omega) (by omega) (HB2.out.keep (by (repeat' (first | (with_reducible exact Below.refl _ _) | (with_reducible assumption) | (with_reducible refine Below.alloc ?_ ?_ _) | (with_reducible refine Below.setCell ?_ ?_ _) | (with_reducible refine Below.drew ?_) | (with_reducible refine below_drewN ?_ _) | (with_reducible refine below_via ?_ (by with_reducible assumption) ?_) | omega | (simp; done) | (simp; omega))))) (HB3.out.keep (by (repeat' (first | (with_reducible exact Below.refl _ _) | (with_reducible assumption) | (with_reducible refine Below.alloc ?_ ?_ _) | (with_reducible refine Below.setCell ?_ ?_ _) | (with_reducible refine Below.drew ?_) | (with_reducible refine below_drewN ?_ _) | (with_reducible refine below_via ?_ (by with_reducible assumption) ?_) | omega | (simp; done) | (simp; omega)))))).mono ?_); rintro e w4 ⟨s4, A4, l4, c4, rfl, hB4, hl4, hb4⟩; have HB4 := Lib.hid hB4; clear hB4; obtain ⟨fc4, fg4, hc4, hf4, hz4⟩ := bget hb4; (try simp at hz4)) | fail)
      all_goals
        go_wp2_with fail
        go_roundw
        case rel =>
          have h4 : Below wr.heap.size wr w4 := by (repeat' (first | (with_reducible exact Below.refl _ _) | (with_reducible assumption) | (with_reducible refine Below.alloc ?_ ?_ _) | (with_reducible refine Below.setCell ?_ ?_ _) | (with_reducible refine Below.drew ?_) | (with_reducible refine below_drewN ?_ _) | (with_reducible refine below_via ?_ (by with_reducible assumption) ?_) | omega | (simp; done) | (simp; omega)))
          have t0 : w4.cell? ⟨w.heap.size + 1, 0, none⟩ = some (.bool s2) := (h4.cell (p := ⟨w.heap.size + 1, 0, none⟩) ug).trans b0
          have t1 : w4.cell? ⟨w.heap.size + 1, 1, none⟩ = some (.slice A2 l2.length c2) := (h4.cell (p := ⟨w.heap.size + 1, 1, none⟩) ug).trans b1
          refine ⟨k + 1, s4, A4, l4, c4, by omega, by go_num, ?_, by omega, ?_, ?_⟩
          · rw [HS.out]
            exact (HB4.out.far t0 (by simp) _).far ((World.cell?_setCell_other _ _ _ _ (by simp)).trans t1) (by simp) _
          · have h5 := ((Hbk.out.below h4 ug).set 0 (.bool s4)).set 1 (.slice A4 l4.length c4)
            simpa using h5
          · have hbl := Hbl.out
            (repeat' (first | (with_reducible exact Below.refl _ _) | (with_reducible assumption) | (with_reducible refine Below.alloc ?_ ?_ _) | (with_reducible refine Below.setCell ?_ ?_ _) | (with_reducible refine Below.drew ?_) | (with_reducible refine below_drewN ?_ _) | (with_reducible refine below_via ?_ (by with_reducible assumption) ?_) | omega | (simp; done) | (simp; omega)))
        case measure => (simp [intOf]; omega)
    · have d2 : decide ((k : Int) < (l.length : Int)) = false := by simpa using hlt
      have hke : k = l.length := by omega
      have HSUM := Lib.hid (show IsBig wr (totsH a l).sum s2 A2 l2 c2 from by have h := HB2.out; rw [hke, List.take_length] at h; exact h)
      clear hke
      go_wp2_with fail
      refine bodyPost_ret (v := .agg #[.bool s2, .slice A2 l2.length c2]) (by simp [results, Try.results63, go_sem, r0, r1]; try rfl) rfl ⟨_, A2, l2, c2, rfl, (HSUM.out.far r0 (by simp) _).far ((World.cell?_setCell_other _ _ _ _ (by simp)).trans r1) (by simp) _, by omega, ?_⟩
      have hbl := Hbl.out.mono (show w.heap.size ≤ w.heap.size + 1 by omega)
      (repeat' (first | (with_reducible exact Below.refl _ _) | (with_reducible assumption) | (with_reducible refine Below.alloc ?_ ?_ _) | (with_reducible refine Below.setCell ?_ ?_ _) | (with_reducible refine Below.drew ?_) | (with_reducible refine below_drewN ?_ _) | (with_reducible refine below_via ?_ (by with_reducible assumption) ?_) | omega | (simp; done) | (simp; omega)))
end Go.Proofs.Ytiidplinmempcaa
