/- Joined: Ho7, HoM, LotQ1, HoK. -/
import Derived.Test.YtiidplinmempcaaJa11
import Derived.Test.YtiidplinmempcaaJa12
import Derived.Test.YtiidplinmempcaaJa5
import Derived.Test.YtiidplinmempcaaJa7
import Derived.Test.YtiidplinmempcaaJa8
/- Holds: contracts of Pass, the reference's Pass. -/
namespace Go.Proofs.Ytiidplinmempcaa
open Go.RowKit
/-- A list in the world's memory lies in no block that is made after. -/
theorem GoodHoldV.off {w : World} {x : HoldV} (h : GoodHoldV w x) (hn : x.lots.val ≠ []) {g : Nat} (hg : w.heap.size ≤ g) : OffB g x := by
  intro a ha
  obtain ⟨b, o, hA, hlt, _⟩ := h.2.rd 0 (encLot (x.lots.val[0]'(List.length_pos_iff.2 hn))) (by rw [List.getElem?_map, List.getElem?_eq_getElem (List.length_pos_iff.2 hn)]; rfl)
  rw [ha] at hA
  injection hA with hA
  subst hA
  dsimp only at *
  omega
theorem Rd.setOff {w : World} {A : Option Addr} {k : Nat} {rows : List (List Value)} (h : Rd w A k rows) {g o : Nat} {v : Value} (hA : ∀ a, A = some a → a.block ≠ g) : Rd (w.setCell ⟨g, o, none⟩ v) A k rows := by
  intro i r hr
  obtain ⟨b, o', e, hlt, hc⟩ := h i r hr
  refine ⟨b, o', e, by simpa using hlt, fun j z hz => ?_⟩
  rw [World.cell?_setCell_other _ _ _ _ (by intro h; injection h with h1 _ _; exact hA _ e h1.symm)]
  exact hc j z hz
theorem Rs.setOff {w : World} {A : Option Addr} {k c : Nat} {rows : List (List Value)} (h : Rs w k rows A c) {g o : Nat} {v : Value} (hA : ∀ a, A = some a → a.block ≠ g) : Rs (w.setCell ⟨g, o, none⟩ v) k rows A c := ⟨h.rd.setOff hA, h.cap, h.room, h.nil⟩
theorem GoodHoldV.setOff {w : World} {x : HoldV} (h : GoodHoldV w x) {g o : Nat} {v : Value} (hA : OffB g x) : GoodHoldV (w.setCell ⟨g, o, none⟩ v) x := ⟨h.1, h.2.setOff hA⟩
theorem hold_rsS {w : World} {S : Nat → Prop} {L : List (Row Lot)} {code : Int} {e : Ending} {w' : World} (h : HoldPostS w S L code e w') : ∃ (ys : List HoldV) (A : Option Addr) (c : Nat), e = .returned (.tuple #[.slice A ys.length c, .int .i64 code]) ∧ ys.map lgHoldV = L ∧ Rs w' 3 (ys.map encHoldV) A c ∧ FormA ys A c ∧ (∀ y ∈ ys, GoodHoldV w' y) ∧ (∀ g, S g → ∀ y ∈ ys, OffB g y) ∧ (∀ a, A = some a → w.heap.size ≤ a.block) ∧ Below w.heap.size w w' := by
  obtain ⟨v, ys, rfl, hl, hown, hg, hof, hb⟩ := h
  obtain ⟨A, c, hv, hrs, hf⟩ := hown.rs
  rw [List.length_map] at hv
  subst hv
  refine ⟨ys, A, c, rfl, hl, hrs, ?_, hg, hof, own_off hown (Nat.le_refl _), hb⟩
  rcases hf with ⟨h1, h2, h3⟩ | ⟨g, h1, _⟩
  · exact .inl ⟨h1, List.map_eq_nil_iff.1 h2, h3⟩
  · exact .inr ⟨g, 0, h1⟩
theorem holdTakeRS (S : Nat → Prop) (l : List HoldV) (u : Un) (x : Lot) (A : Option Addr) (c : Nat) (w : World) (hS : ∀ g, S g → g < w.heap.size ∧ ∀ x ∈ l, OffB g x) (hl : l.length ≤ 2000) (hq : LQ (l.map lgHoldV)) (hx : In64 x.qty) (hr : Rs w 3 (l.map encHoldV) A c) (_ : FormA l A c) (hg : ∀ x ∈ l, GoodHoldV w x) :
    Calls Try.prog 66 #[.slice A l.length c, .agg #[.int .i64 u.acc, .int .i64 u.cli], .agg #[.int .i64 x.asset, .int .i64 x.tag, .int .i64 x.qty]] w (HoldPostS w S (tkHL (l.map lgHoldV) u x) (tkHC (l.map lgHoldV) u x)) := holdTakeS S l u x A c w (fun g hg => (hS g hg).1) hl hq hx hr.rd hg
set_option maxRecDepth 100000 in
set_option maxHeartbeats 16000000 in
theorem holdPass (l : List HoldV) (a b : Un) (x : Lot) (t : Int) (A : Option Addr) (c : Nat) (w : World) (hl : l.length ≤ 1000) (hq : LQ (l.map lgHoldV)) (hx : In64 x.qty) (hr : Rs w 3 (l.map encHoldV) A c) (hform : FormA l A c) (hg : ∀ x ∈ l, GoodHoldV w x) :
    Calls Try.prog 31 #[.slice A l.length c, .agg #[.int .i64 a.acc, .int .i64 a.cli], .agg #[.int .i64 b.acc, .int .i64 b.cli], .agg #[.int .i64 x.asset, .int .i64 x.tag, .int .i64 x.qty], .int .i64 t] w (HoldPost w (paL (l.map lgHoldV) a b x t) (paC (l.map lgHoldV) a b x t)) := by
  have ci := fun W (h : Below w.heap.size w W) => holdIs l A c W (by omega) (hr.keep h).rd (fun x hx => (hg x hx).keep h)
  rw [show isHoldV l = isK isL (l.map lgHoldV) from rfl] at ci
  have c1 := fun (hk : isK isL (l.map lgHoldV) = true) W (h : Below w.heap.size w W) => holdTakeRS (fun g => w.heap.size ≤ g ∧ g < W.heap.size) l a x A c W (fun g hgw => ⟨hgw.2, fun y hy => (hg y hy).off ((isK_facts hk).2 (lgHoldV y) (List.mem_map.2 ⟨y, hy, rfl⟩)).1 hgw.1⟩) (by omega) hq hx (hr.keep h) hform (fun y hy => (hg y hy).keep h)
  have hwl := tkH_len (l.map lgHoldV) a x
  rw [List.length_map] at hwl
  have c2 := fun (ys : List HoldV) W A5 c5 (hlg : ys.map lgHoldV = tkHL (l.map lgHoldV) a x) (h5 : Rs W 3 (ys.map encHoldV) A5 c5) (hf : FormA ys A5 c5) (hy : ∀ y ∈ ys, GoodHoldV W y) => hlg ▸ holdPutR ys b ⟨x.asset, t, x.qty⟩ A5 c5 W (by have h1 := congrArg List.length hlg; rw [List.length_map] at h1; omega) (by rw [hlg]; exact hq.tak a x) hx h5 hf hy
  dsimp only at c2
  have hC : paC (l.map lgHoldV) a b x t = if isK isL (l.map lgHoldV) then (if a = b then 24 else if tkHC (l.map lgHoldV) a x = 0 then ptC (tkHL (l.map lgHoldV) a x) b ⟨x.asset, t, x.qty⟩ else tkHC (l.map lgHoldV) a x) else 3 := rfl
  have hL : paL (l.map lgHoldV) a b x t = if paC (l.map lgHoldV) a b x t = 0 then ptL (tkHL (l.map lgHoldV) a x) b ⟨x.asset, t, x.qty⟩ else [] := rfl
  have hp : ptC (tkHL (l.map lgHoldV) a x) b ⟨x.asset, t, x.qty⟩ ≠ 0 → ptL (tkHL (l.map lgHoldV) a x) b ⟨x.asset, t, x.qty⟩ = [] := fun h => if_neg h
  clear hr hg hq hform hwl hx
  generalize paL (l.map lgHoldV) a b x t = R at *
  generalize paC (l.map lgHoldV) a b x t = code at *
  generalize ptL (tkHL (l.map lgHoldV) a x) b ⟨x.asset, t, x.qty⟩ = R2 at *
  generalize ptC (tkHL (l.map lgHoldV) a x) b ⟨x.asset, t, x.qty⟩ = code2 at *
  generalize tkHL (l.map lgHoldV) a x = R1 at *
  generalize tkHC (l.map lgHoldV) a x = code1 at *
  have C2 := Lib.hid c2
  clear c2
  cases hi : isK isL (l.map lgHoldV)
  · rw [hi] at ci hC
    obtain rfl : code = 3 := hC
    have HL := Lib.hid (show R = [] from hL)
    have CI := Lib.hid ci
    clear c1 ci hi hL hp
    go_enter Try.func31, Try.ntmps31
    go_wp2_with (first | (go_at_call 58; (with_reducible refine (CI.out _ (by (repeat' (first | (with_reducible exact Below.refl _ _) | (with_reducible assumption) | (with_reducible refine Below.alloc ?_ ?_ _) | (with_reducible refine Below.setCell ?_ ?_ _) | (with_reducible refine Below.drew ?_) | (with_reducible refine below_drewN ?_ _) | (with_reducible refine below_via ?_ (by with_reducible assumption) ?_) | omega | (simp; done) | (simp; omega))))).mono ?_); rintro e w9 ⟨rfl, hb9⟩; obtain ⟨fc9, fg9, hc9, hf9, hz9⟩ := bget hb9; (try simp at hz9)) | fail)
    go_ret2
    exact ⟨_, [], rfl, HL.out.symm, Own.nil _ _ _ _, fun y hy => absurd hy (by simp), by (repeat' (first | (with_reducible exact Below.refl _ _) | (with_reducible assumption) | (with_reducible refine Below.alloc ?_ ?_ _) | (with_reducible refine Below.setCell ?_ ?_ _) | (with_reducible refine Below.drew ?_) | (with_reducible refine below_drewN ?_ _) | (with_reducible refine below_via ?_ (by with_reducible assumption) ?_) | omega | (simp; done) | (simp; omega)))⟩
  rw [hi] at ci hC
  simp only [if_true] at hC
  have CI := Lib.hid ci
  have C1 := Lib.hid (c1 hi)
  clear c1 ci hi
  rcases un_tHoldV (x := a) (u := b) with rfl | hne
  · rw [if_pos rfl] at hC
    subst hC
    have HL := Lib.hid (show R = [] from hL)
    clear hL hp
    go_enter Try.func31, Try.ntmps31
    go_wp2_with (first | (go_at_call 58; (with_reducible refine (CI.out _ (by (repeat' (first | (with_reducible exact Below.refl _ _) | (with_reducible assumption) | (with_reducible refine Below.alloc ?_ ?_ _) | (with_reducible refine Below.setCell ?_ ?_ _) | (with_reducible refine Below.drew ?_) | (with_reducible refine below_drewN ?_ _) | (with_reducible refine below_via ?_ (by with_reducible assumption) ?_) | omega | (simp; done) | (simp; omega))))).mono ?_); rintro e w9 ⟨rfl, hb9⟩; obtain ⟨fc9, fg9, hc9, hf9, hz9⟩ := bget hb9; (try simp at hz9)) | fail)
    go_ret2
    exact ⟨_, [], rfl, HL.out.symm, Own.nil _ _ _ _, fun y hy => absurd hy (by simp), by (repeat' (first | (with_reducible exact Below.refl _ _) | (with_reducible assumption) | (with_reducible refine Below.alloc ?_ ?_ _) | (with_reducible refine Below.setCell ?_ ?_ _) | (with_reducible refine Below.drew ?_) | (with_reducible refine below_drewN ?_ _) | (with_reducible refine below_via ?_ (by with_reducible assumption) ?_) | omega | (simp; done) | (simp; omega)))⟩
  rw [if_neg (un_dHoldV hne)] at hC
  cases h1 : (code1 == 0)
  · have e1 : (code1 != 0) = true := by simp only [bne, h1]; rfl
    have h1' : code1 ≠ 0 := by simpa using h1
    rw [if_neg h1'] at hC
    subst hC
    have HL := Lib.hid (show R = [] from by rw [hL, if_neg h1'])
    clear hL hp h1'
    rcases hne with hne | hne
    all_goals
      go_enter Try.func31, Try.ntmps31
      go_wp2_with (first | (go_at_call 58; (with_reducible refine (CI.out _ (by (repeat' (first | (with_reducible exact Below.refl _ _) | (with_reducible assumption) | (with_reducible refine Below.alloc ?_ ?_ _) | (with_reducible refine Below.setCell ?_ ?_ _) | (with_reducible refine Below.drew ?_) | (with_reducible refine below_drewN ?_ _) | (with_reducible refine below_via ?_ (by with_reducible assumption) ?_) | omega | (simp; done) | (simp; omega))))).mono ?_); rintro e w9 ⟨rfl, hb9⟩; obtain ⟨fc9, fg9, hc9, hf9, hz9⟩ := bget hb9; (try simp at hz9)) | (go_at_call 66; (with_reducible refine (C1.out _ (by (repeat' (first | (with_reducible exact Below.refl _ _) | (with_reducible assumption) | (with_reducible refine Below.alloc ?_ ?_ _) | (with_reducible refine Below.setCell ?_ ?_ _) | (with_reducible refine Below.drew ?_) | (with_reducible refine below_drewN ?_ _) | (with_reducible refine below_via ?_ (by with_reducible assumption) ?_) | omega | (simp; done) | (simp; omega))))).mono ?_); intro e w5 hp5; obtain ⟨ys, A5, c5, rfl, hlg5, hrs5, hfm5, hgd5, hb5⟩ := hold_rs hp5.less; clear hp5 hlg5 hrs5 hfm5 hgd5; obtain ⟨fc5, fg5, hc5, hf5, hz5⟩ := bget hb5; (try simp at hz5)) | fail)
      go_ret2
      exact ⟨_, [], rfl, HL.out.symm, Own.nil _ _ _ _, fun y hy => absurd hy (by simp), by (repeat' (first | (with_reducible exact Below.refl _ _) | (with_reducible assumption) | (with_reducible refine Below.alloc ?_ ?_ _) | (with_reducible refine Below.setCell ?_ ?_ _) | (with_reducible refine Below.drew ?_) | (with_reducible refine below_drewN ?_ _) | (with_reducible refine below_via ?_ (by with_reducible assumption) ?_) | omega | (simp; done) | (simp; omega)))⟩
  · obtain rfl : code1 = 0 := by simpa using h1
    rw [if_pos rfl] at hC
    subst hC
    have HL := Lib.hid (show R2 = R from by
      rw [hL]
      by_cases h : code = 0
      · rw [if_pos h]
      · rw [if_neg h, hp h])
    clear hL hp h1
    rcases hne with hne | hne
    all_goals
      go_enter Try.func31, Try.ntmps31
      go_wp2_with (first | (go_at_call 58; (with_reducible refine (CI.out _ (by (repeat' (first | (with_reducible exact Below.refl _ _) | (with_reducible assumption) | (with_reducible refine Below.alloc ?_ ?_ _) | (with_reducible refine Below.setCell ?_ ?_ _) | (with_reducible refine Below.drew ?_) | (with_reducible refine below_drewN ?_ _) | (with_reducible refine below_via ?_ (by with_reducible assumption) ?_) | omega | (simp; done) | (simp; omega))))).mono ?_); rintro e w9 ⟨rfl, hb9⟩; obtain ⟨fc9, fg9, hc9, hf9, hz9⟩ := bget hb9; (try simp at hz9)) | (go_at_call 66; (with_reducible refine (C1.out _ (by (repeat' (first | (with_reducible exact Below.refl _ _) | (with_reducible assumption) | (with_reducible refine Below.alloc ?_ ?_ _) | (with_reducible refine Below.setCell ?_ ?_ _) | (with_reducible refine Below.drew ?_) | (with_reducible refine below_drewN ?_ _) | (with_reducible refine below_via ?_ (by with_reducible assumption) ?_) | omega | (simp; done) | (simp; omega))))).mono ?_); intro e w5 hp5; obtain ⟨ys, A5, c5, rfl, hlg5, hrs5, hfm5, hgd5, hof5, hao5, hb5⟩ := hold_rsS hp5; have HLG5 := Lib.hid hlg5; have H5 := Lib.hid (hrs5.setOff (g := w.heap.size + 1 + 1) (o := 1) (v := .int .i64 t) (fun a ha => by have h1 := hao5 a ha; have h2 := hb9.size; simp at h1 h2; omega)); have HF5 := Lib.hid hfm5; have HG5 := Lib.hid (fun y hy => (hgd5 y hy).setOff (g := w.heap.size + 1 + 1) (o := 1) (v := .int .i64 t) (hof5 _ (by have h2 := hb9.size; simp at h2; (first | omega | (simp; omega))) y hy)); clear hp5 hlg5 hrs5 hfm5 hgd5 hof5 hao5; obtain ⟨fc5, fg5, hc5, hf5, hz5⟩ := bget hb5; (try simp at hz5)) | (go_at_call 64; (with_reducible refine (C2.out ys _ A5 c5 HLG5.out (H5.out.keep (by (repeat' (first | (with_reducible exact Below.refl _ _) | (with_reducible assumption) | (with_reducible refine Below.alloc ?_ ?_ _) | (with_reducible refine Below.setCell ?_ ?_ _) | (with_reducible refine Below.drew ?_) | (with_reducible refine below_drewN ?_ _) | (with_reducible refine below_via ?_ (by with_reducible assumption) ?_) | omega | (simp; done) | (simp; omega))))) HF5.out (fun y hy => (HG5.out y hy).keep (by (repeat' (first | (with_reducible exact Below.refl _ _) | (with_reducible assumption) | (with_reducible refine Below.alloc ?_ ?_ _) | (with_reducible refine Below.setCell ?_ ?_ _) | (with_reducible refine Below.drew ?_) | (with_reducible refine below_drewN ?_ _) | (with_reducible refine below_via ?_ (by with_reducible assumption) ?_) | omega | (simp; done) | (simp; omega)))))).mono ?_); rintro e w6 ⟨v6, zs, rfl, hlg6, hown6, hgd6, hb6⟩; have HLG6 := Lib.hid hlg6; have HO6 := Lib.hid hown6; have HG6 := Lib.hid hgd6; clear hlg6 hown6 hgd6; obtain ⟨fc6, fg6, hc6, hf6, hz6⟩ := bget hb6; (try simp at hz6)) | fail)
      go_ret2
      exact ⟨_, zs, rfl, HLG6.out.trans HL.out, HO6.out.mono (by first | omega | (simp; done) | (simp; omega)), HG6.out, by (repeat' (first | (with_reducible exact Below.refl _ _) | (with_reducible assumption) | (with_reducible refine Below.alloc ?_ ?_ _) | (with_reducible refine Below.setCell ?_ ?_ _) | (with_reducible refine Below.drew ?_) | (with_reducible refine below_drewN ?_ _) | (with_reducible refine below_via ?_ (by with_reducible assumption) ?_) | omega | (simp; done) | (simp; omega)))⟩
set_option maxRecDepth 100000 in
set_option maxHeartbeats 16000000 in
theorem ref26Pass (l : List HoldV) (a b : Un) (x : Lot) (t : Int) (A : Option Addr) (c : Nat) (w : World) (hl : l.length ≤ 1000) (hq : LQ (l.map lgHoldV)) (hx : In64 x.qty) (hr : Rs w 3 (l.map encHoldV) A c) (hform : FormA l A c) (hg : ∀ x ∈ l, GoodHoldV w x) :
    Calls Try.prog 32 #[.slice A l.length c, .agg #[.int .i64 a.acc, .int .i64 a.cli], .agg #[.int .i64 b.acc, .int .i64 b.cli], .agg #[.int .i64 x.asset, .int .i64 x.tag, .int .i64 x.qty], .int .i64 t] w (HoldPost w (paL (l.map lgHoldV) a b x t) (paC (l.map lgHoldV) a b x t)) := by
  have ci := fun W (h : Below w.heap.size w W) => refHoldVIs l A c W (by omega) (hr.keep h).rd (fun x hx => (hg x hx).keep h)
  rw [show isHoldV l = isK isL (l.map lgHoldV) from rfl] at ci
  have c1 := fun (hk : isK isL (l.map lgHoldV) = true) W (h : Below w.heap.size w W) => ref26TakeS (fun g => w.heap.size ≤ g ∧ g < W.heap.size) l a x A c W (fun g hgw => ⟨hgw.2, fun y hy => (hg y hy).off ((isK_facts hk).2 (lgHoldV y) (List.mem_map.2 ⟨y, hy, rfl⟩)).1 hgw.1⟩) (by omega) hq hx (hr.keep h) hform (fun y hy => (hg y hy).keep h)
  have hwl := tkH_len (l.map lgHoldV) a x
  rw [List.length_map] at hwl
  have c2 := fun (ys : List HoldV) W A5 c5 (hlg : ys.map lgHoldV = tkHL (l.map lgHoldV) a x) (h5 : Rs W 3 (ys.map encHoldV) A5 c5) (hf : FormA ys A5 c5) (hy : ∀ y ∈ ys, GoodHoldV W y) => hlg ▸ ref26Put ys b ⟨x.asset, t, x.qty⟩ A5 c5 W (by have h1 := congrArg List.length hlg; rw [List.length_map] at h1; omega) (by rw [hlg]; exact hq.tak a x) hx h5 hf hy
  dsimp only at c2
  have hC : paC (l.map lgHoldV) a b x t = if isK isL (l.map lgHoldV) then (if a = b then 24 else if tkHC (l.map lgHoldV) a x = 0 then ptC (tkHL (l.map lgHoldV) a x) b ⟨x.asset, t, x.qty⟩ else tkHC (l.map lgHoldV) a x) else 3 := rfl
  have hL : paL (l.map lgHoldV) a b x t = if paC (l.map lgHoldV) a b x t = 0 then ptL (tkHL (l.map lgHoldV) a x) b ⟨x.asset, t, x.qty⟩ else [] := rfl
  have hp : ptC (tkHL (l.map lgHoldV) a x) b ⟨x.asset, t, x.qty⟩ ≠ 0 → ptL (tkHL (l.map lgHoldV) a x) b ⟨x.asset, t, x.qty⟩ = [] := fun h => if_neg h
  clear hr hg hq hform hwl hx
  generalize paL (l.map lgHoldV) a b x t = R at *
  generalize paC (l.map lgHoldV) a b x t = code at *
  generalize ptL (tkHL (l.map lgHoldV) a x) b ⟨x.asset, t, x.qty⟩ = R2 at *
  generalize ptC (tkHL (l.map lgHoldV) a x) b ⟨x.asset, t, x.qty⟩ = code2 at *
  generalize tkHL (l.map lgHoldV) a x = R1 at *
  generalize tkHC (l.map lgHoldV) a x = code1 at *
  have C2 := Lib.hid c2
  clear c2
  cases hi : isK isL (l.map lgHoldV)
  · rw [hi] at ci hC
    obtain rfl : code = 3 := hC
    have HL := Lib.hid (show R = [] from hL)
    have CI := Lib.hid ci
    clear c1 ci hi hL hp
    go_enter Try.func32, Try.ntmps32
    go_wp2_with (first | (go_at_call 59; (with_reducible refine (CI.out _ (by (repeat' (first | (with_reducible exact Below.refl _ _) | (with_reducible assumption) | (with_reducible refine Below.alloc ?_ ?_ _) | (with_reducible refine Below.setCell ?_ ?_ _) | (with_reducible refine Below.drew ?_) | (with_reducible refine below_drewN ?_ _) | (with_reducible refine below_via ?_ (by with_reducible assumption) ?_) | omega | (simp; done) | (simp; omega))))).mono ?_); rintro e w9 ⟨rfl, hb9⟩; obtain ⟨fc9, fg9, hc9, hf9, hz9⟩ := bget hb9; (try simp at hz9)) | fail)
    go_ret2
    exact ⟨_, [], rfl, HL.out.symm, Own.nil _ _ _ _, fun y hy => absurd hy (by simp), by (repeat' (first | (with_reducible exact Below.refl _ _) | (with_reducible assumption) | (with_reducible refine Below.alloc ?_ ?_ _) | (with_reducible refine Below.setCell ?_ ?_ _) | (with_reducible refine Below.drew ?_) | (with_reducible refine below_drewN ?_ _) | (with_reducible refine below_via ?_ (by with_reducible assumption) ?_) | omega | (simp; done) | (simp; omega)))⟩
  rw [hi] at ci hC
  simp only [if_true] at hC
  have CI := Lib.hid ci
  have C1 := Lib.hid (c1 hi)
  clear c1 ci hi
  rcases un_tHoldV (x := a) (u := b) with rfl | hne
  · rw [if_pos rfl] at hC
    subst hC
    have HL := Lib.hid (show R = [] from hL)
    clear hL hp
    go_enter Try.func32, Try.ntmps32
    go_wp2_with (first | (go_at_call 59; (with_reducible refine (CI.out _ (by (repeat' (first | (with_reducible exact Below.refl _ _) | (with_reducible assumption) | (with_reducible refine Below.alloc ?_ ?_ _) | (with_reducible refine Below.setCell ?_ ?_ _) | (with_reducible refine Below.drew ?_) | (with_reducible refine below_drewN ?_ _) | (with_reducible refine below_via ?_ (by with_reducible assumption) ?_) | omega | (simp; done) | (simp; omega))))).mono ?_); rintro e w9 ⟨rfl, hb9⟩; obtain ⟨fc9, fg9, hc9, hf9, hz9⟩ := bget hb9; (try simp at hz9)) | fail)
    go_ret2
    exact ⟨_, [], rfl, HL.out.symm, Own.nil _ _ _ _, fun y hy => absurd hy (by simp), by (repeat' (first | (with_reducible exact Below.refl _ _) | (with_reducible assumption) | (with_reducible refine Below.alloc ?_ ?_ _) | (with_reducible refine Below.setCell ?_ ?_ _) | (with_reducible refine Below.drew ?_) | (with_reducible refine below_drewN ?_ _) | (with_reducible refine below_via ?_ (by with_reducible assumption) ?_) | omega | (simp; done) | (simp; omega)))⟩
  rw [if_neg (un_dHoldV hne)] at hC
  cases h1 : (code1 == 0)
  · have e1 : (code1 != 0) = true := by simp only [bne, h1]; rfl
    have h1' : code1 ≠ 0 := by simpa using h1
    rw [if_neg h1'] at hC
    subst hC
    have HL := Lib.hid (show R = [] from by rw [hL, if_neg h1'])
    clear hL hp h1'
    rcases hne with hne | hne
    all_goals
      go_enter Try.func32, Try.ntmps32
      go_wp2_with (first | (go_at_call 59; (with_reducible refine (CI.out _ (by (repeat' (first | (with_reducible exact Below.refl _ _) | (with_reducible assumption) | (with_reducible refine Below.alloc ?_ ?_ _) | (with_reducible refine Below.setCell ?_ ?_ _) | (with_reducible refine Below.drew ?_) | (with_reducible refine below_drewN ?_ _) | (with_reducible refine below_via ?_ (by with_reducible assumption) ?_) | omega | (simp; done) | (simp; omega))))).mono ?_); rintro e w9 ⟨rfl, hb9⟩; obtain ⟨fc9, fg9, hc9, hf9, hz9⟩ := bget hb9; (try simp at hz9)) | (go_at_call 67; (with_reducible refine (C1.out _ (by (repeat' (first | (with_reducible exact Below.refl _ _) | (with_reducible assumption) | (with_reducible refine Below.alloc ?_ ?_ _) | (with_reducible refine Below.setCell ?_ ?_ _) | (with_reducible refine Below.drew ?_) | (with_reducible refine below_drewN ?_ _) | (with_reducible refine below_via ?_ (by with_reducible assumption) ?_) | omega | (simp; done) | (simp; omega))))).mono ?_); intro e w5 hp5; obtain ⟨ys, A5, c5, rfl, hlg5, hrs5, hfm5, hgd5, hb5⟩ := hold_rs hp5.less; clear hp5 hlg5 hrs5 hfm5 hgd5; obtain ⟨fc5, fg5, hc5, hf5, hz5⟩ := bget hb5; (try simp at hz5)) | fail)
      go_ret2
      exact ⟨_, [], rfl, HL.out.symm, Own.nil _ _ _ _, fun y hy => absurd hy (by simp), by (repeat' (first | (with_reducible exact Below.refl _ _) | (with_reducible assumption) | (with_reducible refine Below.alloc ?_ ?_ _) | (with_reducible refine Below.setCell ?_ ?_ _) | (with_reducible refine Below.drew ?_) | (with_reducible refine below_drewN ?_ _) | (with_reducible refine below_via ?_ (by with_reducible assumption) ?_) | omega | (simp; done) | (simp; omega)))⟩
  · obtain rfl : code1 = 0 := by simpa using h1
    rw [if_pos rfl] at hC
    subst hC
    have HL := Lib.hid (show R2 = R from by
      rw [hL]
      by_cases h : code = 0
      · rw [if_pos h]
      · rw [if_neg h, hp h])
    clear hL hp h1
    rcases hne with hne | hne
    all_goals
      go_enter Try.func32, Try.ntmps32
      go_wp2_with (first | (go_at_call 59; (with_reducible refine (CI.out _ (by (repeat' (first | (with_reducible exact Below.refl _ _) | (with_reducible assumption) | (with_reducible refine Below.alloc ?_ ?_ _) | (with_reducible refine Below.setCell ?_ ?_ _) | (with_reducible refine Below.drew ?_) | (with_reducible refine below_drewN ?_ _) | (with_reducible refine below_via ?_ (by with_reducible assumption) ?_) | omega | (simp; done) | (simp; omega))))).mono ?_); rintro e w9 ⟨rfl, hb9⟩; obtain ⟨fc9, fg9, hc9, hf9, hz9⟩ := bget hb9; (try simp at hz9)) | (go_at_call 67; (with_reducible refine (C1.out _ (by (repeat' (first | (with_reducible exact Below.refl _ _) | (with_reducible assumption) | (with_reducible refine Below.alloc ?_ ?_ _) | (with_reducible refine Below.setCell ?_ ?_ _) | (with_reducible refine Below.drew ?_) | (with_reducible refine below_drewN ?_ _) | (with_reducible refine below_via ?_ (by with_reducible assumption) ?_) | omega | (simp; done) | (simp; omega))))).mono ?_); intro e w5 hp5; obtain ⟨ys, A5, c5, rfl, hlg5, hrs5, hfm5, hgd5, hof5, hao5, hb5⟩ := hold_rsS hp5; have HLG5 := Lib.hid hlg5; have H5 := Lib.hid (hrs5.setOff (g := w.heap.size + 1 + 1) (o := 1) (v := .int .i64 t) (fun a ha => by have h1 := hao5 a ha; have h2 := hb9.size; simp at h1 h2; omega)); have HF5 := Lib.hid hfm5; have HG5 := Lib.hid (fun y hy => (hgd5 y hy).setOff (g := w.heap.size + 1 + 1) (o := 1) (v := .int .i64 t) (hof5 _ (by have h2 := hb9.size; simp at h2; (first | omega | (simp; omega))) y hy)); clear hp5 hlg5 hrs5 hfm5 hgd5 hof5 hao5; obtain ⟨fc5, fg5, hc5, hf5, hz5⟩ := bget hb5; (try simp at hz5)) | (go_at_call 65; (with_reducible refine (C2.out ys _ A5 c5 HLG5.out (H5.out.keep (by (repeat' (first | (with_reducible exact Below.refl _ _) | (with_reducible assumption) | (with_reducible refine Below.alloc ?_ ?_ _) | (with_reducible refine Below.setCell ?_ ?_ _) | (with_reducible refine Below.drew ?_) | (with_reducible refine below_drewN ?_ _) | (with_reducible refine below_via ?_ (by with_reducible assumption) ?_) | omega | (simp; done) | (simp; omega))))) HF5.out (fun y hy => (HG5.out y hy).keep (by (repeat' (first | (with_reducible exact Below.refl _ _) | (with_reducible assumption) | (with_reducible refine Below.alloc ?_ ?_ _) | (with_reducible refine Below.setCell ?_ ?_ _) | (with_reducible refine Below.drew ?_) | (with_reducible refine below_drewN ?_ _) | (with_reducible refine below_via ?_ (by with_reducible assumption) ?_) | omega | (simp; done) | (simp; omega)))))).mono ?_); rintro e w6 ⟨v6, zs, rfl, hlg6, hown6, hgd6, hb6⟩; have HLG6 := Lib.hid hlg6; have HO6 := Lib.hid hown6; have HG6 := Lib.hid hgd6; clear hlg6 hown6 hgd6; obtain ⟨fc6, fg6, hc6, hf6, hz6⟩ := bget hb6; (try simp at hz6)) | fail)
      go_ret2
      exact ⟨_, zs, rfl, HLG6.out.trans HL.out, HO6.out.mono (by first | omega | (simp; done) | (simp; omega)), HG6.out, by (repeat' (first | (with_reducible exact Below.refl _ _) | (with_reducible assumption) | (with_reducible refine Below.alloc ?_ ?_ _) | (with_reducible refine Below.setCell ?_ ?_ _) | (with_reducible refine Below.drew ?_) | (with_reducible refine below_drewN ?_ _) | (with_reducible refine below_via ?_ (by with_reducible assumption) ?_) | omega | (simp; done) | (simp; omega)))⟩
end Go.Proofs.Ytiidplinmempcaa

/- Layer 26's laws: HoldMoves. -/
namespace Go.Proofs.Ytiidplinmempcaa
open Go.RowKit
theorem mh_len (L : List (Row Lot)) (a b : Un) : (mhL L a b).length ≤ L.length + 2 := by
  unfold mhL
  split
  · have h1 := with_len (withK L a []) b (ofK L a)
    have h2 := with_len L a []
    omega
  · simp
theorem pa_len (L : List (Row Lot)) (a b : Un) (x : Lot) (t : Int) : (paL L a b x t).length ≤ L.length + 2 := by
  unfold paL
  split
  · have h1 := pt_len (tkHL L a x) b (withT x t)
    have h2 := tkH_len L a x
    omega
  · simp
set_option maxRecDepth 100000 in
set_option maxHeartbeats 64000000 in
theorem holdMovesAt (l0 fl : List HoldV) (a b : Un) (x : Lot) (t : Int) (A : Option Addr) (c : Nat) (w : World) (hfl : fl.length ≤ 10) (hq : LQ (fl.map lgHoldV)) (hx : In64 x.qty) (hfg : ∀ x ∈ fl, GoodHoldV w x)
    (c20 : ∀ W, Below w.heap.size w W → Calls Try.prog 28 #[.slice A l0.length c] W fun e w' => ∃ v, e = .returned v ∧ Own w' W.heap.size 137 3 v (fl.map encHoldV) ∧ Below W.heap.size W w') :
    Calls Try.prog 6 #[.slice A l0.length c, .agg #[.int .i64 a.acc, .int .i64 a.cli], .agg #[.int .i64 b.acc, .int .i64 b.cli], .agg #[.int .i64 x.asset, .int .i64 x.tag, .int .i64 x.qty], .int .i64 t] w fun e w' => e = .returned (.bool true) ∧ Below w.heap.size w w' := by
  have C20 := Lib.hid c20
  have HFG := Lib.hid hfg
  have HQ := Lib.hid hq
  have l1 := mh_len (fl.map lgHoldV) a b
  have l2 := pa_len (fl.map lgHoldV) a b x t
  rw [List.length_map] at l1 l2
  clear c20 hfg hq
  generalize l0.length = n0 at *
  go_enter Try.func6, Try.ntmps6
  go_wp2_with (first | (go_at_call 28; (with_reducible refine (C20.out _ (by (repeat' (first | (with_reducible exact Below.refl _ _) | (with_reducible assumption) | (with_reducible refine Below.alloc ?_ ?_ _) | (with_reducible refine Below.setCell ?_ ?_ _) | (with_reducible refine Below.drew ?_) | (with_reducible refine below_drewN ?_ _) | (with_reducible refine below_via ?_ (by with_reducible assumption) ?_) | omega | (simp; done) | (simp; omega))))).mono ?_); rintro e w1 ⟨v1, rfl, hown1, hb1⟩; obtain ⟨A1, c1, hv1, hrs1, hfm1⟩ := hown1.rs; (rw [List.length_map] at hv1); subst hv1; have F1 := Lib.hid (show FormA fl A1 c1 from (by rcases hfm1 with ⟨h1, h2, h3⟩ | ⟨g, h1, _⟩; exact .inl ⟨h1, List.map_eq_nil_iff.1 h2, h3⟩; exact .inr ⟨g, 0, h1⟩)); have H1 := Lib.hid hrs1; clear hown1 hrs1 hfm1; obtain ⟨fc1, fg1, hc1, hf1, hz1⟩ := bget hb1; (try simp at hz1)) | (go_at_call 29; (with_reducible refine (holdMove fl a b A1 c1 _ (by omega) HQ.out (H1.out.keep (by (repeat' (first | (with_reducible exact Below.refl _ _) | (with_reducible assumption) | (with_reducible refine Below.alloc ?_ ?_ _) | (with_reducible refine Below.setCell ?_ ?_ _) | (with_reducible refine Below.drew ?_) | (with_reducible refine below_drewN ?_ _) | (with_reducible refine below_via ?_ (by with_reducible assumption) ?_) | omega | (simp; done) | (simp; omega))))) F1.out (fun y hy => (HFG.out y hy).keep (by (repeat' (first | (with_reducible exact Below.refl _ _) | (with_reducible assumption) | (with_reducible refine Below.alloc ?_ ?_ _) | (with_reducible refine Below.setCell ?_ ?_ _) | (with_reducible refine Below.drew ?_) | (with_reducible refine below_drewN ?_ _) | (with_reducible refine below_via ?_ (by with_reducible assumption) ?_) | omega | (simp; done) | (simp; omega)))))).mono ?_); intro e w12 hp12; obtain ⟨ys12, A12, c12, rfl, hlg12, hrs12, hfm12, hgd12, hb12⟩ := hold_rs hp12; have LG12 := Lib.hid hlg12; have H12 := Lib.hid hrs12; have F12 := Lib.hid hfm12; have G12 := Lib.hid hgd12; clear hp12 hlg12 hrs12 hfm12 hgd12; obtain ⟨fc12, fg12, hc12, hf12, hz12⟩ := bget hb12; (try simp at hz12)) | (go_at_call 30; (with_reducible refine (ref26Move fl a b A1 c1 _ (by omega) HQ.out (H1.out.keep (by (repeat' (first | (with_reducible exact Below.refl _ _) | (with_reducible assumption) | (with_reducible refine Below.alloc ?_ ?_ _) | (with_reducible refine Below.setCell ?_ ?_ _) | (with_reducible refine Below.drew ?_) | (with_reducible refine below_drewN ?_ _) | (with_reducible refine below_via ?_ (by with_reducible assumption) ?_) | omega | (simp; done) | (simp; omega))))) F1.out (fun y hy => (HFG.out y hy).keep (by (repeat' (first | (with_reducible exact Below.refl _ _) | (with_reducible assumption) | (with_reducible refine Below.alloc ?_ ?_ _) | (with_reducible refine Below.setCell ?_ ?_ _) | (with_reducible refine Below.drew ?_) | (with_reducible refine below_drewN ?_ _) | (with_reducible refine below_via ?_ (by with_reducible assumption) ?_) | omega | (simp; done) | (simp; omega)))))).mono ?_); intro e w13 hp13; obtain ⟨ys13, A13, c13, rfl, hlg13, hrs13, hfm13, hgd13, hb13⟩ := hold_rs hp13; have LG13 := Lib.hid hlg13; have H13 := Lib.hid hrs13; have F13 := Lib.hid hfm13; have G13 := Lib.hid hgd13; clear hp13 hlg13 hrs13 hfm13 hgd13; obtain ⟨fc13, fg13, hc13, hf13, hz13⟩ := bget hb13; (try simp at hz13)) | (go_at_call 31; (with_reducible refine (holdPass fl a b x t A1 c1 _ (by omega) HQ.out hx (H1.out.keep (by (repeat' (first | (with_reducible exact Below.refl _ _) | (with_reducible assumption) | (with_reducible refine Below.alloc ?_ ?_ _) | (with_reducible refine Below.setCell ?_ ?_ _) | (with_reducible refine Below.drew ?_) | (with_reducible refine below_drewN ?_ _) | (with_reducible refine below_via ?_ (by with_reducible assumption) ?_) | omega | (simp; done) | (simp; omega))))) F1.out (fun y hy => (HFG.out y hy).keep (by (repeat' (first | (with_reducible exact Below.refl _ _) | (with_reducible assumption) | (with_reducible refine Below.alloc ?_ ?_ _) | (with_reducible refine Below.setCell ?_ ?_ _) | (with_reducible refine Below.drew ?_) | (with_reducible refine below_drewN ?_ _) | (with_reducible refine below_via ?_ (by with_reducible assumption) ?_) | omega | (simp; done) | (simp; omega)))))).mono ?_); intro e w14 hp14; obtain ⟨ys14, A14, c14, rfl, hlg14, hrs14, hfm14, hgd14, hb14⟩ := hold_rs hp14; have LG14 := Lib.hid hlg14; have H14 := Lib.hid hrs14; have F14 := Lib.hid hfm14; have G14 := Lib.hid hgd14; clear hp14 hlg14 hrs14 hfm14 hgd14; obtain ⟨fc14, fg14, hc14, hf14, hz14⟩ := bget hb14; (try simp at hz14)) | (go_at_call 32; (with_reducible refine (ref26Pass fl a b x t A1 c1 _ (by omega) HQ.out hx (H1.out.keep (by (repeat' (first | (with_reducible exact Below.refl _ _) | (with_reducible assumption) | (with_reducible refine Below.alloc ?_ ?_ _) | (with_reducible refine Below.setCell ?_ ?_ _) | (with_reducible refine Below.drew ?_) | (with_reducible refine below_drewN ?_ _) | (with_reducible refine below_via ?_ (by with_reducible assumption) ?_) | omega | (simp; done) | (simp; omega))))) F1.out (fun y hy => (HFG.out y hy).keep (by (repeat' (first | (with_reducible exact Below.refl _ _) | (with_reducible assumption) | (with_reducible refine Below.alloc ?_ ?_ _) | (with_reducible refine Below.setCell ?_ ?_ _) | (with_reducible refine Below.drew ?_) | (with_reducible refine below_drewN ?_ _) | (with_reducible refine below_via ?_ (by with_reducible assumption) ?_) | omega | (simp; done) | (simp; omega)))))).mono ?_); intro e w15 hp15; obtain ⟨ys15, A15, c15, rfl, hlg15, hrs15, hfm15, hgd15, hb15⟩ := hold_rs hp15; have LG15 := Lib.hid hlg15; have H15 := Lib.hid hrs15; have F15 := Lib.hid hfm15; have G15 := Lib.hid hgd15; clear hp15 hlg15 hrs15 hfm15 hgd15; obtain ⟨fc15, fg15, hc15, hf15, hz15⟩ := bget hb15; (try simp at hz15)) | (go_at_call 33; (with_reducible refine (refHoldVSame ys12 ys13 A12 A13 c12 c13 _ (LG12.out.trans LG13.out.symm) (by have h1 := congrArg List.length LG12.out; rw [List.length_map] at h1; omega) (H12.out.keep (by (repeat' (first | (with_reducible exact Below.refl _ _) | (with_reducible assumption) | (with_reducible refine Below.alloc ?_ ?_ _) | (with_reducible refine Below.setCell ?_ ?_ _) | (with_reducible refine Below.drew ?_) | (with_reducible refine below_drewN ?_ _) | (with_reducible refine below_via ?_ (by with_reducible assumption) ?_) | omega | (simp; done) | (simp; omega))))).rd (H13.out.keep (by (repeat' (first | (with_reducible exact Below.refl _ _) | (with_reducible assumption) | (with_reducible refine Below.alloc ?_ ?_ _) | (with_reducible refine Below.setCell ?_ ?_ _) | (with_reducible refine Below.drew ?_) | (with_reducible refine below_drewN ?_ _) | (with_reducible refine below_via ?_ (by with_reducible assumption) ?_) | omega | (simp; done) | (simp; omega))))).rd (fun y hy => (G12.out y hy).keep (by (repeat' (first | (with_reducible exact Below.refl _ _) | (with_reducible assumption) | (with_reducible refine Below.alloc ?_ ?_ _) | (with_reducible refine Below.setCell ?_ ?_ _) | (with_reducible refine Below.drew ?_) | (with_reducible refine below_drewN ?_ _) | (with_reducible refine below_via ?_ (by with_reducible assumption) ?_) | omega | (simp; done) | (simp; omega))))) (fun y hy => (G13.out y hy).keep (by (repeat' (first | (with_reducible exact Below.refl _ _) | (with_reducible assumption) | (with_reducible refine Below.alloc ?_ ?_ _) | (with_reducible refine Below.setCell ?_ ?_ _) | (with_reducible refine Below.drew ?_) | (with_reducible refine below_drewN ?_ _) | (with_reducible refine below_via ?_ (by with_reducible assumption) ?_) | omega | (simp; done) | (simp; omega)))))).mono ?_); rintro e w18 ⟨rfl, hb18⟩; obtain ⟨fc18, fg18, hc18, hf18, hz18⟩ := bget hb18; (try simp at hz18)) | (go_at_call 33; (with_reducible refine (refHoldVSame ys14 ys15 A14 A15 c14 c15 _ (LG14.out.trans LG15.out.symm) (by have h1 := congrArg List.length LG14.out; rw [List.length_map] at h1; omega) (H14.out.keep (by (repeat' (first | (with_reducible exact Below.refl _ _) | (with_reducible assumption) | (with_reducible refine Below.alloc ?_ ?_ _) | (with_reducible refine Below.setCell ?_ ?_ _) | (with_reducible refine Below.drew ?_) | (with_reducible refine below_drewN ?_ _) | (with_reducible refine below_via ?_ (by with_reducible assumption) ?_) | omega | (simp; done) | (simp; omega))))).rd (H15.out.keep (by (repeat' (first | (with_reducible exact Below.refl _ _) | (with_reducible assumption) | (with_reducible refine Below.alloc ?_ ?_ _) | (with_reducible refine Below.setCell ?_ ?_ _) | (with_reducible refine Below.drew ?_) | (with_reducible refine below_drewN ?_ _) | (with_reducible refine below_via ?_ (by with_reducible assumption) ?_) | omega | (simp; done) | (simp; omega))))).rd (fun y hy => (G14.out y hy).keep (by (repeat' (first | (with_reducible exact Below.refl _ _) | (with_reducible assumption) | (with_reducible refine Below.alloc ?_ ?_ _) | (with_reducible refine Below.setCell ?_ ?_ _) | (with_reducible refine Below.drew ?_) | (with_reducible refine below_drewN ?_ _) | (with_reducible refine below_via ?_ (by with_reducible assumption) ?_) | omega | (simp; done) | (simp; omega))))) (fun y hy => (G15.out y hy).keep (by (repeat' (first | (with_reducible exact Below.refl _ _) | (with_reducible assumption) | (with_reducible refine Below.alloc ?_ ?_ _) | (with_reducible refine Below.setCell ?_ ?_ _) | (with_reducible refine Below.drew ?_) | (with_reducible refine below_drewN ?_ _) | (with_reducible refine below_via ?_ (by with_reducible assumption) ?_) | omega | (simp; done) | (simp; omega)))))).mono ?_); rintro e w19 ⟨rfl, hb19⟩; obtain ⟨fc19, fg19, hc19, hf19, hz19⟩ := bget hb19; (try simp at hz19)) | (go_at_call 34; (with_reducible refine (law26lives _).mono ?_); rintro e w21 ⟨rfl, hb21⟩; obtain ⟨fc21, fg21, hc21, hf21, hz21⟩ := bget hb21; (try simp at hz21)) | fail)
  go_ret
  exact ⟨rfl, by (repeat' (first | (with_reducible exact Below.refl _ _) | (with_reducible assumption) | (with_reducible refine Below.alloc ?_ ?_ _) | (with_reducible refine Below.setCell ?_ ?_ _) | (with_reducible refine Below.drew ?_) | (with_reducible refine below_drewN ?_ _) | (with_reducible refine below_via ?_ (by with_reducible assumption) ?_) | omega | (simp; done) | (simp; omega)))⟩
theorem holdMovesW (l0 : List HoldV) (a b : Un) (x : Lot) (t : Int) (A : Option Addr) (c : Nat) (w : World) (hl : l0.length ≤ maxLen) (hx : In64 x.qty) (hr : Rd w A 3 (l0.map encHoldV)) (hg : ∀ x ∈ l0, Rs w 3 (x.lots.val.map encLot) x.lots.A x.lots.c) (h64 : ∀ x ∈ l0, ∀ z ∈ x.lots.val, In64 z.qty) :
    Calls Try.prog 6 #[.slice A l0.length c, .agg #[.int .i64 a.acc, .int .i64 a.cli], .agg #[.int .i64 b.acc, .int .i64 b.cli], .agg #[.int .i64 x.asset, .int .i64 x.tag, .int .i64 x.qty], .int .i64 t] w fun e w' => e = .returned (.bool true) ∧ Below w.heap.size w w' := by
  have hf := few_h hg h64
  exact holdMovesAt l0 ((l0.take 10).map fewHoldV) a b x t A c w hf.len hf.lq hx hf.good
    (fun W h => law26Few l0 A c W hl (hr.keep h) (fun x hx => (hg x hx).keep h))
end Go.Proofs.Ytiidplinmempcaa

/- Lots, plain: how much there is of all lots whose asset and tag pass; what was put makes of lots. -/
namespace Go.Proofs.Ytiidplinmempcaa
open Go.RowKit
/-- How much there is of all lots whose asset and tag pass. -/
def wt (f : Int → Int → Bool) : List Lot → Int
  | [] => 0
  | y :: t => (if f y.asset y.tag = true then y.qty else 0) + wt f t
def keyF (a t : Int) : Int → Int → Bool := fun x y => x == a && y == t
theorem wt_append (f : Int → Int → Bool) : ∀ (l m : List Lot), wt f (l ++ m) = wt f l + wt f m
  | [], m => by simp [wt]
  | y :: t, m => by rw [List.cons_append]; simp only [wt]; rw [wt_append f t m]; omega
theorem wt_nonneg (f : Int → Int → Bool) : ∀ {l : List Lot} (_ : ∀ z ∈ l, rightL z = true), 0 ≤ wt f l
  | [], _ => by simp [wt]
  | y :: t, h => by
    have h1 := wt_nonneg f (l := t) fun z hz => h z (by simp [hz])
    have h2 := (rightL_iff.1 (h y (by simp))).2.2.2.2
    unfold wt; split <;> omega
theorem sumL_wt (a : Int) : ∀ (l : List Lot), sumL l a = wt (fun x _ => x == a) l
  | [] => rfl
  | y :: t => by
    have h := sumL_wt a t
    unfold sumL qtyL at h ⊢
    unfold wt
    rw [List.filter_cons]
    cases hq : y.asset == a
    · rw [if_neg (by simp), if_neg (by simp)]; omega
    · rw [if_pos rfl, if_pos rfl, List.map_cons, List.sum_cons]; omega
theorem get_none {t : List Lot} {a b : Int} (h : ∀ z ∈ t, (z.asset == a && z.tag == b) = false) : getL t a b = 0 := by
  have : t.find? (fun z => z.asset == a && z.tag == b) = none := by
    rw [List.find?_eq_none]
    intro z hz
    rw [h z hz]; simp
  unfold getL; rw [this]
theorem get_cons (y : Lot) (t : List Lot) (a b : Int) : getL (y :: t) a b = if (y.asset == a && y.tag == b) = true then y.qty else getL t a b := by
  unfold getL
  rw [List.find?_cons]
  cases h : (y.asset == a && y.tag == b) <;> simp
theorem gt_keys {y z : Lot} (h : ltL y z = true) : (z.asset == y.asset && z.tag == y.tag) = false := by
  rw [keys_eq]; exact gt_ne h
theorem key_of {y : Lot} {a b : Int} (h : (y.asset == a && y.tag == b) = true) : y.asset = a ∧ y.tag = b := by simpa using h
theorem get_wt {a b : Int} : ∀ {l : List Lot} (_ : SortL l), getL l a b = wt (keyF a b) l
  | [], _ => rfl
  | y :: t, hs => by
    unfold SortL at hs
    rw [List.pairwise_cons] at hs
    have ih := get_wt (a := a) (b := b) (l := t) hs.2
    rw [get_cons]
    unfold wt
    rw [← ih]
    unfold keyF
    cases h : (y.asset == a && y.tag == b)
    · simp
    · obtain ⟨rfl, rfl⟩ := key_of h
      rw [if_pos rfl, if_pos rfl, get_none fun z hz => gt_keys (hs.1 z hz)]; omega
theorem get_pos {l : List Lot} {a b : Int} (hr : ∀ z ∈ l, rightL z = true) (h : ∃ z ∈ l, z.asset = a ∧ z.tag = b) : 0 < getL l a b := by
  obtain ⟨z, hz, rfl, rfl⟩ := h
  unfold getL
  cases hf : l.find? (fun x => x.asset == z.asset && x.tag == z.tag) with
  | none => exact absurd (List.find?_eq_none.1 hf z hz) (by simp)
  | some y => exact (rightL_iff.1 (hr y (List.mem_of_find?_eq_some hf))).2.2.2.2
theorem get_mem {l : List Lot} {a b : Int} (h : 0 < getL l a b) : ∃ z ∈ l, z.asset = a ∧ z.tag = b := by
  unfold getL at h
  cases hf : l.find? (fun x => x.asset == a && x.tag == b) with
  | none => rw [hf] at h; simp at h
  | some y => exact ⟨y, List.mem_of_find?_eq_some hf, key_of (y := y) (by have := List.find?_some hf; exact this)⟩
theorem get_nonneg {l : List Lot} (hr : ∀ z ∈ l, rightL z = true) (a b : Int) : 0 ≤ getL l a b := by
  unfold getL
  cases hf : l.find? (fun x => x.asset == a && x.tag == b) with
  | none => exact Int.le_refl 0
  | some y => have := (rightL_iff.1 (hr y (List.mem_of_find?_eq_some hf))).2.2.2.2; show 0 ≤ y.qty; omega
theorem lt_tri {x y : Lot} : ltL x y = true ∨ ltL y x = true ∨ (x.asset = y.asset ∧ x.tag = y.tag) := by
  rw [ltL_iff, ltL_iff]; omega
theorem isR_of : ∀ {l : List Lot} {p : Option Lot} (_ : SortL l) (_ : ∀ x ∈ l, rightL x = true) (_ : ∀ q, p = some q → ∀ x ∈ l, ltL q x = true), isR p l = true
  | [], none, _, _, _ => rfl
  | [], some _, _, _, _ => rfl
  | x :: t, p, hs, hr, hp => by
    unfold SortL at hs
    rw [List.pairwise_cons] at hs
    have ih := isR_of (l := t) (p := some x) hs.2 (fun y hy => hr y (by simp [hy])) (fun q hq => by injection hq with e; subst e; exact hs.1)
    have h1 := hr x (by simp)
    cases p with
    | none => unfold isR; rw [h1, ih]; rfl
    | some q => unfold isR; rw [h1, ih, hp q rfl x (by simp)]; rfl
theorem isL_of {l : List Lot} (hs : SortL l) (hr : ∀ x ∈ l, rightL x = true) (h : l.length ≤ 16) : isL l = true := by
  unfold isL
  rw [isR_of hs hr (fun q hq => by cases hq), Bool.true_and, decide_eq_true_eq]
  exact h
/-- Two rows that rise and have the same of each lot are one. -/
theorem get_ext : ∀ {l m : List Lot} (_ : SortL l) (_ : SortL m) (_ : ∀ x ∈ l, rightL x = true) (_ : ∀ x ∈ m, rightL x = true) (_ : ∀ a b, getL l a b = getL m a b), l = m
  | [], [], _, _, _, _, _ => rfl
  | [], y :: t, _, _, _, hm, h => by
    have := get_pos hm ⟨y, by simp, rfl, rfl⟩
    rw [← h] at this
    exact absurd this (by show ¬ 0 < (0 : Int); omega)
  | y :: t, [], _, _, hl, _, h => by
    have := get_pos hl ⟨y, by simp, rfl, rfl⟩
    rw [h] at this
    exact absurd this (by show ¬ 0 < (0 : Int); omega)
  | x :: s, y :: t, h1, h2, hl, hm, h => by
    unfold SortL at h1 h2
    rw [List.pairwise_cons] at h1 h2
    have hk : x.asset = y.asset ∧ x.tag = y.tag := by
      rcases lt_tri (x := x) (y := y) with k | k | k
      · have := get_pos hl ⟨x, by simp, rfl, rfl⟩
        rw [h, get_none] at this
        · omega
        · intro z hz
          rcases List.mem_cons.1 hz with rfl | hz
          · exact gt_keys k
          · exact gt_keys (ltL_trans k (h2.1 z hz))
      · have := get_pos hm ⟨y, by simp, rfl, rfl⟩
        rw [← h, get_none] at this
        · omega
        · intro z hz
          rcases List.mem_cons.1 hz with rfl | hz
          · exact gt_keys k
          · exact gt_keys (ltL_trans k (h1.1 z hz))
      · exact k
    have hq : x.qty = y.qty := by
      have := h x.asset x.tag
      rw [get_cons, get_cons, if_pos (by simp), if_pos (by rw [hk.1, hk.2]; simp)] at this
      exact this
    have hxy : x = y := by
      obtain ⟨xa, xt, xq⟩ := x
      obtain ⟨ya, yt, yq⟩ := y
      simp only at hk hq
      rw [hk.1, hk.2, hq]
    subst hxy
    congr 1
    refine get_ext h1.2 h2.2 (fun z hz => hl z (by simp [hz])) (fun z hz => hm z (by simp [hz])) fun a b => ?_
    have := h a b
    rw [get_cons, get_cons] at this
    cases hc : (x.asset == a && x.tag == b)
    · rw [hc] at this; simpa using this
    · obtain ⟨rfl, rfl⟩ := key_of hc
      rw [get_none fun z hz => gt_keys (h1.1 z hz), get_none fun z hz => gt_keys (h2.1 z hz)]
theorem sub_len : ∀ {m l : List Lot} (_ : SortL l) (_ : SortL m) (_ : ∀ x ∈ l, ∃ y ∈ m, y.asset = x.asset ∧ y.tag = x.tag), l.length ≤ m.length
  | [], [], _, _, _ => Nat.le_refl _
  | [], x :: s, _, _, h => by obtain ⟨y, hy, _⟩ := h x (by simp); cases hy
  | y :: t, [], _, _, _ => by simp
  | y :: t, x :: s, h1, h2, h => by
    have h1' := h1
    unfold SortL at h1 h2
    rw [List.pairwise_cons] at h1 h2
    rcases lt_tri (x := x) (y := y) with k | k | k
    · obtain ⟨z, hz, e1, e2⟩ := h x (by simp)
      rw [ltL_iff] at k
      rcases List.mem_cons.1 hz with rfl | hz
      · exfalso; omega
      · have := h2.1 z hz
        rw [ltL_iff] at this
        exfalso; omega
    · have := sub_len (m := t) (l := x :: s) h1' h2.2 fun z hz => by
        obtain ⟨u, hu, e1, e2⟩ := h z hz
        rcases List.mem_cons.1 hu with rfl | hu
        · have hyz : ltL u z = true := by
            rcases List.mem_cons.1 hz with rfl | hz
            · exact k
            · exact ltL_trans k (h1.1 z hz)
          rw [ltL_iff] at hyz
          exfalso; omega
        · exact ⟨u, hu, e1, e2⟩
      simp only [List.length_cons] at this ⊢
      omega
    · have := sub_len (m := t) (l := s) h1.2 h2.2 fun z hz => by
        obtain ⟨u, hu, e1, e2⟩ := h z (by simp [hz])
        rcases List.mem_cons.1 hu with rfl | hu
        · have hxz := h1.1 z hz
          rw [ltL_iff] at hxz
          exfalso; omega
        · exact ⟨u, hu, e1, e2⟩
      simp only [List.length_cons]
      omega
theorem setG_mem {x : Lot} : ∀ {l : List Lot} {done : Bool} {z : Lot} (_ : z ∈ setG x done l), (z = x ∧ done = false) ∨ z ∈ l
  | [], done, z, h => by
    unfold setG at h
    cases done
    · exact .inl ⟨by simpa using h, rfl⟩
    · simp at h
  | y :: t, done, z, h => by
    unfold setG at h
    rcases List.mem_append.1 h with h | h
    · split at h
      · rename_i hc
        refine .inl ⟨by simpa using h, ?_⟩
        cases done
        · rfl
        · simp at hc
      · simp at h
    · rcases List.mem_append.1 h with h | h
      · split at h
        · simp at h
        · exact .inr (by simp at h; simp [h])
      · rcases setG_mem h with ⟨rfl, h⟩ | h
        · refine .inl ⟨rfl, ?_⟩
          cases done
          · rfl
          · simp at h
        · exact .inr (by simp [h])
theorem setG_sort {x : Lot} : ∀ {l : List Lot} {done : Bool} (_ : SortL l), SortL (setG x done l)
  | [], done, _ => by
    unfold setG SortL
    cases done <;> simp
  | y :: t, done, hs => by
    have hs' := hs
    unfold SortL at hs
    rw [List.pairwise_cons] at hs
    cases h : ltL y x
    · have hid : setG x true t = t := setG_id (fun z hz => gt_ne (ge_lt h (hs.1 z hz)))
      have hxt : ∀ z ∈ t, ltL x z = true := fun z hz => ge_lt h (hs.1 z hz)
      cases he : eqL y x
      · have hxy : ltL x y = true := by
          rcases lt_tri (x := x) (y := y) with k | k | k
          · exact k
          · rw [k] at h; cases h
          · rw [eqL_iff.2 ⟨k.1.symm, k.2.symm⟩] at he; cases he
        cases done
        · have : setG x false (y :: t) = x :: y :: t := by simp [setG, keys_eq, h, he, hid]
          rw [this]
          unfold SortL
          refine List.pairwise_cons.2 ⟨fun z hz => ?_, List.pairwise_cons.2 hs⟩
          rcases List.mem_cons.1 hz with rfl | hz
          · exact hxy
          · exact hxt z hz
        · have : setG x true (y :: t) = y :: t := by simp [setG, keys_eq, h, he, hid]
          rw [this]; exact hs'
      · cases done
        · have : setG x false (y :: t) = x :: t := by simp [setG, keys_eq, h, he, hid]
          rw [this]
          exact List.pairwise_cons.2 ⟨hxt, hs.2⟩
        · have : setG x true (y :: t) = t := by simp [setG, keys_eq, h, he, hid]
          rw [this]; exact hs.2
    · have h1 := lt_ne h
      have ih := setG_sort (x := x) (l := t) (done := done) hs.2
      have : setG x done (y :: t) = y :: setG x done t := by simp [setG, keys_eq, h, h1]
      rw [this]
      refine List.pairwise_cons.2 ⟨fun z hz => ?_, ih⟩
      rcases setG_mem hz with ⟨rfl, _⟩ | hz
      · exact h
      · exact hs.1 z hz
theorem setG_wt (f : Int → Int → Bool) {x : Lot} : ∀ {l : List Lot} {done : Bool} (_ : SortL l), wt f (setG x done l) = wt f l + (if f x.asset x.tag = true then (if done = true then 0 else x.qty) - getL l x.asset x.tag else 0)
  | [], done, _ => by
    unfold setG getL
    cases done <;> simp [wt]
  | y :: t, done, hs => by
    unfold SortL at hs
    rw [List.pairwise_cons] at hs
    rw [get_cons, keys_eq]
    cases h : ltL y x
    · have hid : setG x true t = t := setG_id (fun z hz => gt_ne (ge_lt h (hs.1 z hz)))
      have hn : getL t x.asset x.tag = 0 := get_none fun z hz => gt_keys (ge_lt h (hs.1 z hz))
      rw [hn]
      cases he : eqL y x
      · cases done
        · have : setG x false (y :: t) = x :: y :: t := by simp [setG, keys_eq, h, he, hid]
          rw [this]
          simp only [wt]
          split <;> simp <;> omega
        · have : setG x true (y :: t) = y :: t := by simp [setG, keys_eq, h, he, hid]
          rw [this]
          simp
      · have ⟨k1, k2⟩ := eqL_iff.1 he
        cases done
        · have : setG x false (y :: t) = x :: t := by simp [setG, keys_eq, h, he, hid]
          rw [this]
          simp only [wt]
          rw [k1, k2]
          split <;> simp <;> omega
        · have : setG x true (y :: t) = t := by simp [setG, keys_eq, h, he, hid]
          rw [this]
          simp only [wt]
          rw [k1, k2]
          split <;> simp <;> omega
    · have h1 := lt_ne h
      have ih := setG_wt f (x := x) (l := t) (done := done) hs.2
      have : setG x done (y :: t) = y :: setG x done t := by simp [setG, keys_eq, h, h1]
      rw [this, h1]
      simp only [wt]
      rw [ih]
      simp
      omega
theorem setG_len {l : List Lot} (hs : SortL l) (x : Lot) : (setG x false l).length = l.length + (if thL l x = true then 0 else 1) := by
  rw [setG_false hs]
  have := plL_le l x
  cases h : thL l x
  · simp; omega
  · have := thL_lt h
    simp; omega
theorem put_zero {l : List Lot} {x : Lot} (h : putLC l x = 0) : isL l = true ∧ rightL x = true := by
  unfold putLC at h
  by_cases hc : codeL l x = 0
  · unfold codeL at hc
    cases h1 : isL l
    · rw [h1] at hc; simp at hc
    · cases h2 : rightL x
      · rw [h1, h2] at hc; simp at hc
      · exact ⟨rfl, rfl⟩
  · rw [if_neg hc] at h; exact absurd h hc
theorem right_with {x : Lot} {q : Int} (h : rightL x = true) (hq : 0 < q) : rightL (withQ x q) = true := by
  have := rightL_iff.1 h
  exact rightL_iff.2 ⟨this.1, this.2.1, this.2.2.1, this.2.2.2.1, hq⟩
theorem in64_l {l : List Lot} (hin : ∀ y ∈ l, In64 y.qty) (a b : Int) : In64 (getL l a b) := getL_in hin a b
/-- What was put makes of lots that may be. -/
theorem put_made {l : List Lot} {x : Lot} (hx : In64 x.qty) (h : putLC l x = 0) :
    isL (putLL l x) = true ∧ (∀ f, wt f (putLL l x) = wt f l + (if f x.asset x.tag = true then x.qty else 0)) ∧ putLL l x = setG (withQ x (getL l x.asset x.tag + x.qty)) false l := by
  obtain ⟨h1, h2⟩ := put_zero h
  obtain ⟨hs, hr, h16⟩ := isL_sort h1
  have hp := put_ref h1 h2 hx
  have he := hp.2 h
  have hg := get_nonneg hr x.asset x.tag
  have hxp := (rightL_iff.1 h2).2.2.2.2
  have hb : ((getL l x.asset x.tag + x.qty) == 0) = false := by rw [beq_eq_false_iff_ne]; omega
  rw [hb] at he
  refine ⟨?_, fun f => ?_, he⟩
  · rw [he]
    refine isL_of (setG_sort hs) (fun z hz => ?_) ?_
    · rcases setG_mem hz with ⟨rfl, _⟩ | hz
      · exact right_with h2 (by omega)
      · exact hr z hz
    · rw [setG_len hs, (pl_with l x _).2]
      cases ht : thL l x
      · have hc := codeL_zero h1 h2
        unfold putLC at h
        rw [if_pos hc, ht, if_neg (by simp)] at h
        by_cases h3 : 16 ≤ l.length
        · rw [if_pos h3] at h; omega
        · simp; omega
      · simp; exact h16
  · rw [he, setG_wt f hs]
    show _ + (if f x.asset x.tag = true then (if false = true then 0 else (getL l x.asset x.tag + x.qty)) - getL l x.asset x.tag else 0) = _
    split <;> simp <;> omega
theorem wt_get {l : List Lot} (h : isL l = true) (a b : Int) : getL l a b = wt (keyF a b) l := get_wt (isL_sort h).1
end Go.Proofs.Ytiidplinmempcaa

/- Holds, plain: what goes from one to another one keeps how much there is, and changes nobody else. No program in sight. -/
namespace Go.Proofs.Ytiidplinmempcaa
open Go.RowKit
theorem tak_ok {l : List Lot} {x : Lot} (h : takLC l x = 0) : isL l = true ∧ rightL x = true := by
  unfold takLC at h
  by_cases hc : codeL l x = 0
  · unfold codeL at hc
    cases h1 : isL l
    · rw [h1] at hc; simp at hc
    · cases h2 : rightL x
      · rw [h1, h2] at hc; simp at hc
      · exact ⟨rfl, rfl⟩
  · rw [if_neg hc] at h; exact absurd h hc
theorem take_made {l : List Lot} {x : Lot} (h : takLC l x = 0) (f : Int → Int → Bool) : wt f (takLL l x) = wt f l - (if f x.asset x.tag = true then x.qty else 0) := by
  obtain ⟨h1, h2⟩ := tak_ok h
  obtain ⟨hs, _, _⟩ := isL_sort h1
  rw [(take_ref h1 h2).2 h, setG_wt f hs]
  show _ + (if f x.asset x.tag = true then (if ((getL l x.asset x.tag - x.qty) == 0) = true then 0 else (getL l x.asset x.tag - x.qty)) - getL l x.asset x.tag else 0) = _
  by_cases h3 : f x.asset x.tag = true
  · rw [if_pos h3, if_pos h3]
    by_cases h4 : ((getL l x.asset x.tag - x.qty) == 0) = true
    · rw [if_pos h4]
      have := of_decide_eq_true h4
      omega
    · rw [if_neg h4]; omega
  · rw [if_neg h3, if_neg h3]; omega
theorem move_facts {L : List (Row Lot)} {a b : Un} (h : mhC L a b = 0) : isK isL L = true ∧ a ≠ b ∧ ofK L b = [] := by
  unfold mhC at h
  cases hi : isK isL L
  · rw [hi] at h; simp at h
  · rw [hi, if_pos rfl] at h
    by_cases h1 : a = b
    · rw [if_pos h1] at h; omega
    · rw [if_neg h1] at h
      by_cases h2 : 0 < (ofK L b).length
      · rw [if_pos h2] at h; omega
      · exact ⟨rfl, h1, List.eq_nil_of_length_eq_zero (by omega)⟩
theorem move_keeps {L : List (Row Lot)} {a b : Un} (h : mhC L a b = 0) :
    (∀ f : List Lot → Int, f [] = 0 → sumK f (mhL L a b) = sumK f L) ∧ mhC (mhL L a b) b a = 0 ∧ mhL (mhL L a b) b a = L ∧ ofK (mhL L a b) b = ofK L a ∧ ∀ o, o ≠ a → o ≠ b → ofK (mhL L a b) o = ofK L o := by
  obtain ⟨hi, hab, hb⟩ := move_facts h
  have hs := (isK_facts hi).1
  have hM : mhL L a b = withK (withK L a []) b (ofK L a) := if_pos h
  have hof : ∀ o, ofK (mhL L a b) o = if o = b then ofK L a else if o = a then [] else ofK L o := fun o => by rw [hM, of_with, of_with]
  have hiM : isK isL (mhL L a b) = true := by
    rw [hM]
    refine with_is (with_is hi a fun hn => absurd rfl hn) b fun hn => ?_
    rcases ofK_ok hi a with h1 | h1
    · exact absurd h1 hn
    · exact h1
  have hc : mhC (mhL L a b) b a = 0 := by
    have h1 : ofK (mhL L a b) a = [] := by rw [hof, if_neg hab, if_pos rfl]
    unfold mhC
    rw [hiM, if_pos rfl, if_neg (fun e => hab e.symm), h1, if_neg (by simp)]
  refine ⟨fun f f0 => ?_, hc, ?_, by rw [hof, if_pos rfl], fun o h1 h2 => by rw [hof, if_neg h2, if_neg h1]⟩
  · rw [hM, sumK_with f f0 (with_sort hs a []), sumK_with f f0 hs, of_with, if_neg (fun e => hab e.symm), hb, f0]
    omega
  · have hN : mhL (mhL L a b) b a = withK (withK (mhL L a b) b []) a (ofK (mhL L a b) b) := if_pos hc
    have hsM := (isK_facts hiM).1
    have hiN : isK isL (mhL (mhL L a b) b a) = true := by
      rw [hN]
      refine with_is (with_is hiM b fun hn => absurd rfl hn) a fun hn => ?_
      rcases ofK_ok hiM b with h1 | h1
      · exact absurd h1 hn
      · exact h1
    refine ext_K (isK_facts hiN).1 hs (fun x hx => ((isK_facts hiN).2 x hx).1) (fun x hx => ((isK_facts hi).2 x hx).1) fun u => ?_
    rw [hN, of_with, of_with, hof, hof, if_pos rfl]
    by_cases h1 : u = a
    · rw [if_pos h1, h1]
    · rw [if_neg h1]
      by_cases h2 : u = b
      · rw [if_pos h2, h2, hb]
      · rw [if_neg h2, if_neg h2, if_neg h1]
theorem tot_wt (i : Int) (r : List Lot) : sumL r i = wt (fun x _ => x == i) r := sumL_wt i r
theorem pass_keeps {L : List (Row Lot)} {a b : Un} {x : Lot} {t : Int} (hx : In64 x.qty) (h : paC L a b x t = 0) :
    (∀ i, sumK (fun r => sumL r i) (paL L a b x t) = sumK (fun r => sumL r i) L) ∧ ∀ o, o ≠ a → o ≠ b → ofK (paL L a b x t) o = ofK L o := by
  have hP : paL L a b x t = ptL (tkHL L a x) b (withT x t) := if_pos h
  unfold paC at h
  cases hi : isK isL L
  · rw [hi] at h; simp at h
  rw [hi, if_pos rfl] at h
  by_cases hab : a = b
  · rw [if_pos hab] at h; omega
  rw [if_neg hab] at h
  by_cases h1 : tkHC L a x = 0
  · rw [if_pos h1] at h
    have hT : tkHL L a x = withK L a (takLL (ofK L a) x) := if_pos h1
    have hR : ptL (tkHL L a x) b (withT x t) = withK (tkHL L a x) b (putLL (ofK (tkHL L a x) b) (withT x t)) := if_pos h
    have h2 : takLC (ofK L a) x = 0 := by
      unfold tkHC at h1
      rw [hi, if_pos rfl] at h1
      exact h1
    have h3 : putLC (ofK (tkHL L a x) b) (withT x t) = 0 := by
      unfold ptC at h
      cases hj : isK isL (tkHL L a x)
      · rw [hj] at h; simp at h
      · rw [hj, if_pos rfl] at h; exact h
    have hs := (isK_facts hi).1
    refine ⟨fun i => ?_, fun o ha hb => ?_⟩
    · have f0 : (fun r : List Lot => sumL r i) [] = 0 := rfl
      have e1 : wt (fun x _ => x == i) (putLL (ofK (tkHL L a x) b) (withT x t)) = wt (fun x _ => x == i) (ofK (tkHL L a x) b) + (if (x.asset == i) = true then x.qty else 0) := (put_made (x := withT x t) hx h3).2.1 _
      have e2 : wt (fun x _ => x == i) (takLL (ofK L a) x) = wt (fun x _ => x == i) (ofK L a) - (if (x.asset == i) = true then x.qty else 0) := take_made h2 _
      rw [hP, hR, sumK_with (fun r => sumL r i) f0 (by rw [hT]; exact with_sort hs a _)]
      have e3 : sumK (fun r => sumL r i) (tkHL L a x) = sumK (fun r => sumL r i) L - sumL (ofK L a) i + sumL (takLL (ofK L a) x) i := by rw [hT, sumK_with (fun r => sumL r i) f0 hs]
      rw [e3]
      rw [tot_wt i (putLL _ _), tot_wt i (takLL _ _), tot_wt i (ofK (tkHL L a x) b), tot_wt i (ofK L a), e1, e2]
      omega
    · rw [hP, hR, of_with, if_neg hb, hT, of_with, if_neg ha]
  · rw [if_neg h1] at h; exact absurd h h1
end Go.Proofs.Ytiidplinmempcaa
