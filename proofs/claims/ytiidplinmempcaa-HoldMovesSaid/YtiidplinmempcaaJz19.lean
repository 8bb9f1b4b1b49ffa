/- Joined: Ho7, HoM, Frame, Open, LotOpen, LotsOpen, UnOpen. -/
import Derived.Test.YtiidplinmempcaaJz17
import Derived.Test.YtiidplinmempcaaJz18
import Derived.Test.YtiidplinmempcaaJz1
import Derived.Test.YtiidplinmempcaaJz3
import Derived.Test.YtiidplinmempcaaJz2
import Derived.Test.YtiidplinmempcaaChecked
import Derived.ProofKit
import Derived.Lib.SmallJoins
import Derived.Deep.Slices
/- Holds: contracts of Pass, the reference's Pass. -/
namespace Go.Proofs.Ytiidplinmempcaa
open Go.RowKit
/-- A list in the world's memory lies in no block that is made after. -/
theorem GoodHoldV.off {w : World} {x : HoldV} (h : GoodHoldV w x) (hn : x.lots.val ≠ []) {g : Nat} (hg : w.heap.size ≤ g) : OffB g x := by
  intro a ha
  obtain ⟨b, o, hA, hlt, _⟩ := h.2.rd 0 (encLot (x.lots.val[0]'(List.length_pos_iff.2 hn))) (by rw [List.getElem?_map, List.getElem?_eq_getElem (List.length_pos_iff.2 hn)]; rfl)
  rw [ha] at hA
  injection hA with hA
  subst hA
  dsimp only at *
  omega
theorem Rd.setOff {w : World} {A : Option Addr} {k : Nat} {rows : List (List Value)} (h : Rd w A k rows) {g o : Nat} {v : Value} (hA : ∀ a, A = some a → a.block ≠ g) : Rd (w.setCell ⟨g, o, none⟩ v) A k rows := by
  intro i r hr
  obtain ⟨b, o', e, hlt, hc⟩ := h i r hr
  refine ⟨b, o', e, by simpa using hlt, fun j z hz => ?_⟩
  rw [World.cell?_setCell_other _ _ _ _ (by intro h; injection h with h1 _ _; exact hA _ e h1.symm)]
  exact hc j z hz
theorem Rs.setOff {w : World} {A : Option Addr} {k c : Nat} {rows : List (List Value)} (h : Rs w k rows A c) {g o : Nat} {v : Value} (hA : ∀ a, A = some a → a.block ≠ g) : Rs (w.setCell ⟨g, o, none⟩ v) k rows A c := ⟨h.rd.setOff hA, h.cap, h.room, h.nil⟩
theorem GoodHoldV.setOff {w : World} {x : HoldV} (h : GoodHoldV w x) {g o : Nat} {v : Value} (hA : OffB g x) : GoodHoldV (w.setCell ⟨g, o, none⟩ v) x := ⟨h.1, h.2.setOff hA⟩
theorem hold_rsS {w : World} {S : Nat → Prop} {L : List (Row Lot)} {code : Int} {e : Ending} {w' : World} (h : HoldPostS w S L code e w') : ∃ (ys : List HoldV) (A : Option Addr) (c : Nat), e = .returned (.tuple #[.slice A ys.length c, .int .i64 code]) ∧ ys.map lgHoldV = L ∧ Rs w' 3 (ys.map encHoldV) A c ∧ FormA ys A c ∧ (∀ y ∈ ys, GoodHoldV w' y) ∧ (∀ g, S g → ∀ y ∈ ys, OffB g y) ∧ (∀ a, A = some a → w.heap.size ≤ a.block) ∧ Below w.heap.size w w' := by
  obtain ⟨v, ys, rfl, hl, hown, hg, hof, hb⟩ := h
  obtain ⟨A, c, hv, hrs, hf⟩ := hown.rs
  rw [List.length_map] at hv
  subst hv
  refine ⟨ys, A, c, rfl, hl, hrs, ?_, hg, hof, own_off hown (Nat.le_refl _), hb⟩
  rcases hf with ⟨h1, h2, h3⟩ | ⟨g, h1, _⟩
  · exact .inl ⟨h1, List.map_eq_nil_iff.1 h2, h3⟩
  · exact .inr ⟨g, 0, h1⟩
theorem holdTakeRS (S : Nat → Prop) (l : List HoldV) (u : Un) (x : Lot) (A : Option Addr) (c : Nat) (w : World) (hS : ∀ g, S g → g < w.heap.size ∧ ∀ x ∈ l, OffB g x) (hl : l.length ≤ 2000) (hq : LQ (l.map lgHoldV)) (hx : In64 x.qty) (hr : Rs w 3 (l.map encHoldV) A c) (_ : FormA l A c) (hg : ∀ x ∈ l, GoodHoldV w x) :
    Calls Try.prog 66 #[.slice A l.length c, .agg #[.int .i64 u.acc, .int .i64 u.cli], .agg #[.int .i64 x.asset, .int .i64 x.tag, .int .i64 x.qty]] w (HoldPostS w S (tkHL (l.map lgHoldV) u x) (tkHC (l.map lgHoldV) u x)) := holdTakeS S l u x A c w (fun g hg => (hS g hg).1) hl hq hx hr.rd hg
set_option maxRecDepth 100000 in
set_option maxHeartbeats 16000000 in
theorem holdPass (l : List HoldV) (a b : Un) (x : Lot) (t : Int) (A : Option Addr) (c : Nat) (w : World) (hl : l.length ≤ 1000) (hq : LQ (l.map lgHoldV)) (hx : In64 x.qty) (hr : Rs w 3 (l.map encHoldV) A c) (hform : FormA l A c) (hg : ∀ x ∈ l, GoodHoldV w x) :
    Calls Try.prog 31 #[.slice A l.length c, .agg #[.int .i64 a.acc, .int .i64 a.cli], .agg #[.int .i64 b.acc, .int .i64 b.cli], .agg #[.int .i64 x.asset, .int .i64 x.tag, .int .i64 x.qty], .int .i64 t] w (HoldPost w (paL (l.map lgHoldV) a b x t) (paC (l.map lgHoldV) a b x t)) := by
  have ci := fun W (h : Below w.heap.size w W) => holdIs l A c W (by omega) (hr.keep h).rd (fun x hx => (hg x hx).keep h)
  rw [show isHoldV l = isK isL (l.map lgHoldV) from rfl] at ci
  have c1 := fun (hk : isK isL (l.map lgHoldV) = true) W (h : Below w.heap.size w W) => holdTakeRS (fun g => w.heap.size ≤ g ∧ g < W.heap.size) l a x A c W (fun g hgw => ⟨hgw.2, fun y hy => (hg y hy).off ((isK_facts hk).2 (lgHoldV y) (List.mem_map.2 ⟨y, hy, rfl⟩)).1 hgw.1⟩) (by omega) hq hx (hr.keep h) hform (fun y hy => (hg y hy).keep h)
  have hwl := tkH_len (l.map lgHoldV) a x
  rw [List.length_map] at hwl
  have c2 := fun (ys : List HoldV) W A5 c5 (hlg : ys.map lgHoldV = tkHL (l.map lgHoldV) a x) (h5 : Rs W 3 (ys.map encHoldV) A5 c5) (hf : FormA ys A5 c5) (hy : ∀ y ∈ ys, GoodHoldV W y) => hlg ▸ holdPutR ys b ⟨x.asset, t, x.qty⟩ A5 c5 W (by have h1 := congrArg List.length hlg; rw [List.length_map] at h1; omega) (by rw [hlg]; exact hq.tak a x) hx h5 hf hy
  dsimp only at c2
  have hC : paC (l.map lgHoldV) a b x t = if isK isL (l.map lgHoldV) then (if a = b then 24 else if tkHC (l.map lgHoldV) a x = 0 then ptC (tkHL (l.map lgHoldV) a x) b ⟨x.asset, t, x.qty⟩ else tkHC (l.map lgHoldV) a x) else 3 := rfl
  have hL : paL (l.map lgHoldV) a b x t = if paC (l.map lgHoldV) a b x t = 0 then ptL (tkHL (l.map lgHoldV) a x) b ⟨x.asset, t, x.qty⟩ else [] := rfl
  have hp : ptC (tkHL (l.map lgHoldV) a x) b ⟨x.asset, t, x.qty⟩ ≠ 0 → ptL (tkHL (l.map lgHoldV) a x) b ⟨x.asset, t, x.qty⟩ = [] := fun h => if_neg h
  clear hr hg hq hform hwl hx
  generalize paL (l.map lgHoldV) a b x t = R at *
  generalize paC (l.map lgHoldV) a b x t = code at *
  generalize ptL (tkHL (l.map lgHoldV) a x) b ⟨x.asset, t, x.qty⟩ = R2 at *
  generalize ptC (tkHL (l.map lgHoldV) a x) b ⟨x.asset, t, x.qty⟩ = code2 at *
  generalize tkHL (l.map lgHoldV) a x = R1 at *
  generalize tkHC (l.map lgHoldV) a x = code1 at *
  have C2 := Lib.hid c2
  clear c2
  cases hi : isK isL (l.map lgHoldV)
  · rw [hi] at ci hC
    obtain rfl : code = 3 := hC
    have HL := Lib.hid (show R = [] from hL)
    have CI := Lib.hid ci
    clear c1 ci hi hL hp
    go_enter Try.func31, Try.ntmps31
    go_wp2_with (first | (go_at_call 58; (with_reducible refine (CI.out _ (by (repeat' (first | (with_reducible exact Below.refl _ _) | (with_reducible assumption) | (with_reducible refine Below.alloc ?_ ?_ _) | (with_reducible refine Below.setCell ?_ ?_ _) | (with_reducible refine Below.drew ?_) | (with_reducible refine below_drewN ?_ _) | (with_reducible refine below_via ?_ (by with_reducible assumption) ?_) | omega | (simp; done) | (simp; omega))))).mono ?_); rintro e w9 ⟨rfl, hb9⟩; obtain ⟨fc9, fg9, hc9, hf9, hz9⟩ := bget hb9; (try simp at hz9)) | fail)
    go_ret2
    exact ⟨_, [], rfl, HL.out.symm, Own.nil _ _ _ _, fun y hy => absurd hy (by simp), by (repeat' (first | (with_reducible exact Below.refl _ _) | (with_reducible assumption) | (with_reducible refine Below.alloc ?_ ?_ _) | (with_reducible refine Below.setCell ?_ ?_ _) | (with_reducible refine Below.drew ?_) | (with_reducible refine below_drewN ?_ _) | (with_reducible refine below_via ?_ (by with_reducible assumption) ?_) | omega | (simp; done) | (simp; omega)))⟩
  rw [hi] at ci hC
  simp only [if_true] at hC
  have CI := Lib.hid ci
  have C1 := Lib.hid (c1 hi)
  clear c1 ci hi
  rcases un_tHoldV (x := a) (u := b) with rfl | hne
  · rw [if_pos rfl] at hC
    subst hC
    have HL := Lib.hid (show R = [] from hL)
    clear hL hp
    go_enter Try.func31, Try.ntmps31
    go_wp2_with (first | (go_at_call 58; (with_reducible refine (CI.out _ (by (repeat' (first | (with_reducible exact Below.refl _ _) | (with_reducible assumption) | (with_reducible refine Below.alloc ?_ ?_ _) | (with_reducible refine Below.setCell ?_ ?_ _) | (with_reducible refine Below.drew ?_) | (with_reducible refine below_drewN ?_ _) | (with_reducible refine below_via ?_ (by with_reducible assumption) ?_) | omega | (simp; done) | (simp; omega))))).mono ?_); rintro e w9 ⟨rfl, hb9⟩; obtain ⟨fc9, fg9, hc9, hf9, hz9⟩ := bget hb9; (try simp at hz9)) | fail)
    go_ret2
    exact ⟨_, [], rfl, HL.out.symm, Own.nil _ _ _ _, fun y hy => absurd hy (by simp), by (repeat' (first | (with_reducible exact Below.refl _ _) | (with_reducible assumption) | (with_reducible refine Below.alloc ?_ ?_ _) | (with_reducible refine Below.setCell ?_ ?_ _) | (with_reducible refine Below.drew ?_) | (with_reducible refine below_drewN ?_ _) | (with_reducible refine below_via ?_ (by with_reducible assumption) ?_) | omega | (simp; done) | (simp; omega)))⟩
  rw [if_neg (un_dHoldV hne)] at hC
  cases h1 : (code1 == 0)
  · have e1 : (code1 != 0) = true := by simp only [bne, h1]; rfl
    have h1' : code1 ≠ 0 := by simpa using h1
    rw [if_neg h1'] at hC
    subst hC
    have HL := Lib.hid (show R = [] from by rw [hL, if_neg h1'])
    clear hL hp h1'
    rcases hne with hne | hne
    all_goals
      go_enter Try.func31, Try.ntmps31
      go_wp2_with (first | (go_at_call 58; (with_reducible refine (CI.out _ (by (repeat' (first | (with_reducible exact Below.refl _ _) | (with_reducible assumption) | (with_reducible refine Below.alloc ?_ ?_ _) | (with_reducible refine Below.setCell ?_ ?_ _) | (with_reducible refine Below.drew ?_) | (with_reducible refine below_drewN ?_ _) | (with_reducible refine below_via ?_ (by with_reducible assumption) ?_) | omega | (simp; done) | (simp; omega))))).mono ?_); rintro e w9 ⟨rfl, hb9⟩; obtain ⟨fc9, fg9, hc9, hf9, hz9⟩ := bget hb9; (try simp at hz9)) | (go_at_call 66; (with_reducible refine (C1.out _ (by (repeat' (first | (with_reducible exact Below.refl _ _) | (with_reducible assumption) | (with_reducible refine Below.alloc ?_ ?_ _) | (with_reducible refine Below.setCell ?_ ?_ _) | (with_reducible refine Below.drew ?_) | (with_reducible refine below_drewN ?_ _) | (with_reducible refine below_via ?_ (by with_reducible assumption) ?_) | omega | (simp; done) | (simp; omega))))).mono ?_); intro e w5 hp5; obtain ⟨ys, A5, c5, rfl, hlg5, hrs5, hfm5, hgd5, hb5⟩ := hold_rs hp5.less; clear hp5 hlg5 hrs5 hfm5 hgd5; obtain ⟨fc5, fg5, hc5, hf5, hz5⟩ := bget hb5; (try simp at hz5)) | fail)
      go_ret2
      exact ⟨_, [], rfl, HL.out.symm, Own.nil _ _ _ _, fun y hy => absurd hy (by simp), by (repeat' (first | (with_reducible exact Below.refl _ _) | (with_reducible assumption) | (with_reducible refine Below.alloc ?_ ?_ _) | (with_reducible refine Below.setCell ?_ ?_ _) | (with_reducible refine Below.drew ?_) | (with_reducible refine below_drewN ?_ _) | (with_reducible refine below_via ?_ (by with_reducible assumption) ?_) | omega | (simp; done) | (simp; omega)))⟩
  · obtain rfl : code1 = 0 := by simpa using h1
    rw [if_pos rfl] at hC
    subst hC
    have HL := Lib.hid (show R2 = R from by
      rw [hL]
      by_cases h : code = 0
      · rw [if_pos h]
      · rw [if_neg h, hp h])
    clear hL hp h1
    rcases hne with hne | hne
    all_goals
      go_enter Try.func31, Try.ntmps31
      go_wp2_with (first | (go_at_call 58; (with_reducible refine (CI.out _ (by (repeat' (first | (with_reducible exact Below.refl _ _) | (with_reducible assumption) | (with_reducible refine Below.alloc ?_ ?_ _) | (with_reducible refine Below.setCell ?_ ?_ _) | (with_reducible refine Below.drew ?_) | (with_reducible refine below_drewN ?_ _) | (with_reducible refine below_via ?_ (by with_reducible assumption) ?_) | omega | (simp; done) | (simp; omega))))).mono ?_); rintro e w9 ⟨rfl, hb9⟩; obtain ⟨fc9, fg9, hc9, hf9, hz9⟩ := bget hb9; (try simp at hz9)) | (go_at_call 66; (with_reducible refine (C1.out _ (by (repeat' (first | (with_reducible exact Below.refl _ _) | (with_reducible assumption) | (with_reducible refine Below.alloc ?_ ?_ _) | (with_reducible refine Below.setCell ?_ ?_ _) | (with_reducible refine Below.drew ?_) | (with_reducible refine below_drewN ?_ _) | (with_reducible refine below_via ?_ (by with_reducible assumption) ?_) | omega | (simp; done) | (simp; omega))))).mono ?_); intro e w5 hp5; obtain ⟨ys, A5, c5, rfl, hlg5, hrs5, hfm5, hgd5, hof5, hao5, hb5⟩ := hold_rsS hp5; have HLG5 := Lib.hid hlg5; have H5 := Lib.hid (hrs5.setOff (g := w.heap.size + 1 + 1) (o := 1) (v := .int .i64 t) (fun a ha => by have h1 := hao5 a ha; have h2 := hb9.size; simp at h1 h2; omega)); have HF5 := Lib.hid hfm5; have HG5 := Lib.hid (fun y hy => (hgd5 y hy).setOff (g := w.heap.size + 1 + 1) (o := 1) (v := .int .i64 t) (hof5 _ (by have h2 := hb9.size; simp at h2; (first | omega | (simp; omega))) y hy)); clear hp5 hlg5 hrs5 hfm5 hgd5 hof5 hao5; obtain ⟨fc5, fg5, hc5, hf5, hz5⟩ := bget hb5; (try simp at hz5)) | (go_at_call 64; (with_reducible refine (C2.out ys _ A5 c5 HLG5.out (H5.out.keep (by (repeat' (first | (with_reducible exact Below.refl _ _) | (with_reducible assumption) | (with_reducible refine Below.alloc ?_ ?_ _) | (with_reducible refine Below.setCell ?_ ?_ _) | (with_reducible refine Below.drew ?_) | (with_reducible refine below_drewN ?_ _) | (with_reducible refine below_via ?_ (by with_reducible assumption) ?_) | omega | (simp; done) | (simp; omega))))) HF5.out (fun y hy => (HG5.out y hy).keep (by (repeat' (first | (with_reducible exact Below.refl _ _) | (with_reducible assumption) | (with_reducible refine Below.alloc ?_ ?_ _) | (with_reducible refine Below.setCell ?_ ?_ _) | (with_reducible refine Below.drew ?_) | (with_reducible refine below_drewN ?_ _) | (with_reducible refine below_via ?_ (by with_reducible assumption) ?_) | omega | (simp; done) | (simp; omega)))))).mono ?_); rintro e w6 ⟨v6, zs, rfl, hlg6, hown6, hgd6, hb6⟩; have HLG6 := Lib.hid hlg6; have HO6 := Lib.hid hown6; have HG6 := Lib.hid hgd6; clear hlg6 hown6 hgd6; obtain ⟨fc6, fg6, hc6, hf6, hz6⟩ := bget hb6; (try simp at hz6)) | fail)
      go_ret2
      exact ⟨_, zs, rfl, HLG6.out.trans HL.out, HO6.out.mono (by first | omega | (simp; done) | (simp; omega)), HG6.out, by (repeat' (first | (with_reducible exact Below.refl _ _) | (with_reducible assumption) | (with_reducible refine Below.alloc ?_ ?_ _) | (with_reducible refine Below.setCell ?_ ?_ _) | (with_reducible refine Below.drew ?_) | (with_reducible refine below_drewN ?_ _) | (with_reducible refine below_via ?_ (by with_reducible assumption) ?_) | omega | (simp; done) | (simp; omega)))⟩
set_option maxRecDepth 100000 in
set_option maxHeartbeats 16000000 in
theorem ref26Pass (l : List HoldV) (a b : Un) (x : Lot) (t : Int) (A : Option Addr) (c : Nat) (w : World) (hl : l.length ≤ 1000) (hq : LQ (l.map lgHoldV)) (hx : In64 x.qty) (hr : Rs w 3 (l.map encHoldV) A c) (hform : FormA l A c) (hg : ∀ x ∈ l, GoodHoldV w x) :
    Calls Try.prog 32 #[.slice A l.length c, .agg #[.int .i64 a.acc, .int .i64 a.cli], .agg #[.int .i64 b.acc, .int .i64 b.cli], .agg #[.int .i64 x.asset, .int .i64 x.tag, .int .i64 x.qty], .int .i64 t] w (HoldPost w (paL (l.map lgHoldV) a b x t) (paC (l.map lgHoldV) a b x t)) := by
  have ci := fun W (h : Below w.heap.size w W) => refHoldVIs l A c W (by omega) (hr.keep h).rd (fun x hx => (hg x hx).keep h)
  rw [show isHoldV l = isK isL (l.map lgHoldV) from rfl] at ci
  have c1 := fun (hk : isK isL (l.map lgHoldV) = true) W (h : Below w.heap.size w W) => ref26TakeS (fun g => w.heap.size ≤ g ∧ g < W.heap.size) l a x A c W (fun g hgw => ⟨hgw.2, fun y hy => (hg y hy).off ((isK_facts hk).2 (lgHoldV y) (List.mem_map.2 ⟨y, hy, rfl⟩)).1 hgw.1⟩) (by omega) hq hx (hr.keep h) hform (fun y hy => (hg y hy).keep h)
  have hwl := tkH_len (l.map lgHoldV) a x
  rw [List.length_map] at hwl
  have c2 := fun (ys : List HoldV) W A5 c5 (hlg : ys.map lgHoldV = tkHL (l.map lgHoldV) a x) (h5 : Rs W 3 (ys.map encHoldV) A5 c5) (hf : FormA ys A5 c5) (hy : ∀ y ∈ ys, GoodHoldV W y) => hlg ▸ ref26Put ys b ⟨x.asset, t, x.qty⟩ A5 c5 W (by have h1 := congrArg List.length hlg; rw [List.length_map] at h1; omega) (by rw [hlg]; exact hq.tak a x) hx h5 hf hy
  dsimp only at c2
  have hC : paC (l.map lgHoldV) a b x t = if isK isL (l.map lgHoldV) then (if a = b then 24 else if tkHC (l.map lgHoldV) a x = 0 then ptC (tkHL (l.map lgHoldV) a x) b ⟨x.asset, t, x.qty⟩ else tkHC (l.map lgHoldV) a x) else 3 := rfl
  have hL : paL (l.map lgHoldV) a b x t = if paC (l.map lgHoldV) a b x t = 0 then ptL (tkHL (l.map lgHoldV) a x) b ⟨x.asset, t, x.qty⟩ else [] := rfl
  have hp : ptC (tkHL (l.map lgHoldV) a x) b ⟨x.asset, t, x.qty⟩ ≠ 0 → ptL (tkHL (l.map lgHoldV) a x) b ⟨x.asset, t, x.qty⟩ = [] := fun h => if_neg h
  clear hr hg hq hform hwl hx
  generalize paL (l.map lgHoldV) a b x t = R at *
  generalize paC (l.map lgHoldV) a b x t = code at *
  generalize ptL (tkHL (l.map lgHoldV) a x) b ⟨x.asset, t, x.qty⟩ = R2 at *
  generalize ptC (tkHL (l.map lgHoldV) a x) b ⟨x.asset, t, x.qty⟩ = code2 at *
  generalize tkHL (l.map lgHoldV) a x = R1 at *
  generalize tkHC (l.map lgHoldV) a x = code1 at *
  have C2 := Lib.hid c2
  clear c2
  cases hi : isK isL (l.map lgHoldV)
  · rw [hi] at ci hC
    obtain rfl : code = 3 := hC
    have HL := Lib.hid (show R = [] from hL)
    have CI := Lib.hid ci
    clear c1 ci hi hL hp
    go_enter Try.func32, Try.ntmps32
    go_wp2_with (first | (go_at_call 59; (with_reducible refine (CI.out _ (by (repeat' (first | (with_reducible exact Below.refl _ _) | (with_reducible assumption) | (with_reducible refine Below.alloc ?_ ?_ _) | (with_reducible refine Below.setCell ?_ ?_ _) | (with_reducible refine Below.drew ?_) | (with_reducible refine below_drewN ?_ _) | (with_reducible refine below_via ?_ (by with_reducible assumption) ?_) | omega | (simp; done) | (simp; omega))))).mono ?_); rintro e w9 ⟨rfl, hb9⟩; obtain ⟨fc9, fg9, hc9, hf9, hz9⟩ := bget hb9; (try simp at hz9)) | fail)
    go_ret2
    exact ⟨_, [], rfl, HL.out.symm, Own.nil _ _ _ _, fun y hy => absurd hy (by simp), by (repeat' (first | (with_reducible exact Below.refl _ _) | (with_reducible assumption) | (with_reducible refine Below.alloc ?_ ?_ _) | (with_reducible refine Below.setCell ?_ ?_ _) | (with_reducible refine Below.drew ?_) | (with_reducible refine below_drewN ?_ _) | (with_reducible refine below_via ?_ (by with_reducible assumption) ?_) | omega | (simp; done) | (simp; omega)))⟩
  rw [hi] at ci hC
  simp only [if_true] at hC
  have CI := Lib.hid ci
  have C1 := Lib.hid (c1 hi)
  clear c1 ci hi
  rcases un_tHoldV (x := a) (u := b) with rfl | hne
  · rw [if_pos rfl] at hC
    subst hC
    have HL := Lib.hid (show R = [] from hL)
    clear hL hp
    go_enter Try.func32, Try.ntmps32
    go_wp2_with (first | (go_at_call 59; (with_reducible refine (CI.out _ (by (repeat' (first | (with_reducible exact Below.refl _ _) | (with_reducible assumption) | (with_reducible refine Below.alloc ?_ ?_ _) | (with_reducible refine Below.setCell ?_ ?_ _) | (with_reducible refine Below.drew ?_) | (with_reducible refine below_drewN ?_ _) | (with_reducible refine below_via ?_ (by with_reducible assumption) ?_) | omega | (simp; done) | (simp; omega))))).mono ?_); rintro e w9 ⟨rfl, hb9⟩; obtain ⟨fc9, fg9, hc9, hf9, hz9⟩ := bget hb9; (try simp at hz9)) | fail)
    go_ret2
    exact ⟨_, [], rfl, HL.out.symm, Own.nil _ _ _ _, fun y hy => absurd hy (by simp), by (repeat' (first | (with_reducible exact Below.refl _ _) | (with_reducible assumption) | (with_reducible refine Below.alloc ?_ ?_ _) | (with_reducible refine Below.setCell ?_ ?_ _) | (with_reducible refine Below.drew ?_) | (with_reducible refine below_drewN ?_ _) | (with_reducible refine below_via ?_ (by with_reducible assumption) ?_) | omega | (simp; done) | (simp; omega)))⟩
  rw [if_neg (un_dHoldV hne)] at hC
  cases h1 : (code1 == 0)
  · have e1 : (code1 != 0) = true := by simp only [bne, h1]; rfl
    have h1' : code1 ≠ 0 := by simpa using h1
    rw [if_neg h1'] at hC
    subst hC
    have HL := Lib.hid (show R = [] from by rw [hL, if_neg h1'])
    clear hL hp h1'
    rcases hne with hne | hne
    all_goals
      go_enter Try.func32, Try.ntmps32
      go_wp2_with (first | (go_at_call 59; (with_reducible refine (CI.out _ (by (repeat' (first | (with_reducible exact Below.refl _ _) | (with_reducible assumption) | (with_reducible refine Below.alloc ?_ ?_ _) | (with_reducible refine Below.setCell ?_ ?_ _) | (with_reducible refine Below.drew ?_) | (with_reducible refine below_drewN ?_ _) | (with_reducible refine below_via ?_ (by with_reducible assumption) ?_) | omega | (simp; done) | (simp; omega))))).mono ?_); rintro e w9 ⟨rfl, hb9⟩; obtain ⟨fc9, fg9, hc9, hf9, hz9⟩ := bget hb9; (try simp at hz9)) | (go_at_call 67; (with_reducible refine (C1.out _ (by (repeat' (first | (with_reducible exact Below.refl _ _) | (with_reducible assumption) | (with_reducible refine Below.alloc ?_ ?_ _) | (with_reducible refine Below.setCell ?_ ?_ _) | (with_reducible refine Below.drew ?_) | (with_reducible refine below_drewN ?_ _) | (with_reducible refine below_via ?_ (by with_reducible assumption) ?_) | omega | (simp; done) | (simp; omega))))).mono ?_); intro e w5 hp5; obtain ⟨ys, A5, c5, rfl, hlg5, hrs5, hfm5, hgd5, hb5⟩ := hold_rs hp5.less; clear hp5 hlg5 hrs5 hfm5 hgd5; obtain ⟨fc5, fg5, hc5, hf5, hz5⟩ := bget hb5; (try simp at hz5)) | fail)
      go_ret2
      exact ⟨_, [], rfl, HL.out.symm, Own.nil _ _ _ _, fun y hy => absurd hy (by simp), by (repeat' (first | (with_reducible exact Below.refl _ _) | (with_reducible assumption) | (with_reducible refine Below.alloc ?_ ?_ _) | (with_reducible refine Below.setCell ?_ ?_ _) | (with_reducible refine Below.drew ?_) | (with_reducible refine below_drewN ?_ _) | (with_reducible refine below_via ?_ (by with_reducible assumption) ?_) | omega | (simp; done) | (simp; omega)))⟩
  · obtain rfl : code1 = 0 := by simpa using h1
    rw [if_pos rfl] at hC
    subst hC
    have HL := Lib.hid (show R2 = R from by
      rw [hL]
      by_cases h : code = 0
      · rw [if_pos h]
      · rw [if_neg h, hp h])
    clear hL hp h1
    rcases hne with hne | hne
    all_goals
      go_enter Try.func32, Try.ntmps32
      go_wp2_with (first | (go_at_call 59; (with_reducible refine (CI.out _ (by (repeat' (first | (with_reducible exact Below.refl _ _) | (with_reducible assumption) | (with_reducible refine Below.alloc ?_ ?_ _) | (with_reducible refine Below.setCell ?_ ?_ _) | (with_reducible refine Below.drew ?_) | (with_reducible refine below_drewN ?_ _) | (with_reducible refine below_via ?_ (by with_reducible assumption) ?_) | omega | (simp; done) | (simp; omega))))).mono ?_); rintro e w9 ⟨rfl, hb9⟩; obtain ⟨fc9, fg9, hc9, hf9, hz9⟩ := bget hb9; (try simp at hz9)) | (go_at_call 67; (with_reducible refine (C1.out _ (by (repeat' (first | (with_reducible exact Below.refl _ _) | (with_reducible assumption) | (with_reducible refine Below.alloc ?_ ?_ _) | (with_reducible refine Below.setCell ?_ ?_ _) | (with_reducible refine Below.drew ?_) | (with_reducible refine below_drewN ?_ _) | (with_reducible refine below_via ?_ (by with_reducible assumption) ?_) | omega | (simp; done) | (simp; omega))))).mono ?_); intro e w5 hp5; obtain ⟨ys, A5, c5, rfl, hlg5, hrs5, hfm5, hgd5, hof5, hao5, hb5⟩ := hold_rsS hp5; have HLG5 := Lib.hid hlg5; have H5 := Lib.hid (hrs5.setOff (g := w.heap.size + 1 + 1) (o := 1) (v := .int .i64 t) (fun a ha => by have h1 := hao5 a ha; have h2 := hb9.size; simp at h1 h2; omega)); have HF5 := Lib.hid hfm5; have HG5 := Lib.hid (fun y hy => (hgd5 y hy).setOff (g := w.heap.size + 1 + 1) (o := 1) (v := .int .i64 t) (hof5 _ (by have h2 := hb9.size; simp at h2; (first | omega | (simp; omega))) y hy)); clear hp5 hlg5 hrs5 hfm5 hgd5 hof5 hao5; obtain ⟨fc5, fg5, hc5, hf5, hz5⟩ := bget hb5; (try simp at hz5)) | (go_at_call 65; (with_reducible refine (C2.out ys _ A5 c5 HLG5.out (H5.out.keep (by (repeat' (first | (with_reducible exact Below.refl _ _) | (with_reducible assumption) | (with_reducible refine Below.alloc ?_ ?_ _) | (with_reducible refine Below.setCell ?_ ?_ _) | (with_reducible refine Below.drew ?_) | (with_reducible refine below_drewN ?_ _) | (with_reducible refine below_via ?_ (by with_reducible assumption) ?_) | omega | (simp; done) | (simp; omega))))) HF5.out (fun y hy => (HG5.out y hy).keep (by (repeat' (first | (with_reducible exact Below.refl _ _) | (with_reducible assumption) | (with_reducible refine Below.alloc ?_ ?_ _) | (with_reducible refine Below.setCell ?_ ?_ _) | (with_reducible refine Below.drew ?_) | (with_reducible refine below_drewN ?_ _) | (with_reducible refine below_via ?_ (by with_reducible assumption) ?_) | omega | (simp; done) | (simp; omega)))))).mono ?_); rintro e w6 ⟨v6, zs, rfl, hlg6, hown6, hgd6, hb6⟩; have HLG6 := Lib.hid hlg6; have HO6 := Lib.hid hown6; have HG6 := Lib.hid hgd6; clear hlg6 hown6 hgd6; obtain ⟨fc6, fg6, hc6, hf6, hz6⟩ := bget hb6; (try simp at hz6)) | fail)
      go_ret2
      exact ⟨_, zs, rfl, HLG6.out.trans HL.out, HO6.out.mono (by first | omega | (simp; done) | (simp; omega)), HG6.out, by (repeat' (first | (with_reducible exact Below.refl _ _) | (with_reducible assumption) | (with_reducible refine Below.alloc ?_ ?_ _) | (with_reducible refine Below.setCell ?_ ?_ _) | (with_reducible refine Below.drew ?_) | (with_reducible refine below_drewN ?_ _) | (with_reducible refine below_via ?_ (by with_reducible assumption) ?_) | omega | (simp; done) | (simp; omega)))⟩
end Go.Proofs.Ytiidplinmempcaa

/- Layer 26's laws: HoldMoves. -/
namespace Go.Proofs.Ytiidplinmempcaa
open Go.RowKit
theorem mh_len (L : List (Row Lot)) (a b : Un) : (mhL L a b).length ≤ L.length + 2 := by
  unfold mhL
  split
  · have h1 := with_len (withK L a []) b (ofK L a)
    have h2 := with_len L a []
    omega
  · simp
theorem pa_len (L : List (Row Lot)) (a b : Un) (x : Lot) (t : Int) : (paL L a b x t).length ≤ L.length + 2 := by
  unfold paL
  split
  · have h1 := pt_len (tkHL L a x) b (withT x t)
    have h2 := tkH_len L a x
    omega
  · simp
set_option maxRecDepth 100000 in
set_option maxHeartbeats 64000000 in
theorem holdMovesAt (l0 fl : List HoldV) (a b : Un) (x : Lot) (t : Int) (A : Option Addr) (c : Nat) (w : World) (hfl : fl.length ≤ 10) (hq : LQ (fl.map lgHoldV)) (hx : In64 x.qty) (hfg : ∀ x ∈ fl, GoodHoldV w x)
    (c20 : ∀ W, Below w.heap.size w W → Calls Try.prog 28 #[.slice A l0.length c] W fun e w' => ∃ v, e = .returned v ∧ Own w' W.heap.size 137 3 v (fl.map encHoldV) ∧ Below W.heap.size W w') :
    Calls Try.prog 6 #[.slice A l0.length c, .agg #[.int .i64 a.acc, .int .i64 a.cli], .agg #[.int .i64 b.acc, .int .i64 b.cli], .agg #[.int .i64 x.asset, .int .i64 x.tag, .int .i64 x.qty], .int .i64 t] w fun e w' => e = .returned (.bool true) ∧ Below w.heap.size w w' := by
  have C20 := Lib.hid c20
  have HFG := Lib.hid hfg
  have HQ := Lib.hid hq
  have l1 := mh_len (fl.map lgHoldV) a b
  have l2 := pa_len (fl.map lgHoldV) a b x t
  rw [List.length_map] at l1 l2
  clear c20 hfg hq
  generalize l0.length = n0 at *
  go_enter Try.func6, Try.ntmps6
  go_wp2_with (first | (go_at_call 28; (with_reducible refine (C20.out _ (by (repeat' (first | (with_reducible exact Below.refl _ _) | (with_reducible assumption) | (with_reducible refine Below.alloc ?_ ?_ _) | (with_reducible refine Below.setCell ?_ ?_ _) | (with_reducible refine Below.drew ?_) | (with_reducible refine below_drewN ?_ _) | (with_reducible refine below_via ?_ (by with_reducible assumption) ?_) | omega | (simp; done) | (simp; omega))))).mono ?_); rintro e w1 ⟨v1, rfl, hown1, hb1⟩; obtain ⟨A1, c1, hv1, hrs1, hfm1⟩ := hown1.rs; (rw [List.length_map] at hv1); subst hv1; have F1 := Lib.hid (show FormA fl A1 c1 from (by rcases hfm1 with ⟨h1, h2, h3⟩ | ⟨g, h1, _⟩; exact .inl ⟨h1, List.map_eq_nil_iff.1 h2, h3⟩; exact .inr ⟨g, 0, h1⟩)); have H1 := Lib.hid hrs1; clear hown1 hrs1 hfm1; obtain ⟨fc1, fg1, hc1, hf1, hz1⟩ := bget hb1; (try simp at hz1)) | (go_at_call 29; (with_reducible refine (holdMove fl a b A1 c1 _ (by omega) HQ.out (H1.out.keep (by (repeat' (first | (with_reducible exact Below.refl _ _) | (with_reducible assumption) | (with_reducible refine Below.alloc ?_ ?_ _) | (with_reducible refine Below.setCell ?_ ?_ _) | (with_reducible refine Below.drew ?_) | (with_reducible refine below_drewN ?_ _) | (with_reducible refine below_via ?_ (by with_reducible assumption) ?_) | omega | (simp; done) | (simp; omega))))) F1.out (fun y hy => (HFG.out y hy).keep (by (repeat' (first | (with_reducible exact Below.refl _ _) | (with_reducible assumption) | (with_reducible refine Below.alloc ?_ ?_ _) | (with_reducible refine Below.setCell ?_ ?_ _) | (with_reducible refine Below.drew ?_) | (with_reducible refine below_drewN ?_ _) | (with_reducible refine below_via ?_ (by with_reducible assumption) ?_) | omega | (simp; done) | (simp; omega)))))).mono ?_); intro e w12 hp12; obtain ⟨ys12, A12, c12, rfl, hlg12, hrs12, hfm12, hgd12, hb12⟩ := hold_rs hp12; have LG12 := Lib.hid hlg12; have H12 := Lib.hid hrs12; have F12 := Lib.hid hfm12; have G12 := Lib.hid hgd12; clear hp12 hlg12 hrs12 hfm12 hgd12; obtain ⟨fc12, fg12, hc12, hf12, hz12⟩ := bget hb12; (try simp at hz12)) | (go_at_call 30; (with_reducible refine (ref26Move fl a b A1 c1 _ (by omega) HQ.out (H1.out.keep (by (repeat' (first | (with_reducible exact Below.refl _ _) | (with_reducible assumption) | (with_reducible refine Below.alloc ?_ ?_ _) | (with_reducible refine Below.setCell ?_ ?_ _) | (with_reducible refine Below.drew ?_) | (with_reducible refine below_drewN ?_ _) | (with_reducible refine below_via ?_ (by with_reducible assumption) ?_) | omega | (simp; done) | (simp; omega))))) F1.out (fun y hy => (HFG.out y hy).keep (by (repeat' (first | (with_reducible exact Below.refl _ _) | (with_reducible assumption) | (with_reducible refine Below.alloc ?_ ?_ _) | (with_reducible refine Below.setCell ?_ ?_ _) | (with_reducible refine Below.drew ?_) | (with_reducible refine below_drewN ?_ _) | (with_reducible refine below_via ?_ (by with_reducible assumption) ?_) | omega | (simp; done) | (simp; omega)))))).mono ?_); intro e w13 hp13; obtain ⟨ys13, A13, c13, rfl, hlg13, hrs13, hfm13, hgd13, hb13⟩ := hold_rs hp13; have LG13 := Lib.hid hlg13; have H13 := Lib.hid hrs13; have F13 := Lib.hid hfm13; have G13 := Lib.hid hgd13; clear hp13 hlg13 hrs13 hfm13 hgd13; obtain ⟨fc13, fg13, hc13, hf13, hz13⟩ := bget hb13; (try simp at hz13)) | (go_at_call 31; (with_reducible refine (holdPass fl a b x t A1 c1 _ (by omega) HQ.out hx (H1.out.keep (by (repeat' (first | (with_reducible exact Below.refl _ _) | (with_reducible assumption) | (with_reducible refine Below.alloc ?_ ?_ _) | (with_reducible refine Below.setCell ?_ ?_ _) | (with_reducible refine Below.drew ?_) | (with_reducible refine below_drewN ?_ _) | (with_reducible refine below_via ?_ (by with_reducible assumption) ?_) | omega | (simp; done) | (simp; omega))))) F1.out (fun y hy => (HFG.out y hy).keep (by (repeat' (first | (with_reducible exact Below.refl _ _) | (with_reducible assumption) | (with_reducible refine Below.alloc ?_ ?_ _) | (with_reducible refine Below.setCell ?_ ?_ _) | (with_reducible refine Below.drew ?_) | (with_reducible refine below_drewN ?_ _) | (with_reducible refine below_via ?_ (by with_reducible assumption) ?_) | omega | (simp; done) | (simp; omega)))))).mono ?_); intro e w14 hp14; obtain ⟨ys14, A14, c14, rfl, hlg14, hrs14, hfm14, hgd14, hb14⟩ := hold_rs hp14; have LG14 := Lib.hid hlg14; have H14 := Lib.hid hrs14; have F14 := Lib.hid hfm14; have G14 := Lib.hid hgd14; clear hp14 hlg14 hrs14 hfm14 hgd14; obtain ⟨fc14, fg14, hc14, hf14, hz14⟩ := bget hb14; (try simp at hz14)) | (go_at_call 32; (with_reducible refine (ref26Pass fl a b x t A1 c1 _ (by omega) HQ.out hx (H1.out.keep (by (repeat' (first | (with_reducible exact Below.refl _ _) | (with_reducible assumption) | (with_reducible refine Below.alloc ?_ ?_ _) | (with_reducible refine Below.setCell ?_ ?_ _) | (with_reducible refine Below.drew ?_) | (with_reducible refine below_drewN ?_ _) | (with_reducible refine below_via ?_ (by with_reducible assumption) ?_) | omega | (simp; done) | (simp; omega))))) F1.out (fun y hy => (HFG.out y hy).keep (by (repeat' (first | (with_reducible exact Below.refl _ _) | (with_reducible assumption) | (with_reducible refine Below.alloc ?_ ?_ _) | (with_reducible refine Below.setCell ?_ ?_ _) | (with_reducible refine Below.drew ?_) | (with_reducible refine below_drewN ?_ _) | (with_reducible refine below_via ?_ (by with_reducible assumption) ?_) | omega | (simp; done) | (simp; omega)))))).mono ?_); intro e w15 hp15; obtain ⟨ys15, A15, c15, rfl, hlg15, hrs15, hfm15, hgd15, hb15⟩ := hold_rs hp15; have LG15 := Lib.hid hlg15; have H15 := Lib.hid hrs15; have F15 := Lib.hid hfm15; have G15 := Lib.hid hgd15; clear hp15 hlg15 hrs15 hfm15 hgd15; obtain ⟨fc15, fg15, hc15, hf15, hz15⟩ := bget hb15; (try simp at hz15)) | (go_at_call 33; (with_reducible refine (refHoldVSame ys12 ys13 A12 A13 c12 c13 _ (LG12.out.trans LG13.out.symm) (by have h1 := congrArg List.length LG12.out; rw [List.length_map] at h1; omega) (H12.out.keep (by (repeat' (first | (with_reducible exact Below.refl _ _) | (with_reducible assumption) | (with_reducible refine Below.alloc ?_ ?_ _) | (with_reducible refine Below.setCell ?_ ?_ _) | (with_reducible refine Below.drew ?_) | (with_reducible refine below_drewN ?_ _) | (with_reducible refine below_via ?_ (by with_reducible assumption) ?_) | omega | (simp; done) | (simp; omega))))).rd (H13.out.keep (by (repeat' (first | (with_reducible exact Below.refl _ _) | (with_reducible assumption) | (with_reducible refine Below.alloc ?_ ?_ _) | (with_reducible refine Below.setCell ?_ ?_ _) | (with_reducible refine Below.drew ?_) | (with_reducible refine below_drewN ?_ _) | (with_reducible refine below_via ?_ (by with_reducible assumption) ?_) | omega | (simp; done) | (simp; omega))))).rd (fun y hy => (G12.out y hy).keep (by (repeat' (first | (with_reducible exact Below.refl _ _) | (with_reducible assumption) | (with_reducible refine Below.alloc ?_ ?_ _) | (with_reducible refine Below.setCell ?_ ?_ _) | (with_reducible refine Below.drew ?_) | (with_reducible refine below_drewN ?_ _) | (with_reducible refine below_via ?_ (by with_reducible assumption) ?_) | omega | (simp; done) | (simp; omega))))) (fun y hy => (G13.out y hy).keep (by (repeat' (first | (with_reducible exact Below.refl _ _) | (with_reducible assumption) | (with_reducible refine Below.alloc ?_ ?_ _) | (with_reducible refine Below.setCell ?_ ?_ _) | (with_reducible refine Below.drew ?_) | (with_reducible refine below_drewN ?_ _) | (with_reducible refine below_via ?_ (by with_reducible assumption) ?_) | omega | (simp; done) | (simp; omega)))))).mono ?_); rintro e w18 ⟨rfl, hb18⟩; obtain ⟨fc18, fg18, hc18, hf18, hz18⟩ := bget hb18; (try simp at hz18)) | (go_at_call 33; (with_reducible refine (refHoldVSame ys14 ys15 A14 A15 c14 c15 _ (LG14.out.trans LG15.out.symm) (by have h1 := congrArg List.length LG14.out; rw [List.length_map] at h1; omega) (H14.out.keep (by (repeat' (first | (with_reducible exact Below.refl _ _) | (with_reducible assumption) | (with_reducible refine Below.alloc ?_ ?_ _) | (with_reducible refine Below.setCell ?_ ?_ _) | (with_reducible refine Below.drew ?_) | (with_reducible refine below_drewN ?_ _) | (with_reducible refine below_via ?_ (by with_reducible assumption) ?_) | omega | (simp; done) | (simp; omega))))).rd (H15.out.keep (by (repeat' (first | (with_reducible exact Below.refl _ _) | (with_reducible assumption) | (with_reducible refine Below.alloc ?_ ?_ _) | (with_reducible refine Below.setCell ?_ ?_ _) | (with_reducible refine Below.drew ?_) | (with_reducible refine below_drewN ?_ _) | (with_reducible refine below_via ?_ (by with_reducible assumption) ?_) | omega | (simp; done) | (simp; omega))))).rd (fun y hy => (G14.out y hy).keep (by (repeat' (first | (with_reducible exact Below.refl _ _) | (with_reducible assumption) | (with_reducible refine Below.alloc ?_ ?_ _) | (with_reducible refine Below.setCell ?_ ?_ _) | (with_reducible refine Below.drew ?_) | (with_reducible refine below_drewN ?_ _) | (with_reducible refine below_via ?_ (by with_reducible assumption) ?_) | omega | (simp; done) | (simp; omega))))) (fun y hy => (G15.out y hy).keep (by (repeat' (first | (with_reducible exact Below.refl _ _) | (with_reducible assumption) | (with_reducible refine Below.alloc ?_ ?_ _) | (with_reducible refine Below.setCell ?_ ?_ _) | (with_reducible refine Below.drew ?_) | (with_reducible refine below_drewN ?_ _) | (with_reducible refine below_via ?_ (by with_reducible assumption) ?_) | omega | (simp; done) | (simp; omega)))))).mono ?_); rintro e w19 ⟨rfl, hb19⟩; obtain ⟨fc19, fg19, hc19, hf19, hz19⟩ := bget hb19; (try simp at hz19)) | (go_at_call 34; (with_reducible refine (law26lives _).mono ?_); rintro e w21 ⟨rfl, hb21⟩; obtain ⟨fc21, fg21, hc21, hf21, hz21⟩ := bget hb21; (try simp at hz21)) | fail)
  go_ret
  exact ⟨rfl, by (repeat' (first | (with_reducible exact Below.refl _ _) | (with_reducible assumption) | (with_reducible refine Below.alloc ?_ ?_ _) | (with_reducible refine Below.setCell ?_ ?_ _) | (with_reducible refine Below.drew ?_) | (with_reducible refine below_drewN ?_ _) | (with_reducible refine below_via ?_ (by with_reducible assumption) ?_) | omega | (simp; done) | (simp; omega)))⟩
theorem holdMovesW (l0 : List HoldV) (a b : Un) (x : Lot) (t : Int) (A : Option Addr) (c : Nat) (w : World) (hl : l0.length ≤ maxLen) (hx : In64 x.qty) (hr : Rd w A 3 (l0.map encHoldV)) (hg : ∀ x ∈ l0, Rs w 3 (x.lots.val.map encLot) x.lots.A x.lots.c) (h64 : ∀ x ∈ l0, ∀ z ∈ x.lots.val, In64 z.qty) :
    Calls Try.prog 6 #[.slice A l0.length c, .agg #[.int .i64 a.acc, .int .i64 a.cli], .agg #[.int .i64 b.acc, .int .i64 b.cli], .agg #[.int .i64 x.asset, .int .i64 x.tag, .int .i64 x.qty], .int .i64 t] w fun e w' => e = .returned (.bool true) ∧ Below w.heap.size w w' := by
  have hf := few_h hg h64
  exact holdMovesAt l0 ((l0.take 10).map fewHoldV) a b x t A c w hf.len hf.lq hx hf.good
    (fun W h => law26Few l0 A c W hl (hr.keep h) (fun x hx => (hg x hx).keep h))
end Go.Proofs.Ytiidplinmempcaa

/- What every law's row asks of the call's end: the arguments read on as they did, where nothing below the heap's old size has turned. -/
namespace Go.Proofs.Ytiidplinmempcaa
open Go.ChangeShapes Go.WideShapes Go.ChangeAt Go.RowKit Go.Joins
theorem Try.own : ownKnob Try.prog.godebug = none := by kernel_rfl
theorem Try.laidOut : laidOutB Try.prog = true := by kernel_rfl
theorem in64_of_wf {x : Int} (h : (Lit.int .i64 x).wf = true) : In64 x := by
  simp [Lit.wf, IntKind.min, IntKind.max, IntKind.signed, IntKind.bits] at h
  exact ⟨by omega, by omega⟩
theorem word_of_wf {x : Int} (h : (Lit.int .u64 x).wf = true) : 0 ≤ x ∧ x < 18446744073709551616 := by
  simp [Lit.wf, IntKind.min, IntKind.max, IntKind.signed, IntKind.bits] at h
  exact ⟨by omega, by omega⟩
theorem reads_on {H : Type} {enc : TypeId × Value → H} {W W' : World} (hb : Below W.heap.size W W') : ∀ {ts : List TypeId} {vs : List Value} {ds : List (DataW H)} {ps : List MemPlace},
    (∀ t ∈ ts, Try.prog.readableRec t = true ∧ t < Try.prog.types.size) → DataW.TrodAll enc Try.prog W 0 (fun _ => true) true ts vs ds ps → (∀ x ∈ ps, x.block < W.heap.size) →
    DataW.TrodAll enc Try.prog W' 0 (fun b => decide (b < W.heap.size)) true ts vs ds ps
  | [], _, _, _, _, h, _ => by
    obtain ⟨rfl, rfl, rfl⟩ := trodAll_nil h
    exact trodAll_mk0
  | t :: ts, _, _, _, ht, h, hl => by
    obtain ⟨v, vs, d, ds, p, q, rfl, rfl, rfl, h1, h2⟩ := trodAll_cons h
    have h3 := ht t (by simp)
    exact ⟨p, q, Below.trod Try.laidOut h3.1 h3.2 h1 hb (fun x hx => hl x (by simp [hx])), reads_on hb (fun t ht' => ht t (by simp [ht'])) h2 (fun x hx => hl x (by simp [hx])), rfl⟩
theorem law_ends {H : Type} {enc : TypeId × Value → H} {f : Func} {s : ChangeSpec} {W W' : World} {args : Array Value} {ds gs : List (DataW H)} {before : List MemPlace}
    (hW : DataW.Whole enc Try.prog f.params.toList s.vars false W args.toList ds gs before) (hvars : s.vars = []) (hts : ∀ t ∈ f.params.toList, Try.prog.readableRec t = true ∧ t < Try.prog.types.size)
    (hrt : f.resultTypes = #[4]) (hr : (s.fn H (ds ++ gs)).results = [.lit (.bool true)]) (ha : (s.fn H (ds ++ gs)).args = ds) (hv : (s.fn H (ds ++ gs)).vars = []) (hb : Below W.heap.size W W') :
    s.post enc Try.prog f false true false false W args (.bool true) W' := by
  have hW' := hW
  obtain ⟨p, q, hA, hV, rfl, hfz, hnd⟩ := hW
  rw [hvars] at hV
  obtain ⟨rfl, rfl⟩ := trodVars_none hV
  refine ⟨ds, [], _, [], p, [], hW', ?_, ?_, ?_, hb.frame _, fun h => by cases h⟩
  · rw [hrt, hr]; exact trodAll_mk1 (shut_bool Try.underlying4 _)
  · rw [ha]; exact reads_on hb hts hA (fun x hx => by simpa using hW'.lt x (by simp [hx]))
  · rw [hv, hvars]; rfl
end Go.Proofs.Ytiidplinmempcaa

/- A slice, handed in: the list that it reads as. -/
namespace Go.Proofs.Ytiidplinmempcaa
open Go.ChangeShapes Go.WideShapes Go.ChangeAt Go.RowKit Go.Joins Go.Deep
theorem block_lt {w : World} {a : Addr} {v : Value} (h : w.cell? a = some v) : a.block < w.heap.size := by
  rcases Nat.lt_or_ge a.block w.heap.size with h1 | h1
  · exact h1
  · unfold World.cell? at h
    rw [Array.getElem?_eq_none h1] at h
    split at h <;> simp_all
theorem list_choose {α : Type} {n : Nat} {p : Nat → α → Prop} (h : ∀ i, i < n → ∃ x, p i x) : ∃ l : List α, l.length = n ∧ ∀ i (hi : i < l.length), p i l[i] := by
  induction n with
  | zero => exact ⟨[], rfl, fun i hi => absurd hi (by simp)⟩
  | succ n ih =>
    obtain ⟨l, hl, hp⟩ := ih (fun i hi => h i (by omega))
    obtain ⟨x, hx⟩ := h n (by omega)
    refine ⟨l ++ [x], by simp [hl], fun i hi => ?_⟩
    simp at hi
    rcases Nat.lt_or_ge i l.length with h1 | h1
    · rw [List.getElem_append_left h1]; exact hp i h1
    · obtain rfl : i = l.length := by omega
      simp [hl]; exact hx
theorem slice_open0 {H : Type} {enc : TypeId × Value → H} {P : Program} {w : World} {spare : Nat → Bool} {held : Bool} {t e : TypeId} {k : Nat} {α : Type} {ok : α → Prop} {enc1 : α → List Value} {fuel : Nat} {cs0 : List Value} {y0 : DataW H × List MemPlace}
    (ht : P.underlying t = some (.slice e)) (ce : P.cellsOf e = k) (helem : ∀ (cs : List Value) (n : Nat) y, cs.length = k → DataW.trod enc P w 0 spare held n e cs = some y → ∃ x : α, ok x ∧ cs = enc1 x)
    (hk : ∀ x, ok x → (enc1 x).length = k) (hk0 : 0 < k) (hf : DataW.trod enc P w 0 spare held fuel t cs0 = some y0) :
    ∃ (l : List α) (A : Option Addr) (c : Nat), cs0 = [.slice A l.length c] ∧ (∀ x ∈ l, ok x) ∧ l.length ≤ c ∧ c ≤ maxLen ∧ (A = none → c = 0) ∧ Rd w A k (l.map enc1) := by
  rcases open_slice ht hf with ⟨hcs, _⟩ | ⟨a, len, cap, m, n, D, Pl, hcs, _, hl, hm, hmm, _, hall⟩
  · subst hcs
    exact ⟨[], none, 0, rfl, by simp, by simp, by simp, fun _ => rfl, fun i r hr => by simp at hr⟩
  · subst hcs
    have each : ∀ i, i < len → ∃ x : α, ok x ∧ ∀ j v, (enc1 x)[j]? = some v → w.cell? ((a.add (i * k)).add j) = some v := by
      intro i hi
      obtain ⟨cs, h1, h2⟩ := hall i (by rw [hmm]; split <;> omega)
      rw [ce] at h1
      obtain ⟨_, hlen, hcell⟩ := World.cells?_some h1
      obtain ⟨x, hx, rfl⟩ := helem cs n _ hlen h2
      refine ⟨x, hx, fun j v hv => ?_⟩
      have hj : j < k := by
        rw [← hlen]
        rcases Nat.lt_or_ge j (enc1 x).length with h3 | h3
        · exact h3
        · rw [List.getElem?_eq_none h3] at hv; cases hv
      rw [hcell j hj, hv]
    obtain ⟨l, hll, hp⟩ := list_choose each
    subst hll
    refine ⟨l, some a, cap, rfl, fun x hx => ?_, hl, hm, (fun h => by cases h), fun i r hr => ?_⟩
    · obtain ⟨i, hi, rfl⟩ := List.mem_iff_getElem.1 hx
      exact (hp i hi).1
    · rw [List.getElem?_map] at hr
      cases hli : l[i]? with
      | none => rw [hli] at hr; cases hr
      | some x =>
        rw [hli] at hr
        simp at hr
        subst hr
        obtain ⟨hi, rfl⟩ := List.getElem?_eq_some_iff.1 hli
        have hp2 := (hp i hi).2
        have hlk := hk _ (hp i hi).1
        obtain ⟨u, hu⟩ : ∃ u, (enc1 l[i])[0]? = some u := ⟨(enc1 l[i])[0], List.getElem?_eq_getElem (by omega)⟩
        have h0 := hp2 0 u hu
        obtain ⟨b, off, spot⟩ := a
        have hb : b < w.heap.size := by
          have := block_lt h0
          unfold Addr.add at this
          split at this <;> split at this <;> exact this
        by_cases hi0 : i = 0
        · subst hi0
          have hspot : spot = none := by simpa [Addr.add] using World.cell?_spot h0
          subst hspot
          refine ⟨b, off, rfl, hb, fun j v hv => ?_⟩
          have := hp2 j v hv
          rwa [add_plain, add_plain] at this
        · have hl0 : 0 < l.length := by omega
          have hlk0 := hk _ (hp 0 hl0).1
          obtain ⟨u0, hu0⟩ : ∃ u, (enc1 l[0])[0]? = some u := ⟨(enc1 l[0])[0], List.getElem?_eq_getElem (by omega)⟩
          have h00 := (hp 0 hl0).2 0 u0 hu0
          have hspot : spot = none := by simpa [Addr.add] using World.cell?_spot h00
          subst hspot
          refine ⟨b, off, rfl, hb, fun j v hv => ?_⟩
          have := hp2 j v hv
          rwa [add_plain, add_plain] at this
/-- A slice handed in, read row by row by a relation. -/
theorem slice_rel {H : Type} {enc : TypeId × Value → H} {P : Program} {w : World} {spare : Nat → Bool} {held : Bool} {t e : TypeId} {k : Nat} {α : Type} {R : List Value → α → Prop} {fuel : Nat} {cs0 : List Value} {y0 : DataW H × List MemPlace}
    (ht : P.underlying t = some (.slice e)) (ce : P.cellsOf e = k) (helem : ∀ (cs : List Value) (n : Nat) y, cs.length = k → DataW.trod enc P w 0 spare held n e cs = some y → ∃ x : α, R cs x ∧ cs.length = k)
    (hk0 : 0 < k) (hf : DataW.trod enc P w 0 spare held fuel t cs0 = some y0) :
    ∃ (l : List α) (rows : List (List Value)) (A : Option Addr) (c : Nat), cs0 = [.slice A l.length c] ∧ Each R rows l ∧ Rs w k rows A c := by
  obtain ⟨rows, A, c, h1, h2, h3, h4, h5, h6⟩ := slice_open0 (α := List Value) (ok := fun r => (∃ x, R r x) ∧ r.length = k) (enc1 := fun r => r) ht ce (fun cs n y hl hy => by
    obtain ⟨x, hx, hlen⟩ := helem cs n y hl hy
    exact ⟨cs, ⟨⟨x, hx⟩, hlen⟩, rfl⟩) (fun r h => h.2) hk0 hf
  obtain ⟨l, hl, hp⟩ := list_choose (n := rows.length) (p := fun i x => ∃ r, rows[i]? = some r ∧ R r x) (fun i hi => by
    obtain ⟨⟨x, hx⟩, _⟩ := h2 rows[i] (List.getElem_mem hi)
    exact ⟨x, rows[i], List.getElem?_eq_getElem hi, hx⟩)
  rw [List.map_id'] at h6
  refine ⟨l, rows, A, c, by rw [hl]; exact h1, ⟨hl.symm, fun i a b ha hb => ?_⟩, ⟨h6, h3, h4, h5⟩⟩
  obtain ⟨hi, rfl⟩ := List.getElem?_eq_some_iff.1 hb
  obtain ⟨r, hr, hx⟩ := hp i hi
  rw [ha] at hr
  injection hr with hr
  subst hr
  exact hx
theorem slice_open {H : Type} {enc : TypeId × Value → H} {P : Program} {w : World} {spare : Nat → Bool} {held : Bool} {t e : TypeId} {k : Nat} {α : Type} {ok : α → Prop} {enc1 : α → List Value} {v : Value} {d : DataW H} {ps : List MemPlace}
    (ht : P.underlying t = some (.slice e)) (ce : P.cellsOf e = k) (helem : ∀ (cs : List Value) (n : Nat) y, cs.length = k → DataW.trod enc P w 0 spare held n e cs = some y → ∃ x : α, ok x ∧ cs = enc1 x)
    (hk : ∀ x, ok x → (enc1 x).length = k) (hk0 : 0 < k) {r : Reach} {b0 : Nat} (hval : Value.okWide P w r b0 t v) (h : DataW.Trod enc P w 0 spare held t v d ps) :
    ∃ (l : List α) (A : Option Addr) (c : Nat), v = .slice A l.length c ∧ (∀ x ∈ l, ok x) ∧ l.length ≤ c ∧ c ≤ maxLen ∧ (A = none → c = 0) ∧ Rd w A k (l.map enc1) := by
  obtain ⟨a0, len0, cap0, rfl⟩ := okWide_slice ht hval
  obtain ⟨fuel, hf⟩ := h
  rcases open_slice ht hf with ⟨hcs, _⟩ | ⟨a, len, cap, m, n, D, Pl, hcs, _, hl, hm, hmm, _, hall⟩
  · simp [Value.cells] at hcs
    obtain ⟨rfl, rfl, rfl⟩ := hcs
    exact ⟨[], none, 0, rfl, by simp, by simp, by simp, fun _ => rfl, fun i r hr => by simp at hr⟩
  · simp [Value.cells] at hcs
    obtain ⟨rfl, rfl, rfl⟩ := hcs
    have each : ∀ i, i < len0 → ∃ x : α, ok x ∧ ∀ j v, (enc1 x)[j]? = some v → w.cell? ((a.add (i * k)).add j) = some v := by
      intro i hi
      obtain ⟨cs, h1, h2⟩ := hall i (by rw [hmm]; split <;> omega)
      rw [ce] at h1
      obtain ⟨_, hlen, hcell⟩ := World.cells?_some h1
      obtain ⟨x, hx, rfl⟩ := helem cs n _ hlen h2
      refine ⟨x, hx, fun j v hv => ?_⟩
      have hj : j < k := by
        rw [← hlen]
        rcases Nat.lt_or_ge j (enc1 x).length with h3 | h3
        · exact h3
        · rw [List.getElem?_eq_none h3] at hv; cases hv
      rw [hcell j hj, hv]
    obtain ⟨l, hll, hp⟩ := list_choose each
    subst hll
    refine ⟨l, some a, cap0, rfl, fun x hx => ?_, hl, hm, (fun h => by cases h), fun i r hr => ?_⟩
    · obtain ⟨i, hi, rfl⟩ := List.mem_iff_getElem.1 hx
      exact (hp i hi).1
    · rw [List.getElem?_map] at hr
      cases hli : l[i]? with
      | none => rw [hli] at hr; cases hr
      | some x =>
        rw [hli] at hr
        simp at hr
        subst hr
        obtain ⟨hi, rfl⟩ := List.getElem?_eq_some_iff.1 hli
        have hp2 := (hp i hi).2
        have hlk := hk _ (hp i hi).1
        obtain ⟨u, hu⟩ : ∃ u, (enc1 l[i])[0]? = some u := ⟨(enc1 l[i])[0], List.getElem?_eq_getElem (by omega)⟩
        have h0 := hp2 0 u hu
        obtain ⟨b, off, spot⟩ := a
        have hb : b < w.heap.size := by
          have := block_lt h0
          unfold Addr.add at this
          split at this <;> split at this <;> exact this
        by_cases hi0 : i = 0
        · subst hi0
          have hspot : spot = none := by simpa [Addr.add] using World.cell?_spot h0
          subst hspot
          refine ⟨b, off, rfl, hb, fun j v hv => ?_⟩
          have := hp2 j v hv
          rwa [add_plain, add_plain] at this
        · have hl0 : 0 < l.length := by omega
          have hlk0 := hk _ (hp 0 hl0).1
          obtain ⟨u0, hu0⟩ : ∃ u, (enc1 l[0])[0]? = some u := ⟨(enc1 l[0])[0], List.getElem?_eq_getElem (by omega)⟩
          have h00 := (hp 0 hl0).2 0 u0 hu0
          have hspot : spot = none := by simpa [Addr.add] using World.cell?_spot h00
          subst hspot
          refine ⟨b, off, rfl, hb, fun j v hv => ?_⟩
          have := hp2 j v hv
          rwa [add_plain, add_plain] at this
end Go.Proofs.Ytiidplinmempcaa

/- Lots handed in. -/
namespace Go.Proofs.Ytiidplinmempcaa
open Go.ChangeShapes Go.WideShapes Go.ChangeAt Go.RowKit Go.Joins
set_option maxRecDepth 100000 in
theorem Lot_cells {H : Type} {enc : TypeId × Value → H} {W : World} {spare : Nat → Bool} {held : Bool} (cs : List Value) (n : Nat) (y : DataW H × List MemPlace) (hlen : cs.length = 3) (h : DataW.trod enc Try.prog W 0 spare held n 62 cs = some y) : ∃ x : Lot, okLot x ∧ cs = encLot x := by
  obtain ⟨xs, n, _, rfl, _, hxs, hf⟩ := DataW.trod_struct Try.underlying62 h
  match cs, hlen, xs, hxs with
  | [c0, c1, c2], _, [y0, y1, y2], _ =>
    have h0 : DataW.trod enc Try.prog W 0 spare held n 3 (([c0, c1, c2].drop 0).take (Try.prog.cellsOf 3)) = some y0 := hf 0 _ rfl
    have h1 : DataW.trod enc Try.prog W 0 spare held n 3 (([c0, c1, c2].drop 1).take (Try.prog.cellsOf 3)) = some y1 := hf 1 _ rfl
    have h2 : DataW.trod enc Try.prog W 0 spare held n 2 (([c0, c1, c2].drop 2).take (Try.prog.cellsOf 2)) = some y2 := hf 2 _ rfl
    obtain ⟨x0, e0, _, w0⟩ := DataW.trod_int (k := .i64) (by kernel_rfl) h0
    rw [show Try.prog.cellsOf _ = 1 from by kernel_rfl] at e0
    simp at e0
    subst e0
    obtain ⟨x1, e1, _, w1⟩ := DataW.trod_int (k := .i64) (by kernel_rfl) h1
    rw [show Try.prog.cellsOf _ = 1 from by kernel_rfl] at e1
    simp at e1
    subst e1
    obtain ⟨x2, e2, _, w2⟩ := DataW.trod_int (k := .i64) (by kernel_rfl) h2
    rw [show Try.prog.cellsOf _ = 1 from by kernel_rfl] at e2
    simp at e2
    subst e2
    exact ⟨⟨x0, x1, x2⟩, ⟨in64_of_wf w0, in64_of_wf w1, in64_of_wf w2⟩, rfl⟩
set_option maxRecDepth 100000 in
theorem Lot_open {H : Type} {enc : TypeId × Value → H} {W : World} {spare : Nat → Bool} {held : Bool} {r : Reach} {b0 : Nat} {v : Value} {d : DataW H} {p : List MemPlace} (hv : Value.okWide Try.prog W r b0 62 v) (h : DataW.Trod enc Try.prog W 0 spare held 62 v d p) : ∃ x : Lot, okLot x ∧ v = .agg #[.int .i64 x.asset, .int .i64 x.tag, .int .i64 x.qty] := by
  obtain ⟨cs, rfl, hsz⟩ := okWide_struct Try.underlying62 hv
  obtain ⟨fuel, hf⟩ := h
  rw [show Try.prog.cellsOf _ = 3 from by kernel_rfl] at hsz
  obtain ⟨x, hx, he⟩ := Lot_cells cs.toList fuel _ (by simpa using hsz) (by simpa [Value.cells] using hf)
  refine ⟨x, hx, ?_⟩
  obtain ⟨l⟩ := cs
  simp only at he
  rw [he]; rfl
set_option maxRecDepth 100000 in
theorem lots_open {H : Type} {enc : TypeId × Value → H} {W : World} {spare : Nat → Bool} {held : Bool} {base : Nat} {r : Reach} {v : Value} {d : DataW H} {p : List MemPlace}
    (hv : Value.okWide Try.prog W r base 97 v) (h : DataW.Trod enc Try.prog W 0 spare held 97 v d p) :
    ∃ (l : List Lot) (A : Option Addr) (c : Nat), v = .slice A l.length c ∧ l.length ≤ maxLen ∧ (∀ x ∈ l, okLot x) ∧ Rs W 3 (l.map encLot) A c := by
  obtain ⟨a0, len0, cap0, rfl⟩ := okWide_slice Try.underlying97 hv
  obtain ⟨fuel, hf⟩ := h
  obtain ⟨l, A, c, h1, h2, h3, h4, h5, h6⟩ := slice_open0 (enc1 := encLot) Try.underlying97 (by kernel_rfl) (fun cs n y => Lot_cells cs n y) (fun _ _ => rfl) (by omega) hf
  simp [Value.cells] at h1
  obtain ⟨rfl, rfl, rfl⟩ := h1
  exact ⟨l, _, _, rfl, Nat.le_trans h3 h4, h2, ⟨h6, by rw [List.length_map]; exact h3, h4, h5⟩⟩
end Go.Proofs.Ytiidplinmempcaa

/- Rows of lots handed in. -/
namespace Go.Proofs.Ytiidplinmempcaa
open Go.ChangeShapes Go.WideShapes Go.ChangeAt Go.RowKit Go.Joins
set_option maxRecDepth 100000 in
theorem lots_cells {H : Type} {enc : TypeId × Value → H} {W : World} {spare : Nat → Bool} {held : Bool} {fuel : Nat} {cs : List Value} {y : DataW H × List MemPlace} (h : DataW.trod enc Try.prog W 0 spare held fuel 97 cs = some y) :
    ∃ (l : List Lot) (A : Option Addr) (c : Nat), cs = [.slice A l.length c] ∧ (∀ x ∈ l, okLot x) ∧ Rs W 3 (l.map encLot) A c := by
  obtain ⟨l, A, c, h1, h2, h3, h4, h5, h6⟩ := slice_open0 (enc1 := encLot) Try.underlying97 (by kernel_rfl) (fun cs n y => Lot_cells cs n y) (fun _ _ => rfl) (by omega) h
  exact ⟨l, A, c, h1, h2, ⟨h6, by rw [List.length_map]; exact h3, h4, h5⟩⟩
end Go.Proofs.Ytiidplinmempcaa

/- Units handed in. -/
namespace Go.Proofs.Ytiidplinmempcaa
open Go.ChangeShapes Go.WideShapes Go.ChangeAt Go.RowKit Go.Joins
set_option maxRecDepth 100000 in
theorem Un_cells {H : Type} {enc : TypeId × Value → H} {W : World} {spare : Nat → Bool} {held : Bool} (cs : List Value) (n : Nat) (y : DataW H × List MemPlace) (hlen : cs.length = 2) (h : DataW.trod enc Try.prog W 0 spare held n 60 cs = some y) : ∃ x : Un, okUn x ∧ cs = encUn x := by
  obtain ⟨xs, n, _, rfl, _, hxs, hf⟩ := DataW.trod_struct Try.underlying60 h
  match cs, hlen, xs, hxs with
  | [c0, c1], _, [y0, y1], _ =>
    have h0 : DataW.trod enc Try.prog W 0 spare held n 3 (([c0, c1].drop 0).take (Try.prog.cellsOf 3)) = some y0 := hf 0 _ rfl
    have h1 : DataW.trod enc Try.prog W 0 spare held n 3 (([c0, c1].drop 1).take (Try.prog.cellsOf 3)) = some y1 := hf 1 _ rfl
    obtain ⟨x0, e0, _, w0⟩ := DataW.trod_int (k := .i64) (by kernel_rfl) h0
    rw [show Try.prog.cellsOf _ = 1 from by kernel_rfl] at e0
    simp at e0
    subst e0
    obtain ⟨x1, e1, _, w1⟩ := DataW.trod_int (k := .i64) (by kernel_rfl) h1
    rw [show Try.prog.cellsOf _ = 1 from by kernel_rfl] at e1
    simp at e1
    subst e1
    exact ⟨⟨x0, x1⟩, ⟨in64_of_wf w0, in64_of_wf w1⟩, rfl⟩
set_option maxRecDepth 100000 in
theorem Un_open {H : Type} {enc : TypeId × Value → H} {W : World} {spare : Nat → Bool} {held : Bool} {r : Reach} {b0 : Nat} {v : Value} {d : DataW H} {p : List MemPlace} (hv : Value.okWide Try.prog W r b0 60 v) (h : DataW.Trod enc Try.prog W 0 spare held 60 v d p) : ∃ x : Un, okUn x ∧ v = .agg #[.int .i64 x.acc, .int .i64 x.cli] := by
  obtain ⟨cs, rfl, hsz⟩ := okWide_struct Try.underlying60 hv
  obtain ⟨fuel, hf⟩ := h
  rw [show Try.prog.cellsOf _ = 2 from by kernel_rfl] at hsz
  obtain ⟨x, hx, he⟩ := Un_cells cs.toList fuel _ (by simpa using hsz) (by simpa [Value.cells] using hf)
  refine ⟨x, hx, ?_⟩
  obtain ⟨l⟩ := cs
  simp only at he
  rw [he]; rfl
end Go.Proofs.Ytiidplinmempcaa
