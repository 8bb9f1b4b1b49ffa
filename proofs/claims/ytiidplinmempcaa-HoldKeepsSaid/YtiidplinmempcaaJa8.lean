/- Joined: HoP, Ho3. -/
import Derived.Test.YtiidplinmempcaaJz7
import Derived.Test.YtiidplinmempcaaJz3
import Derived.Test.YtiidplinmempcaaJa7
import Derived.Test.YtiidplinmempcaaJa5
import Derived.Deep.CutRange
import Derived.Deep.DeepCutAuto
/- Holds, plain: what any are when a unit has a lot more, less of one, just some; when all of one, or some of a lot, goes to another one. No program in sight. -/
namespace Go.Proofs.Ytiidplinmempcaa
open Go.RowKit
def ptC (L : List (Row Lot)) (u : Un) (x : Lot) : Int := if isK isL L then putLC (ofK L u) x else 3
def ptL (L : List (Row Lot)) (u : Un) (x : Lot) : List (Row Lot) := if ptC L u x = 0 then withK L u (putLL (ofK L u) x) else []
def tkHC (L : List (Row Lot)) (u : Un) (x : Lot) : Int := if isK isL L then takLC (ofK L u) x else 3
def tkHL (L : List (Row Lot)) (u : Un) (x : Lot) : List (Row Lot) := if tkHC L u x = 0 then withK L u (takLL (ofK L u) x) else []
def stC (L : List (Row Lot)) (all : List Lot) : Int := if isK isL L then (if isL all then 0 else 3) else 3
def stL (L : List (Row Lot)) (u : Un) (all : List Lot) : List (Row Lot) := if stC L all = 0 then withK L u all else []
/-- All of one goes to another one. -/
def mhC (L : List (Row Lot)) (a b : Un) : Int := if isK isL L then (if a = b then 24 else if 0 < (ofK L b).length then 21 else 0) else 3
def mhL (L : List (Row Lot)) (a b : Un) : List (Row Lot) := if mhC L a b = 0 then withK (withK L a []) b (ofK L a) else []
def withT (x : Lot) (t : Int) : Lot := ⟨x.asset, t, x.qty⟩
/-- Some of a lot goes to another one, under a tag. -/
def paC (L : List (Row Lot)) (a b : Un) (x : Lot) (t : Int) : Int := if isK isL L then (if a = b then 24 else if tkHC L a x = 0 then ptC (tkHL L a x) b (withT x t) else tkHC L a x) else 3
def paL (L : List (Row Lot)) (a b : Un) (x : Lot) (t : Int) : List (Row Lot) := if paC L a b x t = 0 then ptL (tkHL L a x) b (withT x t) else []
end Go.Proofs.Ytiidplinmempcaa

/- Holds: contract of hold.set. -/
namespace Go.Proofs.Ytiidplinmempcaa
open Go.RowKit
/-- Holds in memory of their own. -/
def HoldPost1 (w : World) (L : List (Row Lot)) (e : Ending) (w' : World) : Prop :=
  ∃ (v : Value) (ys : List HoldV), e = .returned v ∧ ys.map lgHoldV = L ∧ Own w' w.heap.size 137 3 v (ys.map encHoldV) ∧ (∀ y ∈ ys, GoodHoldV w' y) ∧ Below w.heap.size w w'
/-- Its list lies in no such block. -/
def OffB (g : Nat) (y : HoldV) : Prop := ∀ a, y.lots.A = some a → a.block ≠ g
/-- As HoldPost1, and no list lies in a block that S holds. -/
def HoldPostS1 (w : World) (S : Nat → Prop) (L : List (Row Lot)) (e : Ending) (w' : World) : Prop :=
  ∃ (v : Value) (ys : List HoldV), e = .returned v ∧ ys.map lgHoldV = L ∧ Own w' w.heap.size 137 3 v (ys.map encHoldV) ∧ (∀ y ∈ ys, GoodHoldV w' y) ∧ (∀ g, S g → ∀ y ∈ ys, OffB g y) ∧ Below w.heap.size w w'
theorem HoldPostS1.less {w : World} {S : Nat → Prop} {L : List (Row Lot)} {e : Ending} {w' : World} (h : HoldPostS1 w S L e w') : HoldPost1 w L e w' := by
  obtain ⟨v, ys, h1, h2, h3, h4, _, h5⟩ := h
  exact ⟨v, ys, h1, h2, h3, h4, h5⟩
theorem own_off {w : World} {base E k n c : Nat} {A : Option Addr} {rows : List (List Value)} (h : Own w base E k (.slice A n c) rows) {m : Nat} (hm : m ≤ base) : ∀ a, A = some a → m ≤ a.block := by
  intro a ha
  obtain ⟨A2, c2, hv, _, hf⟩ := h.rs
  injection hv with e1 _ _
  rcases hf with ⟨h1, _, _⟩ | ⟨g, h1, h2, _⟩
  · rw [e1, h1] at ha; cases ha
  · rw [e1, h1] at ha
    injection ha with ha
    subst ha
    exact Nat.le_trans hm h2
def OwnH (w : World) (base : Nat) (y : HoldV) : Prop := y.lots.val.length ≤ 1000000 ∧ Own w base 62 3 (.slice y.lots.A y.lots.val.length y.lots.c) (y.lots.val.map encLot)
theorem OwnH.good {w : World} {base : Nat} {y : HoldV} (h : OwnH w base y) : GoodHoldV w y := ⟨h.1, h.2.good⟩
theorem OwnH.away {w w' : World} {base : Nat} {y : HoldV} (h : OwnH w base y) (ha : Away 137 w w') : OwnH w' base y := ⟨h.1, h.2.away ha (by decide)⟩
/-- A list of the call's own, or one that was there ahead of it. -/
def MixH (n : Nat) (wo w : World) (y : HoldV) : Prop := OwnH w wo.heap.size y ∨ (GoodHoldV wo y ∧ ∀ a, y.lots.A = some a → n ≤ a.block)
theorem MixH.off {n : Nat} {wo w : World} {y : HoldV} (h : MixH n wo w y) (hn : n ≤ wo.heap.size) : ∀ a, y.lots.A = some a → n ≤ a.block := by
  rcases h with h | h
  · exact own_off h.2 hn
  · exact h.2
theorem MixH.away {n : Nat} {wo w w' : World} {y : HoldV} (h : MixH n wo w y) (ha : Away 137 w w') : MixH n wo w' y := by
  rcases h with h | h
  · exact .inl (h.away ha)
  · exact .inr h
theorem MixH.good {n : Nat} {wo w : World} {y : HoldV} (h : MixH n wo w y) (hb : Below wo.heap.size wo w) : GoodHoldV w y := by
  rcases h with h | h
  · exact h.good
  · exact h.1.keep hb
theorem hold_len {L : List (Row Lot)} {u : Un} {now : List Lot} : (withK L u now).length ≤ L.length + 1 := with_len _ _ _
set_option maxRecDepth 100000 in
set_option maxHeartbeats 64000000 in
theorem holdSetS (S : Nat → Prop) (l : List HoldV) (u : Un) (all : List Lot) (A B : Option Addr) (c d : Nat) (w : World) (hS : ∀ g, S g → g < w.heap.size) (hl : l.length ≤ 2000) (hal : all.length ≤ 1000000) (hs : SortK (l.map lgHoldV)) (hr : Rd w A 3 (l.map encHoldV)) (hg : ∀ x ∈ l, GoodHoldV w x) (hrl : Rs w 3 (all.map encLot) B d) :
    Calls Try.prog 91 #[.slice A l.length c, .agg #[.int .i64 u.acc, .int .i64 u.cli], .slice B all.length d] w (HoldPostS1 w S (withK (l.map lgHoldV) u all)) := by
  have HSS := Lib.hid hS
  have HRR := Lib.hid hr
  have HGG := Lib.hid hg
  have HAL := Lib.hid hrl
  have HRW := Lib.hid (shG_with hs u all)
  have hem : all.isEmpty = ((all.length : Int) == 0) := by cases all <;> rfl
  rw [hem] at HRW
  generalize withK (l.map lgHoldV) u all = R at *
  clear hr hg hrl hem hS
  go_enter Try.func91, Try.ntmps91
  go_upto_region 2 with fail
  go_cut [8] from 12 to 15 (fun p wx => ∃ g A3 c3, p = .pointer (some ⟨g, 0, none⟩) ∧ w.heap.size < g ∧ g < wx.heap.size ∧ (wx.cell? ⟨g, 0, none⟩ = some (.int .i64 u.acc) ∧ wx.cell? ⟨g, 1, none⟩ = some (.int .i64 u.cli) ∧ wx.cell? ⟨g, 2, none⟩ = some (.slice A3 all.length c3)) ∧ Rs wx 3 (all.map encLot) A3 c3 ∧ (∀ a, A3 = some a → w.heap.size ≤ a.block) ∧ (wx.cell? ⟨w.heap.size, 0, none⟩ = some (.int .i64 u.acc) ∧ wx.cell? ⟨w.heap.size, 1, none⟩ = some (.int .i64 u.cli)) ∧ Below w.heap.size w wx)
  case first =>
    go_region_held3 (fun w' => w'.cell? ⟨w.heap.size, 0, none⟩ = some (.int .i64 u.acc) ∧ w'.cell? ⟨w.heap.size, 1, none⟩ = some (.int .i64 u.cli)) (first | (simp [go_sem]; done) | (repeat' (first | (with_reducible assumption) | (with_reducible refine And.intro ?_ ?_) | (with_reducible refine cell_drew ?_) | (with_reducible refine cell_via (by with_reducible assumption) ?_ ?_) | (simp [*]; done) | (simp [go_sem]; done) | (with_reducible refine cell_alloc ?_ ?_) | (with_reducible refine cell_set_far ?_ ?_) | omega | (simp; omega)))) (first | (go_at_call 114; (with_reducible refine (lotClone all B d _ (by omega) (HAL.out.keep (by (repeat' (first | (with_reducible exact Below.refl _ _) | (with_reducible assumption) | (with_reducible refine Below.alloc ?_ ?_ _) | (with_reducible refine Below.setCell ?_ ?_ _) | (with_reducible refine Below.drew ?_) | (with_reducible refine below_drewN ?_ _) | (with_reducible refine below_via ?_ (by with_reducible assumption) ?_) | omega | (simp; done) | (simp; omega)))))).mono ?_); rintro e w3 ⟨v3, rfl, hown3, hb3⟩; obtain ⟨A3, c3, hv3, hrs3, hform3⟩ := hown3.rs; rw [List.length_map] at hv3; subst hv3; have HA3 := Lib.hid (own_off hown3 (m := w.heap.size) (by first | omega | (simp; done) | (simp; omega))); have HO3 := Lib.hid hown3; clear hown3 hrs3 hform3; obtain ⟨fc3, fg3, hc3, hf3, hz3⟩ := bget hb3; (try simp at hz3)) | fail)
    all_goals
      go_wp2_with fail
      go_meet
      refine ⟨_, A3, c3, rfl, (by first | omega | (simp; done) | (simp; omega)), (by first | omega | (simp; done) | (simp; omega)), ⟨?_, ?_, ?_⟩, ?_, HA3.out, ⟨?_, ?_⟩, by (repeat' (first | (with_reducible exact Below.refl _ _) | (with_reducible assumption) | (with_reducible refine Below.alloc ?_ ?_ _) | (with_reducible refine Below.setCell ?_ ?_ _) | (with_reducible refine Below.drew ?_) | (with_reducible refine below_drewN ?_ _) | (with_reducible refine below_via ?_ (by with_reducible assumption) ?_) | omega | (simp; done) | (simp; omega)))⟩
      case refine_4 => first | (focus (refine Own.good (n := all.length) (base := w.heap.size + 2) (E := 62) ?_; refine Own.farLow (Own.farLow (Own.farLow ?_ ?_ _) ?_ _) ?_ _; (focus (refine HO3.out.mono ?_; simp; done)); all_goals (focus (simp; done)))) | (focus (refine Rs.keep HO3.out.good ?_; (repeat' (first | (with_reducible exact Below.refl _ _) | (with_reducible assumption) | (with_reducible refine Below.alloc ?_ ?_ _) | (with_reducible refine Below.setCell ?_ ?_ _) | (with_reducible refine Below.drew ?_) | (with_reducible refine below_drewN ?_ _) | (with_reducible refine below_via ?_ (by with_reducible assumption) ?_) | omega | (simp; done) | (simp; omega))); done))
      all_goals (first | (simp [go_sem, *]; done) | (simp [go_sem, *, ↓IntWalk.iteOmega]; done))
  case rest =>
    obtain ⟨g8, A3, c3, rfl, hg8, hg8w, hm, hrs3, ha3, hx, hb0⟩ := hcut
    generalize wc = wo at *
    have hz0 := hb0.size
    have HW0 := Lib.hid hb0
    have HRO := Lib.hid (HRR.out.keep hb0)
    have HGO := Lib.hid (fun x hx => (HGG.out x hx).keep hb0)
    have HMG := Lib.hid (show GoodHoldV wo ⟨u, ⟨A3, c3, all⟩⟩ ∧ ∀ a, A3 = some a → w.heap.size ≤ a.block from ⟨⟨hal, hrs3⟩, ha3⟩)
    have HX := Lib.hid (And.intro hm hx)
    clear hm hx hb0 hrs3 ha3 HRR HGG HAL
    go_wp2_with fail
    go_loopw [7, 9, 21] (fun v dn i wr => ∃ (k : Nat) (ys : List HoldV) (done : Bool), k ≤ l.length ∧ i = .int .i64 k ∧ dn = .bool done ∧ ys.map lgHoldV ++ shG u all done ((l.drop k).map lgHoldV) = R ∧ ys.length ≤ 2 * k ∧ Own wr wo.heap.size 137 3 v (ys.map encHoldV) ∧ (∀ y ∈ ys, MixH w.heap.size wo wr y) ∧ Below wo.heap.size wo wr) (fun _ _ i _ => l.length - (intOf i).toNat)
    case atStart => exact ⟨0, [], _, Nat.zero_le _, rfl, rfl, HRW.out, Nat.zero_le _, Own.nil _ _ _ _, fun y hy => absurd hy (by simp), by (repeat' (first | (with_reducible exact Below.refl _ _) | (with_reducible assumption) | (with_reducible refine Below.alloc ?_ ?_ _) | (with_reducible refine Below.setCell ?_ ?_ _) | (with_reducible refine Below.drew ?_) | (with_reducible refine below_drewN ?_ _) | (with_reducible refine below_via ?_ (by with_reducible assumption) ?_) | omega | (simp; done) | (simp; omega)))⟩
    case round =>
      clear HRW
      obtain ⟨k, ys, done, hk, rfl, rfl, hw, hyl, hown, hgd, hbl⟩ := hrel
      have HW := Lib.hid hw
      have Hown := Lib.hid hown
      have Hgd := Lib.hid hgd
      have Hbl := Lib.hid hbl
      have hzr := hbl.size
      have n0 := (hbl.cell (p := ⟨g8, 0, none⟩) hg8w).trans HX.out.1.1
      have n1 := (hbl.cell (p := ⟨g8, 1, none⟩) hg8w).trans HX.out.1.2.1
      have n2 := (hbl.cell (p := ⟨g8, 2, none⟩) hg8w).trans HX.out.1.2.2
      have g0 := (hbl.cell (p := ⟨w.heap.size, 0, none⟩) (by simp; omega)).trans HX.out.2.1
      have g1 := (hbl.cell (p := ⟨w.heap.size, 1, none⟩) (by simp; omega)).trans HX.out.2.2
      clear hw hown hgd hbl
      by_cases hlt : k < l.length
      · have kl : (k : Int) < (l.length : Int) := by omega
        have dl : decide ((k : Int) < (l.length : Int)) = true := by simpa using hlt
        have hd := Lib.hid (lg_atHoldV hlt)
        have hgk := HGO.out l[k] (List.getElem_mem hlt)
        have hli := hgk.1
        have HLI := Lib.hid hli
        have HGK := Lib.hid hgk.2
        clear hgk
        obtain ⟨b, o, rfl, hb, hc⟩ := HRO.out k (encHoldV l[k]) (by simp [hlt])
        have e0 := (Hbl.out.cell (p := ⟨b, o + k * 3 + 0, none⟩) hb).trans (hc 0 _ rfl)
        have e1 := (Hbl.out.cell (p := ⟨b, o + k * 3 + 1, none⟩) hb).trans (hc 1 _ rfl)
        have e2 := (Hbl.out.cell (p := ⟨b, o + k * 3 + 2, none⟩) hb).trans (hc 2 _ rfl)
        simp only [Nat.add_zero] at e0
        clear hc
        have hbw : b < wr.heap.size := by omega
        cases done
        · cases hlo : lessU u l[k].unit
          · rcases un_tHoldV (x := l[k].unit) (u := u) with h | h
            · have HU := Lib.hid h
              have HLO := Lib.hid (show lessU l[k].unit u = false from by rw [h]; exact lessU_irr u)
              have CO := Lib.hid (fun W => (show lessU u u = false from lessU_irr u) ▸ acctLess u u W)
              rw [h] at e0 e1
              clear h hlo
              go_wp2_with (first | (go_at_call 93; (with_reducible refine (CO.out _).mono ?_); rintro e w1 ⟨rfl, hb1⟩; obtain ⟨fc1, fg1, hc1, hf1, hz1⟩ := bget hb1; (try simp at hz1)) | (at_builtin; refine wpList_appAt rfl _ _ _ rfl elHoldV wo.heap.size _ _ rfl (Hown.out.keep (by (repeat' (first | (with_reducible exact Below.refl _ _) | (with_reducible assumption) | (with_reducible refine Below.alloc ?_ ?_ _) | (with_reducible refine Below.setCell ?_ ?_ _) | (with_reducible refine Below.drew ?_) | (with_reducible refine below_drewN ?_ _) | (with_reducible refine below_via ?_ (by with_reducible assumption) ?_) | omega | (simp; done) | (simp; omega))))) ⟨_, 0, none⟩ 1 1 rfl [[.int .i64 u.acc, .int .i64 u.cli, .slice A3 all.length c3]] rfl (rd_oneN (by simp)) (row3HoldV _ _ _ _ _) (by unfold maxLen; simp; omega) (by simp; omega) (by first | omega | (simp; done) | (simp; omega)) ?_; intro v5 w5 hown5 hb5 hg5 hat5; have HO5 := Lib.hid hown5; have HG5 := Lib.hid hg5; clear hown5 hg5 hat5; obtain ⟨fc5, fg5, hc5, hf5, hz5⟩ := bget hb5; (try simp at hz5)) | fail)
              go_roundw
              case rel =>
                have h0a : Below wr.heap.size wr (w1.alloc (.cells #[.int .i64 u.acc, .int .i64 u.cli, .slice A3 all.length c3] 137)) := by clear hb5; (repeat' (first | (with_reducible exact Below.refl _ _) | (with_reducible assumption) | (with_reducible refine Below.alloc ?_ ?_ _) | (with_reducible refine Below.setCell ?_ ?_ _) | (with_reducible refine Below.drew ?_) | (with_reducible refine below_drewN ?_ _) | (with_reducible refine below_via ?_ (by with_reducible assumption) ?_) | omega | (simp; done) | (simp; omega)))
                have h05 : Away 137 wr w5 := (Away.below h0a).trans (Away.grown HG5.out (Own.typed (Hown.out.keep h0a)))
                refine ⟨k + 1, ys ++ [⟨u, ⟨A3, c3, all⟩⟩], true, by omega, by go_num, rfl, ?_, ?_, ?_, ?_, ?_⟩
                · rw [← HW.out, hd.out, shG_4 (x := lgHoldV l[k]) HU.out HLO.out]; first | done | (simp [List.map_append, lgHoldV]; done)
                · simp only [List.length_append, List.length_cons, List.length_nil]; omega
                · rw [List.map_append]; exact HO5.out
                · intro y hy
                  simp only [List.mem_append, List.mem_cons, List.not_mem_nil, or_false] at hy
                  rcases hy with hy | rfl
                  · exact (Hgd.out y hy).away h05
                  · exact .inr HMG.out
                · have hbl := Hbl.out
                  clear h0a h05
                  (repeat' (first | (with_reducible exact Below.refl _ _) | (with_reducible assumption) | (with_reducible refine Below.alloc ?_ ?_ _) | (with_reducible refine Below.setCell ?_ ?_ _) | (with_reducible refine Below.drew ?_) | (with_reducible refine below_drewN ?_ _) | (with_reducible refine below_via ?_ (by with_reducible assumption) ?_) | omega | (simp; done) | (simp; omega)))
              case measure => simp [intOf]; omega
            · have hne := un_dHoldV h
              have HU := Lib.hid hne
              have HLO := Lib.hid (show lessU l[k].unit u = true from by
                rcases lessU_tri l[k].unit u with h1 | h1 | h1
                · exact h1
                · exact absurd h1 hne
                · rw [hlo] at h1; cases h1)
              have CO := Lib.hid (fun W => hlo ▸ acctLess u l[k].unit W)
              clear hne hlo
              rcases h with h | h
              all_goals
                go_wp2_with (first | (go_at_call 93; (with_reducible refine (CO.out _).mono ?_); rintro e w1 ⟨rfl, hb1⟩; obtain ⟨fc1, fg1, hc1, hf1, hz1⟩ := bget hb1; (try simp at hz1)) | fail)
                go_region_held3 (fun w' => w'.cell? ⟨wr.heap.size, 0, none⟩ = some (.int .i64 l[k].unit.acc) ∧ w'.cell? ⟨wr.heap.size, 1, none⟩ = some (.int .i64 l[k].unit.cli) ∧ w'.cell? ⟨wr.heap.size, 2, none⟩ = some (.slice l[k].lots.A l[k].lots.val.length l[k].lots.c)) (first | (simp [go_sem]; done) | (repeat' (first | (with_reducible assumption) | (with_reducible refine And.intro ?_ ?_) | (with_reducible refine cell_drew ?_) | (with_reducible refine cell_via (by with_reducible assumption) ?_ ?_) | (simp [*]; done) | (simp [go_sem]; done) | (with_reducible refine cell_alloc ?_ ?_) | (with_reducible refine cell_set_far ?_ ?_) | omega | (simp; omega)))) (first | (go_at_call 114; (with_reducible refine (lotClone l[k].lots.val l[k].lots.A l[k].lots.c _ (by omega) (HGK.out.keep (by have hbl := Hbl.out; (repeat' (first | (with_reducible exact Below.refl _ _) | (with_reducible assumption) | (with_reducible refine Below.alloc ?_ ?_ _) | (with_reducible refine Below.setCell ?_ ?_ _) | (with_reducible refine Below.drew ?_) | (with_reducible refine below_drewN ?_ _) | (with_reducible refine below_via ?_ (by with_reducible assumption) ?_) | omega | (simp; done) | (simp; omega)))))).mono ?_); rintro e w6 ⟨v6, rfl, hown6, hb6⟩; obtain ⟨A6, c6, hv6, hrs6, hform6⟩ := hown6.rs; rw [List.length_map] at hv6; subst hv6; have HO6 := Lib.hid hown6; clear hown6 hrs6 hform6; obtain ⟨fc6, fg6, hc6, hf6, hz6⟩ := bget hb6; (try simp at hz6)) | (refine step_appG rfl _ _ _ rfl elHoldV wo.heap.size _ _ rfl (Hown.out.keep (by (repeat' (first | (with_reducible exact Below.refl _ _) | (with_reducible assumption) | (with_reducible refine Below.alloc ?_ ?_ _) | (with_reducible refine Below.setCell ?_ ?_ _) | (with_reducible refine Below.drew ?_) | (with_reducible refine below_drewN ?_ _) | (with_reducible refine below_via ?_ (by with_reducible assumption) ?_) | omega | (simp; done) | (simp; omega))))) ⟨_, 0, none⟩ 1 1 rfl [[.int .i64 l[k].unit.acc, .int .i64 l[k].unit.cli, .slice A6 l[k].lots.val.length c6]] rfl (rd_oneN (by simp)) (row3HoldV _ _ _ _ _) (by unfold maxLen; simp; omega) (by simp; omega) (by first | omega | (simp; done) | (simp; omega)) ?_; intro v7 w7 hown7 hb7 hg7; have r0 := (grown_at hg7 (g := wr.heap.size) (by simp; omega) (fun e => absurd (Hown.out.block _ e).2 (by omega)) 0).trans (show _ = some (.int .i64 l[k].unit.acc) from by simp [go_sem, *]); have r1 := (grown_at hg7 (g := wr.heap.size) (by simp; omega) (fun e => absurd (Hown.out.block _ e).2 (by omega)) 1).trans (show _ = some (.int .i64 l[k].unit.cli) from by simp [go_sem, *]); have r2 := (grown_at hg7 (g := wr.heap.size) (by simp; omega) (fun e => absurd (Hown.out.block _ e).2 (by omega)) 2).trans (show _ = some (.slice l[k].lots.A l[k].lots.val.length l[k].lots.c) from by simp [go_sem, *]); have HO7 := Lib.hid hown7; have HG7 := Lib.hid hg7; clear hown7 hg7; obtain ⟨fc7, fg7, hc7, hf7, hz7⟩ := bget hb7; (try simp at hz7)) | fail)
                all_goals
                  go_wp2_with fail
                  go_roundw
                  case rel =>
                    have h06 : Below wr.heap.size wr w6 := by clear hb7; (repeat' (first | (with_reducible exact Below.refl _ _) | (with_reducible assumption) | (with_reducible refine Below.alloc ?_ ?_ _) | (with_reducible refine Below.setCell ?_ ?_ _) | (with_reducible refine Below.drew ?_) | (with_reducible refine below_drewN ?_ _) | (with_reducible refine below_via ?_ (by with_reducible assumption) ?_) | omega | (simp; done) | (simp; omega)))
                    have h6a := (Below.refl w6.heap.size w6).alloc (Nat.le_refl _) (.cells #[.int .i64 l[k].unit.acc, .int .i64 l[k].unit.cli, .slice A6 l[k].lots.val.length c6] 137)
                    have ho6 := HO6.out.mono (b := wo.heap.size) (by simp; omega)
                    have ha7 : Away 137 w6 w7 := (Away.below h6a).trans (Away.grown HG7.out (Own.typed ((Hown.out.keep h06).keep h6a)))
                    refine ⟨k + 1, ys ++ [⟨l[k].unit, ⟨A6, c6, l[k].lots.val⟩⟩], false, by omega, by go_num, rfl, ?_, ?_, ?_, ?_, ?_⟩
                    · rw [← HW.out, hd.out, shG_3 (x := lgHoldV l[k]) HU.out HLO.out]; first | done | (simp [List.map_append, lgHoldV]; done)
                    · simp only [List.length_append, List.length_cons, List.length_nil]; omega
                    · rw [List.map_append]; exact HO7.out
                    · intro y hy
                      simp only [List.mem_append, List.mem_cons, List.not_mem_nil, or_false] at hy
                      rcases hy with hy | rfl
                      · exact (Hgd.out y hy).away ((Away.below h06).trans ha7)
                      · exact .inl ((show OwnH w6 wo.heap.size ⟨l[k].unit, ⟨A6, c6, l[k].lots.val⟩⟩ from ⟨HLI.out, ho6⟩).away ha7)
                    · have hbl := Hbl.out
                      clear h06 h6a ha7
                      (repeat' (first | (with_reducible exact Below.refl _ _) | (with_reducible assumption) | (with_reducible refine Below.alloc ?_ ?_ _) | (with_reducible refine Below.setCell ?_ ?_ _) | (with_reducible refine Below.drew ?_) | (with_reducible refine below_drewN ?_ _) | (with_reducible refine below_via ?_ (by with_reducible assumption) ?_) | omega | (simp; done) | (simp; omega)))
                  case measure => simp [intOf]; omega
          · have HLO := Lib.hid (lessU_asymm hlo)
            have HU := Lib.hid (lessU_ne hlo).symm
            have hh := neqUn (lessU_ne hlo).symm
            have CO := Lib.hid (fun W => hlo ▸ acctLess u l[k].unit W)
            clear hlo
            rcases hh with h | h
            all_goals
              go_wp2_with (first | (go_at_call 93; (with_reducible refine (CO.out _).mono ?_); rintro e w1 ⟨rfl, hb1⟩; obtain ⟨fc1, fg1, hc1, hf1, hz1⟩ := bget hb1; (try simp at hz1)) | (at_builtin; refine wpList_appAt rfl _ _ _ rfl elHoldV wo.heap.size _ _ rfl (Hown.out.keep (by (repeat' (first | (with_reducible exact Below.refl _ _) | (with_reducible assumption) | (with_reducible refine Below.alloc ?_ ?_ _) | (with_reducible refine Below.setCell ?_ ?_ _) | (with_reducible refine Below.drew ?_) | (with_reducible refine below_drewN ?_ _) | (with_reducible refine below_via ?_ (by with_reducible assumption) ?_) | omega | (simp; done) | (simp; omega))))) ⟨_, 0, none⟩ 1 1 rfl [[.int .i64 u.acc, .int .i64 u.cli, .slice A3 all.length c3]] rfl (rd_oneN (by simp)) (row3HoldV _ _ _ _ _) (by unfold maxLen; simp; omega) (by simp; omega) (by first | omega | (simp; done) | (simp; omega)) ?_; intro v5 w5 hown5 hb5 hg5 hat5; have HO5 := Lib.hid hown5; have HG5 := Lib.hid hg5; have HN5 := Lib.hid (show v5.ownBlock ≠ some wr.heap.size from hat5.elim (fun h e => absurd (Hown.out.block _ (h.symm.trans e)).2 (by omega)) (fun h e => by have h2 := h.symm.trans e; injection h2 with h2; (simp at h2) <;> omega)); have q0 := (grown_at hg5 (g := wr.heap.size) (by simp; omega) (fun e => absurd (Hown.out.block _ e).2 (by omega)) 0).trans (show _ = some (.int .i64 l[k].unit.acc) from by simp [go_sem, hc1, ↓IntWalk.iteOmega]); have q1 := (grown_at hg5 (g := wr.heap.size) (by simp; omega) (fun e => absurd (Hown.out.block _ e).2 (by omega)) 1).trans (show _ = some (.int .i64 l[k].unit.cli) from by simp [go_sem, hc1, ↓IntWalk.iteOmega]); have q2 := (grown_at hg5 (g := wr.heap.size) (by simp; omega) (fun e => absurd (Hown.out.block _ e).2 (by omega)) 2).trans (show _ = some (.slice l[k].lots.A l[k].lots.val.length l[k].lots.c) from by simp [go_sem, hc1, ↓IntWalk.iteOmega]); clear hown5 hg5 hat5; obtain ⟨fc5, fg5, hc5, hf5, hz5⟩ := bget hb5; (try simp at hz5)) | fail)
              go_region_held3 (fun w' => w'.cell? ⟨wr.heap.size, 0, none⟩ = some (.int .i64 l[k].unit.acc) ∧ w'.cell? ⟨wr.heap.size, 1, none⟩ = some (.int .i64 l[k].unit.cli) ∧ w'.cell? ⟨wr.heap.size, 2, none⟩ = some (.slice l[k].lots.A l[k].lots.val.length l[k].lots.c)) (first | (simp [go_sem]; done) | (repeat' (first | (with_reducible assumption) | (with_reducible refine And.intro ?_ ?_) | (with_reducible refine cell_drew ?_) | (with_reducible refine cell_via (by with_reducible assumption) ?_ ?_) | (simp [*]; done) | (simp [go_sem]; done) | (with_reducible refine cell_alloc ?_ ?_) | (with_reducible refine cell_set_far ?_ ?_) | omega | (simp; omega)))) (first | (go_at_call 114; (with_reducible refine (lotClone l[k].lots.val l[k].lots.A l[k].lots.c _ (by omega) (HGK.out.keep (by have hbl := Hbl.out; (repeat' (first | (with_reducible exact Below.refl _ _) | (with_reducible assumption) | (with_reducible refine Below.alloc ?_ ?_ _) | (with_reducible refine Below.setCell ?_ ?_ _) | (with_reducible refine Below.drew ?_) | (with_reducible refine below_drewN ?_ _) | (with_reducible refine below_via ?_ (by with_reducible assumption) ?_) | omega | (simp; done) | (simp; omega)))))).mono ?_); rintro e w6 ⟨v6, rfl, hown6, hb6⟩; obtain ⟨A6, c6, hv6, hrs6, hform6⟩ := hown6.rs; rw [List.length_map] at hv6; subst hv6; have HO6 := Lib.hid hown6; clear hown6 hrs6 hform6; obtain ⟨fc6, fg6, hc6, hf6, hz6⟩ := bget hb6; (try simp at hz6)) | (refine step_appG rfl _ _ _ rfl elHoldV wo.heap.size _ _ rfl (HO5.out.keep (by (repeat' (first | (with_reducible exact Below.refl _ _) | (with_reducible assumption) | (with_reducible refine Below.alloc ?_ ?_ _) | (with_reducible refine Below.setCell ?_ ?_ _) | (with_reducible refine Below.drew ?_) | (with_reducible refine below_drewN ?_ _) | (with_reducible refine below_via ?_ (by with_reducible assumption) ?_) | omega | (simp; done) | (simp; omega))))) ⟨_, 0, none⟩ 1 1 rfl [[.int .i64 l[k].unit.acc, .int .i64 l[k].unit.cli, .slice A6 l[k].lots.val.length c6]] rfl (rd_oneN (by simp)) (row3HoldV _ _ _ _ _) (by unfold maxLen; simp; omega) (by simp; omega) (by first | omega | (simp; done) | (simp; omega)) ?_; intro v7 w7 hown7 hb7 hg7; have r0 := (grown_at hg7 (g := wr.heap.size) (by simp; omega) HN5.out 0).trans (show _ = some (.int .i64 l[k].unit.acc) from by simp [go_sem, *]); have r1 := (grown_at hg7 (g := wr.heap.size) (by simp; omega) HN5.out 1).trans (show _ = some (.int .i64 l[k].unit.cli) from by simp [go_sem, *]); have r2 := (grown_at hg7 (g := wr.heap.size) (by simp; omega) HN5.out 2).trans (show _ = some (.slice l[k].lots.A l[k].lots.val.length l[k].lots.c) from by simp [go_sem, *]); have HO7 := Lib.hid hown7; have HG7 := Lib.hid hg7; clear hown7 hg7; obtain ⟨fc7, fg7, hc7, hf7, hz7⟩ := bget hb7; (try simp at hz7)) | fail)
              all_goals
                go_wp2_with fail
                go_roundw
                case rel =>
                  have h0a : Below wr.heap.size wr (w1.alloc (.cells #[.int .i64 u.acc, .int .i64 u.cli, .slice A3 all.length c3] 137)) := by clear hb5 hb6 hb7; (repeat' (first | (with_reducible exact Below.refl _ _) | (with_reducible assumption) | (with_reducible refine Below.alloc ?_ ?_ _) | (with_reducible refine Below.setCell ?_ ?_ _) | (with_reducible refine Below.drew ?_) | (with_reducible refine below_drewN ?_ _) | (with_reducible refine below_via ?_ (by with_reducible assumption) ?_) | omega | (simp; done) | (simp; omega)))
                  have h05 : Away 137 wr w5 := (Away.below h0a).trans (Away.grown HG5.out (Own.typed (Hown.out.keep h0a)))
                  have h56 : Below w5.heap.size w5 w6 := by clear hb7 h0a; (repeat' (first | (with_reducible exact Below.refl _ _) | (with_reducible assumption) | (with_reducible refine Below.alloc ?_ ?_ _) | (with_reducible refine Below.setCell ?_ ?_ _) | (with_reducible refine Below.drew ?_) | (with_reducible refine below_drewN ?_ _) | (with_reducible refine below_via ?_ (by with_reducible assumption) ?_) | omega | (simp; done) | (simp; omega)))
                  have h6a := (Below.refl w6.heap.size w6).alloc (Nat.le_refl _) (.cells #[.int .i64 l[k].unit.acc, .int .i64 l[k].unit.cli, .slice A6 l[k].lots.val.length c6] 137)
                  have ho6 := HO6.out.mono (b := wo.heap.size) (by simp; omega)
                  have ha7 : Away 137 w6 w7 := (Away.below h6a).trans (Away.grown HG7.out (Own.typed ((HO5.out.keep h56).keep h6a)))
                  refine ⟨k + 1, ys ++ [⟨u, ⟨A3, c3, all⟩⟩, ⟨l[k].unit, ⟨A6, c6, l[k].lots.val⟩⟩], true, by omega, by go_num, rfl, ?_, ?_, ?_, ?_, ?_⟩
                  · rw [← HW.out, hd.out, shG_5 (x := lgHoldV l[k]) HU.out HLO.out]; first | done | (simp [List.map_append, lgHoldV]; done)
                  · simp only [List.length_append, List.length_cons, List.length_nil]; omega
                  · have h7 := HO7.out
                    rw [List.append_assoc] at h7
                    rw [List.map_append]; exact h7
                  · intro y hy
                    simp only [List.mem_append, List.mem_cons, List.not_mem_nil, or_false] at hy
                    rcases hy with hy | rfl | rfl
                    · exact (Hgd.out y hy).away (h05.trans ((Away.below h56).trans ha7))
                    · exact .inr HMG.out
                    · exact .inl ((show OwnH w6 wo.heap.size ⟨l[k].unit, ⟨A6, c6, l[k].lots.val⟩⟩ from ⟨HLI.out, ho6⟩).away ha7)
                  · have hbl := Hbl.out
                    clear h0a h05 h56 h6a ha7
                    (repeat' (first | (with_reducible exact Below.refl _ _) | (with_reducible assumption) | (with_reducible refine Below.alloc ?_ ?_ _) | (with_reducible refine Below.setCell ?_ ?_ _) | (with_reducible refine Below.drew ?_) | (with_reducible refine below_drewN ?_ _) | (with_reducible refine below_via ?_ (by with_reducible assumption) ?_) | omega | (simp; done) | (simp; omega)))
                case measure => simp [intOf]; omega
        · rcases un_tHoldV (x := l[k].unit) (u := u) with h | h
          · have HU := Lib.hid h
            rw [h] at e0 e1
            clear h
            go_wp2_with fail
            go_roundw
            case rel => exact ⟨k + 1, ys, true, by omega, by go_num, rfl, by rw [← HW.out, hd.out, shG_1 (x := lgHoldV l[k]) HU.out], by omega, Hown.out.alloc _, fun y hy => (Hgd.out y hy).away (Away.below ((Below.refl _ _).alloc (Nat.le_refl _) _)), by have hbl := Hbl.out; (repeat' (first | (with_reducible exact Below.refl _ _) | (with_reducible assumption) | (with_reducible refine Below.alloc ?_ ?_ _) | (with_reducible refine Below.setCell ?_ ?_ _) | (with_reducible refine Below.drew ?_) | (with_reducible refine below_drewN ?_ _) | (with_reducible refine below_via ?_ (by with_reducible assumption) ?_) | omega | (simp; done) | (simp; omega)))⟩
            case measure => simp [intOf]; omega
          · have HU := Lib.hid (un_dHoldV h)
            rcases h with h | h
            all_goals
              go_wp2_with fail
              go_region_held3 (fun w' => w'.cell? ⟨wr.heap.size, 0, none⟩ = some (.int .i64 l[k].unit.acc) ∧ w'.cell? ⟨wr.heap.size, 1, none⟩ = some (.int .i64 l[k].unit.cli) ∧ w'.cell? ⟨wr.heap.size, 2, none⟩ = some (.slice l[k].lots.A l[k].lots.val.length l[k].lots.c)) (first | (simp [go_sem]; done) | (repeat' (first | (with_reducible assumption) | (with_reducible refine And.intro ?_ ?_) | (with_reducible refine cell_drew ?_) | (with_reducible refine cell_via (by with_reducible assumption) ?_ ?_) | (simp [*]; done) | (simp [go_sem]; done) | (with_reducible refine cell_alloc ?_ ?_) | (with_reducible refine cell_set_far ?_ ?_) | omega | (simp; omega)))) (first | (go_at_call 114; (with_reducible refine (lotClone l[k].lots.val l[k].lots.A l[k].lots.c _ (by omega) (HGK.out.keep (by have hbl := Hbl.out; (repeat' (first | (with_reducible exact Below.refl _ _) | (with_reducible assumption) | (with_reducible refine Below.alloc ?_ ?_ _) | (with_reducible refine Below.setCell ?_ ?_ _) | (with_reducible refine Below.drew ?_) | (with_reducible refine below_drewN ?_ _) | (with_reducible refine below_via ?_ (by with_reducible assumption) ?_) | omega | (simp; done) | (simp; omega)))))).mono ?_); rintro e w6 ⟨v6, rfl, hown6, hb6⟩; obtain ⟨A6, c6, hv6, hrs6, hform6⟩ := hown6.rs; rw [List.length_map] at hv6; subst hv6; have HO6 := Lib.hid hown6; clear hown6 hrs6 hform6; obtain ⟨fc6, fg6, hc6, hf6, hz6⟩ := bget hb6; (try simp at hz6)) | (refine step_appG rfl _ _ _ rfl elHoldV wo.heap.size _ _ rfl (Hown.out.keep (by (repeat' (first | (with_reducible exact Below.refl _ _) | (with_reducible assumption) | (with_reducible refine Below.alloc ?_ ?_ _) | (with_reducible refine Below.setCell ?_ ?_ _) | (with_reducible refine Below.drew ?_) | (with_reducible refine below_drewN ?_ _) | (with_reducible refine below_via ?_ (by with_reducible assumption) ?_) | omega | (simp; done) | (simp; omega))))) ⟨_, 0, none⟩ 1 1 rfl [[.int .i64 l[k].unit.acc, .int .i64 l[k].unit.cli, .slice A6 l[k].lots.val.length c6]] rfl (rd_oneN (by simp)) (row3HoldV _ _ _ _ _) (by unfold maxLen; simp; omega) (by simp; omega) (by first | omega | (simp; done) | (simp; omega)) ?_; intro v7 w7 hown7 hb7 hg7; have r0 := (grown_at hg7 (g := wr.heap.size) (by simp; omega) (fun e => absurd (Hown.out.block _ e).2 (by omega)) 0).trans (show _ = some (.int .i64 l[k].unit.acc) from by simp [go_sem, *]); have r1 := (grown_at hg7 (g := wr.heap.size) (by simp; omega) (fun e => absurd (Hown.out.block _ e).2 (by omega)) 1).trans (show _ = some (.int .i64 l[k].unit.cli) from by simp [go_sem, *]); have r2 := (grown_at hg7 (g := wr.heap.size) (by simp; omega) (fun e => absurd (Hown.out.block _ e).2 (by omega)) 2).trans (show _ = some (.slice l[k].lots.A l[k].lots.val.length l[k].lots.c) from by simp [go_sem, *]); have HO7 := Lib.hid hown7; have HG7 := Lib.hid hg7; clear hown7 hg7; obtain ⟨fc7, fg7, hc7, hf7, hz7⟩ := bget hb7; (try simp at hz7)) | fail)
              all_goals
                go_wp2_with fail
                go_roundw
                case rel =>
                  have h06 : Below wr.heap.size wr w6 := by clear hb7; (repeat' (first | (with_reducible exact Below.refl _ _) | (with_reducible assumption) | (with_reducible refine Below.alloc ?_ ?_ _) | (with_reducible refine Below.setCell ?_ ?_ _) | (with_reducible refine Below.drew ?_) | (with_reducible refine below_drewN ?_ _) | (with_reducible refine below_via ?_ (by with_reducible assumption) ?_) | omega | (simp; done) | (simp; omega)))
                  have h6a := (Below.refl w6.heap.size w6).alloc (Nat.le_refl _) (.cells #[.int .i64 l[k].unit.acc, .int .i64 l[k].unit.cli, .slice A6 l[k].lots.val.length c6] 137)
                  have ho6 := HO6.out.mono (b := wo.heap.size) (by simp; omega)
                  have ha7 : Away 137 w6 w7 := (Away.below h6a).trans (Away.grown HG7.out (Own.typed ((Hown.out.keep h06).keep h6a)))
                  refine ⟨k + 1, ys ++ [⟨l[k].unit, ⟨A6, c6, l[k].lots.val⟩⟩], true, by omega, by go_num, rfl, ?_, ?_, ?_, ?_, ?_⟩
                  · rw [← HW.out, hd.out, shG_2 (x := lgHoldV l[k]) HU.out]; first | done | (simp [List.map_append, lgHoldV]; done)
                  · simp only [List.length_append, List.length_cons, List.length_nil]; omega
                  · rw [List.map_append]; exact HO7.out
                  · intro y hy
                    simp only [List.mem_append, List.mem_cons, List.not_mem_nil, or_false] at hy
                    rcases hy with hy | rfl
                    · exact (Hgd.out y hy).away ((Away.below h06).trans ha7)
                    · exact .inl ((show OwnH w6 wo.heap.size ⟨l[k].unit, ⟨A6, c6, l[k].lots.val⟩⟩ from ⟨HLI.out, ho6⟩).away ha7)
                  · have hbl := Hbl.out
                    clear h06 h6a ha7
                    (repeat' (first | (with_reducible exact Below.refl _ _) | (with_reducible assumption) | (with_reducible refine Below.alloc ?_ ?_ _) | (with_reducible refine Below.setCell ?_ ?_ _) | (with_reducible refine Below.drew ?_) | (with_reducible refine below_drewN ?_ _) | (with_reducible refine below_via ?_ (by with_reducible assumption) ?_) | omega | (simp; done) | (simp; omega)))
                case measure => simp [intOf]; omega
      · have dl : decide ((k : Int) < (l.length : Int)) = false := by simpa using hlt
        have HD := Lib.hid (drop_all (l := l) (k := k) (by omega))
        cases done
        · go_wp2_with (at_builtin; refine wpList_appAt rfl _ _ _ rfl elHoldV wo.heap.size _ _ rfl (Hown.out.keep (by (repeat' (first | (with_reducible exact Below.refl _ _) | (with_reducible assumption) | (with_reducible refine Below.alloc ?_ ?_ _) | (with_reducible refine Below.setCell ?_ ?_ _) | (with_reducible refine Below.drew ?_) | (with_reducible refine below_drewN ?_ _) | (with_reducible refine below_via ?_ (by with_reducible assumption) ?_) | omega | (simp; done) | (simp; omega))))) ⟨_, 0, none⟩ 1 1 rfl [[.int .i64 u.acc, .int .i64 u.cli, .slice A3 all.length c3]] rfl (rd_oneN (by simp)) (row3HoldV _ _ _ _ _) (by unfold maxLen; simp; omega) (by simp; omega) (by first | omega | (simp; done) | (simp; omega)) ?_; intro v5 w5 hown5 hb5 hg5 hat5; have HO5 := Lib.hid hown5; have HG5 := Lib.hid hg5; clear hown5 hg5 hat5; obtain ⟨fc5, fg5, hc5, hf5, hz5⟩ := bget hb5; (try simp at hz5))
          go_ret
          have h0a : Below wr.heap.size wr (wr.alloc (.cells #[.int .i64 u.acc, .int .i64 u.cli, .slice A3 all.length c3] 137)) := by clear hb5; (repeat' (first | (with_reducible exact Below.refl _ _) | (with_reducible assumption) | (with_reducible refine Below.alloc ?_ ?_ _) | (with_reducible refine Below.setCell ?_ ?_ _) | (with_reducible refine Below.drew ?_) | (with_reducible refine below_drewN ?_ _) | (with_reducible refine below_via ?_ (by with_reducible assumption) ?_) | omega | (simp; done) | (simp; omega)))
          have ha5 : Away 137 wr w5 := (Away.below h0a).trans (Away.grown HG5.out (Own.typed (Hown.out.keep h0a)))
          have h5 : Below wo.heap.size wo w5 := by clear h0a; have hbl := Hbl.out; (repeat' (first | (with_reducible exact Below.refl _ _) | (with_reducible assumption) | (with_reducible refine Below.alloc ?_ ?_ _) | (with_reducible refine Below.setCell ?_ ?_ _) | (with_reducible refine Below.drew ?_) | (with_reducible refine below_drewN ?_ _) | (with_reducible refine below_via ?_ (by with_reducible assumption) ?_) | omega | (simp; done) | (simp; omega)))
          refine ⟨_, ys ++ [⟨u, ⟨A3, c3, all⟩⟩], rfl, ?_, ?_, fun y hy => ?_, fun g hg y hy a ha => ?_, HW0.out.trans (h5.mono HW0.out.size)⟩
          · rw [← HW.out, HD.out, List.map_append]; first | done | rfl
          · rw [List.map_append]; exact HO5.out.mono HW0.out.size
          · simp only [List.mem_append, List.mem_cons, List.not_mem_nil, or_false] at hy
            rcases hy with hy | rfl
            · exact ((Hgd.out y hy).away ha5).good h5
            · exact HMG.out.1.keep h5
          · have h6 := HSS.out g hg
            simp only [List.mem_append, List.mem_cons, List.not_mem_nil, or_false] at hy
            rcases hy with hy | rfl
            · have h7 := (Hgd.out y hy).off HW0.out.size a ha
              omega
            · have h7 := HMG.out.2 a ha
              omega
        · go_wp2_with fail
          go_ret
          have h5 := Hbl.out
          refine ⟨_, ys, rfl, ?_, Hown.out.mono HW0.out.size, fun y hy => (Hgd.out y hy).good h5, fun g hg y hy a ha => by have h6 := HSS.out g hg; have h7 := (Hgd.out y hy).off HW0.out.size a ha; omega, HW0.out.trans (h5.mono HW0.out.size)⟩
          rw [← HW.out, HD.out]; simp [shG]
theorem holdSet (l : List HoldV) (u : Un) (all : List Lot) (A B : Option Addr) (c d : Nat) (w : World) (hl : l.length ≤ 2000) (hal : all.length ≤ 1000000) (hs : SortK (l.map lgHoldV)) (hr : Rd w A 3 (l.map encHoldV)) (hg : ∀ x ∈ l, GoodHoldV w x) (hrl : Rs w 3 (all.map encLot) B d) :
    Calls Try.prog 91 #[.slice A l.length c, .agg #[.int .i64 u.acc, .int .i64 u.cli], .slice B all.length d] w (HoldPost1 w (withK (l.map lgHoldV) u all)) :=
  (holdSetS (fun _ => False) l u all A B c d w (fun _ h => h.elim) hl hal hs hr hg hrl).mono fun _ _ h => h.less
end Go.Proofs.Ytiidplinmempcaa
