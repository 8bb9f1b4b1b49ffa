/- Lots: contract of lots.Draw. -/
import Derived.Test.YtemhhojenocddaaLot7
namespace Go.Proofs.Ytemhhojenocddaa
open Go.RowKit
/-- What is taken of an asset, and what is left, where so much is wanted. -/
def partQ (a q : Int) (y : Lot) : Int := if (y.asset == a) = true then min q y.qty else 0
def drawG (a : Int) : Int → List Lot → List Lot × List Lot
  | _, [] => ([], [])
  | q, y :: t => (addQ y (partQ a q y) ++ (drawG a (q - partQ a q y) t).1, addQ y (y.qty - partQ a q y) ++ (drawG a (q - partQ a q y) t).2)
def drawC (l : List Lot) (a q : Int) : Int := if isL l then (if q < 0 then 2 else if sumL l a < q then 23 else 0) else 3
def drawT (l : List Lot) (a q : Int) : List Lot := if drawC l a q = 0 then (drawG a q l).1 else []
def drawR (l : List Lot) (a q : Int) : List Lot := if drawC l a q = 0 then (drawG a q l).2 else []
/-- Two own slices that lie apart. -/
def Apart (u v : Value) : Prop := ∀ g, u.ownBlock = some g → v.ownBlock ≠ some g
def DrawPost (w : World) (T R : List Lot) (code : Int) (e : Ending) (w' : World) : Prop :=
  ∃ u v, e = .returned (.tuple #[u, v, .int .i64 code]) ∧ Own w' w.heap.size 58 3 u (T.map encLot) ∧ Own w' w.heap.size 58 3 v (R.map encLot) ∧ Below w.heap.size w w'
theorem addQ_len (y : Lot) (q : Int) : (addQ y q).length ≤ 1 := by unfold addQ; split <;> simp
theorem draw_step1 {a z p z' : Int} {y : Lot} {X T t : List Lot} (h : X = T ++ (drawG a z (y :: t)).1) (hp : partQ a z y = p) (hz : z - p = z') : X = (T ++ addQ y p) ++ (drawG a z' t).1 := by
  rw [h, List.append_assoc, show (drawG a z (y :: t)).1 = addQ y (partQ a z y) ++ (drawG a (z - partQ a z y) t).1 from rfl, hp, hz]
theorem draw_step2 {a z p z' r : Int} {y : Lot} {X R t : List Lot} (h : X = R ++ (drawG a z (y :: t)).2) (hp : partQ a z y = p) (hz : z - p = z') (hr : y.qty - p = r) : X = (R ++ addQ y r) ++ (drawG a z' t).2 := by
  rw [h, List.append_assoc, show (drawG a z (y :: t)).2 = addQ y (y.qty - partQ a z y) ++ (drawG a (z - partQ a z y) t).2 from rfl, hp, hz, hr]
theorem own_ne {w : World} {base E k : Nat} {v : Value} {rows : List (List Value)} (h : Own w base E k v rows) : v.ownBlock ≠ some w.heap.size := fun e => by
  have := (h.block _ e).2; omega
theorem apart_next {w : World} {base E k n : Nat} {u v u' : Value} {rows : List (List Value)} (h : Apart u v) (hv : Own w base E k v rows) (hn : w.heap.size ≤ n) (hu : ∀ g, u'.ownBlock = some g → u.ownBlock = some g ∨ n ≤ g) : Apart u' v := fun g hg he => by
  rcases hu g hg with h1 | h1
  · exact h g h1 he
  · have := (hv.block _ he).2; omega
theorem apart_next2 {w : World} {base E k : Nat} {u v v' : Value} {rows : List (List Value)} (h : Apart u v) (hu : Own w base E k u rows) (hv : ∀ g, v'.ownBlock = some g → v.ownBlock = some g ∨ w.heap.size ≤ g) : Apart u v' := fun g hg he => by
  rcases hv g he with h1 | h1
  · exact h g hg h1
  · have := (hu.block _ hg).2; omega
set_option maxRecDepth 100000 in
set_option maxHeartbeats 16000000 in
theorem lotDraw (l : List Lot) (a q : Int) (A : Option Addr) (c : Nat) (w : World) (hl : l.length ≤ 400000) (hin : ∀ y ∈ l, In64 y.qty) (hq : In64 q) (hr : Rd w A 3 (l.map encLot)) :
    Calls Try.prog 52 #[.slice A l.length c, .int .i64 a, .int .i64 q] w (DrawPost w (drawT l a q) (drawR l a q) (drawC l a q)) := by
  have HR := Lib.hid hr
  have c1 := fun W h => lotIs l A c W (by omega) h
  have c2 := fun W h => lotSum l a A c W (by omega) hin h
  have H128 := sumL_in (by omega) hin a
  clear hr
  cases h1 : isL l
  · have hc : drawC l a q = 3 := by unfold drawC; rw [h1]; rfl
    have HQ := Lib.hid hc
    have HT := Lib.hid (show drawT l a q = [] from if_neg (by rw [hc]; decide))
    have HV := Lib.hid (show drawR l a q = [] from if_neg (by rw [hc]; decide))
    rw [h1] at c1
    have C1 := Lib.hid c1
    clear c1 c2 hc h1
    go_enter Try.func52, Try.ntmps52
    go_wp2_with (first | (go_at_call 39; (with_reducible refine (C1.out _ (HR.out.keep (by (repeat' (first | (with_reducible exact Below.refl _ _) | (with_reducible assumption) | (with_reducible refine Below.alloc ?_ ?_ _) | (with_reducible refine Below.setCell ?_ ?_ _) | (with_reducible refine Below.drew ?_) | (with_reducible refine below_drewN ?_ _) | (with_reducible refine below_via ?_ (by with_reducible assumption) ?_) | omega | (simp; done) | (simp; omega)))))).mono ?_); rintro e w1 ⟨rfl, hb1⟩; obtain ⟨fc1, fg1, hc1, hf1, hz1⟩ := bget hb1; (try simp at hz1)) | fail)
    refine bodyPost_ret (v := .tuple #[.slice none 0 0, .slice none 0 0, .int .i64 (drawC l a q)]) (by rw [HQ.out]; simp [results, Try.results52, go_sem]; try rfl) rfl ⟨_, _, rfl, by rw [HT.out]; exact Own.nil _ _ _ _, by rw [HV.out]; exact Own.nil _ _ _ _, ?_⟩
    (repeat' (first | (with_reducible exact Below.refl _ _) | (with_reducible assumption) | (with_reducible refine Below.alloc ?_ ?_ _) | (with_reducible refine Below.setCell ?_ ?_ _) | (with_reducible refine Below.drew ?_) | (with_reducible refine below_drewN ?_ _) | (with_reducible refine below_via ?_ (by with_reducible assumption) ?_) | omega | (simp; done) | (simp; omega)))
  rw [h1] at c1
  have C1 := Lib.hid c1
  have hpos : ∀ y ∈ l, 0 < y.qty := fun y hy => (rightL_iff.1 ((isL_sort h1).2.1 y hy)).2.2.2.2
  have hc0 : drawC l a q = (if q < 0 then 2 else if sumL l a < q then 23 else 0) := by unfold drawC; rw [h1]; rfl
  clear c1 h1
  by_cases h2 : q < 0
  · rw [if_pos h2] at hc0
    have d2 := decide_eq_true h2
    have HQ := Lib.hid hc0
    have HT := Lib.hid (show drawT l a q = [] from if_neg (by rw [hc0]; decide))
    have HV := Lib.hid (show drawR l a q = [] from if_neg (by rw [hc0]; decide))
    clear c2 hc0
    go_enter Try.func52, Try.ntmps52
    go_wp2_with (first | (go_at_call 39; (with_reducible refine (C1.out _ (HR.out.keep (by (repeat' (first | (with_reducible exact Below.refl _ _) | (with_reducible assumption) | (with_reducible refine Below.alloc ?_ ?_ _) | (with_reducible refine Below.setCell ?_ ?_ _) | (with_reducible refine Below.drew ?_) | (with_reducible refine below_drewN ?_ _) | (with_reducible refine below_via ?_ (by with_reducible assumption) ?_) | omega | (simp; done) | (simp; omega)))))).mono ?_); rintro e w1 ⟨rfl, hb1⟩; obtain ⟨fc1, fg1, hc1, hf1, hz1⟩ := bget hb1; (try simp at hz1)) | fail)
    refine bodyPost_ret (v := .tuple #[.slice none 0 0, .slice none 0 0, .int .i64 (drawC l a q)]) (by rw [HQ.out]; simp [results, Try.results52, go_sem]; try rfl) rfl ⟨_, _, rfl, by rw [HT.out]; exact Own.nil _ _ _ _, by rw [HV.out]; exact Own.nil _ _ _ _, ?_⟩
    (repeat' (first | (with_reducible exact Below.refl _ _) | (with_reducible assumption) | (with_reducible refine Below.alloc ?_ ?_ _) | (with_reducible refine Below.setCell ?_ ?_ _) | (with_reducible refine Below.drew ?_) | (with_reducible refine below_drewN ?_ _) | (with_reducible refine below_via ?_ (by with_reducible assumption) ?_) | omega | (simp; done) | (simp; omega)))
  rw [if_neg h2] at hc0
  have d2 := decide_eq_false h2
  have C2 := Lib.hid c2
  clear c2
  have c4 := fun W => wideCmp (sumL l a) q W H128 (in64_128 hq)
  by_cases h3 : sumL l a < q
  · rw [if_pos h3] at hc0
    have ho : ord (sumL l a) q = -1 := by unfold ord; rw [if_pos h3]
    rw [ho] at c4
    have C4 := Lib.hid c4
    have HQ := Lib.hid hc0
    have HT := Lib.hid (show drawT l a q = [] from if_neg (by rw [hc0]; decide))
    have HV := Lib.hid (show drawR l a q = [] from if_neg (by rw [hc0]; decide))
    clear c4 hc0 ho
    go_enter Try.func52, Try.ntmps52
    go_wp2_with (first | (go_at_call 39; (with_reducible refine (C1.out _ (HR.out.keep (by (repeat' (first | (with_reducible exact Below.refl _ _) | (with_reducible assumption) | (with_reducible refine Below.alloc ?_ ?_ _) | (with_reducible refine Below.setCell ?_ ?_ _) | (with_reducible refine Below.drew ?_) | (with_reducible refine below_drewN ?_ _) | (with_reducible refine below_via ?_ (by with_reducible assumption) ?_) | omega | (simp; done) | (simp; omega)))))).mono ?_); rintro e w1 ⟨rfl, hb1⟩; obtain ⟨fc1, fg1, hc1, hf1, hz1⟩ := bget hb1; (try simp at hz1)) | (go_at_call 38; (with_reducible refine (C2.out _ (HR.out.keep (by (repeat' (first | (with_reducible exact Below.refl _ _) | (with_reducible assumption) | (with_reducible refine Below.alloc ?_ ?_ _) | (with_reducible refine Below.setCell ?_ ?_ _) | (with_reducible refine Below.drew ?_) | (with_reducible refine below_drewN ?_ _) | (with_reducible refine below_via ?_ (by with_reducible assumption) ?_) | omega | (simp; done) | (simp; omega)))))).mono ?_); rintro e w2 ⟨rfl, hb2⟩; obtain ⟨fc2, fg2, hc2, hf2, hz2⟩ := bget hb2; (try simp at hz2)) | (go_at_call 69; (with_reducible refine (wideOf q _ hq).mono ?_); rintro e w3 ⟨rfl, hb3⟩; obtain ⟨fc3, fg3, hc3, hf3, hz3⟩ := bget hb3; (try simp at hz3)) | (go_at_call 86; (with_reducible refine (C4.out _).mono ?_); rintro e w4 ⟨rfl, hb4⟩; obtain ⟨fc4, fg4, hc4, hf4, hz4⟩ := bget hb4; (try simp at hz4)) | fail)
    refine bodyPost_ret (v := .tuple #[.slice none 0 0, .slice none 0 0, .int .i64 (drawC l a q)]) (by rw [HQ.out]; simp [results, Try.results52, go_sem]; try rfl) rfl ⟨_, _, rfl, by rw [HT.out]; exact Own.nil _ _ _ _, by rw [HV.out]; exact Own.nil _ _ _ _, ?_⟩
    (repeat' (first | (with_reducible exact Below.refl _ _) | (with_reducible assumption) | (with_reducible refine Below.alloc ?_ ?_ _) | (with_reducible refine Below.setCell ?_ ?_ _) | (with_reducible refine Below.drew ?_) | (with_reducible refine below_drewN ?_ _) | (with_reducible refine below_via ?_ (by with_reducible assumption) ?_) | omega | (simp; done) | (simp; omega)))
  rw [if_neg h3] at hc0
  have d3 : decide (ord (sumL l a) q < 0) = false := by unfold ord; rw [if_neg h3]; split <;> simp
  generalize ord (sumL l a) q = oo at *
  have C4 := Lib.hid c4
  have HQ := Lib.hid hc0
  have HT := Lib.hid (show drawT l a q = (drawG a q l).1 from if_pos hc0)
  have HV := Lib.hid (show drawR l a q = (drawG a q l).2 from if_pos hc0)
  have HPOS := Lib.hid hpos
  have HIN := Lib.hid hin
  clear c4 hc0 h3 hpos hin
  go_enter Try.func52, Try.ntmps52
  go_wp2_with (first | (go_at_call 39; (with_reducible refine (C1.out _ (HR.out.keep (by (repeat' (first | (with_reducible exact Below.refl _ _) | (with_reducible assumption) | (with_reducible refine Below.alloc ?_ ?_ _) | (with_reducible refine Below.setCell ?_ ?_ _) | (with_reducible refine Below.drew ?_) | (with_reducible refine below_drewN ?_ _) | (with_reducible refine below_via ?_ (by with_reducible assumption) ?_) | omega | (simp; done) | (simp; omega)))))).mono ?_); rintro e w1 ⟨rfl, hb1⟩; obtain ⟨fc1, fg1, hc1, hf1, hz1⟩ := bget hb1; (try simp at hz1)) | (go_at_call 38; (with_reducible refine (C2.out _ (HR.out.keep (by (repeat' (first | (with_reducible exact Below.refl _ _) | (with_reducible assumption) | (with_reducible refine Below.alloc ?_ ?_ _) | (with_reducible refine Below.setCell ?_ ?_ _) | (with_reducible refine Below.drew ?_) | (with_reducible refine below_drewN ?_ _) | (with_reducible refine below_via ?_ (by with_reducible assumption) ?_) | omega | (simp; done) | (simp; omega)))))).mono ?_); rintro e w2 ⟨rfl, hb2⟩; obtain ⟨fc2, fg2, hc2, hf2, hz2⟩ := bget hb2; (try simp at hz2)) | (go_at_call 69; (with_reducible refine (wideOf q _ hq).mono ?_); rintro e w3 ⟨rfl, hb3⟩; obtain ⟨fc3, fg3, hc3, hf3, hz3⟩ := bget hb3; (try simp at hz3)) | (go_at_call 86; (with_reducible refine (C4.out _).mono ?_); rintro e w4 ⟨rfl, hb4⟩; obtain ⟨fc4, fg4, hc4, hf4, hz4⟩ := bget hb4; (try simp at hz4)) | fail)
  have hb0 : Below w.heap.size w w4 := by (repeat' (first | (with_reducible exact Below.refl _ _) | (with_reducible assumption) | (with_reducible refine Below.alloc ?_ ?_ _) | (with_reducible refine Below.setCell ?_ ?_ _) | (with_reducible refine Below.drew ?_) | (with_reducible refine below_drewN ?_ _) | (with_reducible refine below_via ?_ (by with_reducible assumption) ?_) | omega | (simp; done) | (simp; omega)))
  have Hb0 := Lib.hid hb0
  clear hb0
  go_loopw [2, 9, 10, 31] (fun qv u v i wr => ∃ (k : Nat) (z : Int) (T R : List Lot), k ≤ l.length ∧ i = .int .i64 k ∧ qv = .int .i64 z ∧ 0 ≤ z ∧ In64 z ∧ Own wr w4.heap.size 58 3 u (T.map encLot) ∧ Own wr w4.heap.size 58 3 v (R.map encLot) ∧ Apart u v ∧ (drawG a q l).1 = T ++ (drawG a z (l.drop k)).1 ∧ (drawG a q l).2 = R ++ (drawG a z (l.drop k)).2 ∧ T.length ≤ k ∧ R.length ≤ k ∧ Below w4.heap.size w4 wr) (fun _ _ _ i _ => l.length - (intOf i).toNat)
  case atStart => exact ⟨0, q, [], [], Nat.zero_le _, rfl, rfl, by omega, hq, Own.nil _ _ _ _, Own.nil _ _ _ _, fun g hg => by simp [Value.ownBlock] at hg, rfl, rfl, by simp, by simp, Below.refl _ _⟩
  case round =>
    obtain ⟨k, z, T, R, hk, rfl, rfl, hz0, hz64, hT, hR, hap, g1, g2, hTl, hRl, hbl⟩ := hrel
    have HoT := Lib.hid hT
    have HoR := Lib.hid hR
    have Hap := Lib.hid hap
    have Hbl := Lib.hid hbl
    have hz := hbl.size
    clear hT hR hap hbl hb1 hc1 hf1 hz1 hb2 hc2 hf2 hb3 hc3 hf3 hb4 hc4 hf4
    by_cases hlt : k < l.length
    · have kl : (k : Int) < (l.length : Int) := by omega
      have dl : decide ((k : Int) < (l.length : Int)) = true := by simpa using hlt
      rw [drop_cons' hlt] at g1 g2
      obtain ⟨b, o, rfl, hb, hc⟩ := HR.out k (encLot l[k]) (by simp [hlt])
      have hbx := Hb0.out.trans (Hbl.out.mono Hb0.out.size)
      have e0 := (hbx.cell (p := ⟨b, o + k * 3 + 0, none⟩) hb).trans (hc 0 _ rfl)
      have e1 := (hbx.cell (p := ⟨b, o + k * 3 + 1, none⟩) hb).trans (hc 1 _ rfl)
      have e2 := (hbx.cell (p := ⟨b, o + k * 3 + 2, none⟩) hb).trans (hc 2 _ rfl)
      simp only [Nat.add_zero] at e0
      have hps := HPOS.out l[k] (List.getElem_mem hlt)
      have hy64 := HIN.out l[k] (List.getElem_mem hlt)
      have hbw : b < wr.heap.size := Nat.lt_of_lt_of_le hb hbx.size
      clear hc hbx
      unfold In64 at hz64 hy64
      cases h1 : (l[k].asset == a)
      · have HP := Lib.hid (show partQ a z l[k] = 0 from by unfold partQ; rw [h1]; rfl)
        have G1 := Lib.hid (draw_step1 g1 HP.out (show z - (0) = z by omega))
        have G2 := Lib.hid (draw_step2 g2 HP.out (show z - (0) = z by omega) (show l[k].qty - (0) = l[k].qty by omega))
        have hl1 := addQ_len l[k] (0)
        have hl2 := addQ_len l[k] (l[k].qty)
        clear g1 g2
        go_wp2_with (first | (go_at_call 87; (with_reducible refine (lotWith T l[k] (0) u9 w4.heap.size _ (by omega) (by first | omega | (simp; done) | (simp; omega)) (HoT.out.alloc _)).mono ?_); rintro e w5 ⟨v5, rfl, hown5, hb5, hg5, hv5⟩; have n0 := (grown_cell hg5 (p := ⟨wr.heap.size, 0, none⟩) (by simp) (own_ne HoT.out)).trans (show _ = some (.int .i64 l[k].asset) by simp [go_sem]); have n1 := (grown_cell hg5 (p := ⟨wr.heap.size, 1, none⟩) (by simp) (own_ne HoT.out)).trans (show _ = some (.int .i64 l[k].tag) by simp [go_sem]); have n2 := (grown_cell hg5 (p := ⟨wr.heap.size, 2, none⟩) (by simp) (own_ne HoT.out)).trans (show _ = some (.int .i64 l[k].qty) by simp [go_sem]); have HoT5 := Lib.hid hown5; have HoR5 := Lib.hid ((HoR.out.alloc _).grown hg5 (fun g h1 h2 => Hap.out g h2 h1)); have Hap5 := Lib.hid (apart_next Hap.out HoR.out (Nat.le_succ _) (by simpa using hv5)); have hz5 := hb5.size; (try simp at hz5); have Hb5 := Lib.hid hb5; clear hown5 hb5 hg5 hv5) | (go_at_call 87; (with_reducible refine (lotWith R l[k] (l[k].qty) u10 w4.heap.size _ (by omega) (by first | omega | (simp; done) | (simp; omega)) ?_).mono ?_); (focus (first | exact HoR5.out | exact HoR5.out.drew)); rintro e w6 ⟨v6, rfl, hown6, hb6, hg6, hv6⟩; have HoR6 := Lib.hid hown6; have HoT6 := Lib.hid (HoT5.out.grown hg6 (fun g h1 h2 => Hap5.out g h1 h2)); have Hap6 := Lib.hid (apart_next2 Hap5.out HoT5.out (by simpa using hv6)); have Hb6 := Lib.hid hb6; have hz6 := hb6.size; clear hown6 hb6 hg6 hv6) | fail)
        go_roundw
        case rel => exact ⟨k + 1, z, T ++ addQ l[k] (0), R ++ addQ l[k] (l[k].qty), by omega, by go_num, by go_num, by omega, by unfold In64; omega, HoT6.out, HoR6.out, Hap6.out, G1.out, G2.out, by rw [List.length_append]; omega, by rw [List.length_append]; omega, by have h1 := Hbl.out; have h2 := Hb5.out; have h3 := Hb6.out; (repeat' (first | (with_reducible exact Below.refl _ _) | (with_reducible assumption) | (with_reducible refine Below.alloc ?_ ?_ _) | (with_reducible refine Below.setCell ?_ ?_ _) | (with_reducible refine Below.drew ?_) | (with_reducible refine below_drewN ?_ _) | (with_reducible refine below_via ?_ (by with_reducible assumption) ?_) | omega | (simp; done) | (simp; omega)))⟩
        case measure => simp [intOf]; omega
      · by_cases hm : l[k].qty < z
        · have HP := Lib.hid (show partQ a z l[k] = l[k].qty from by unfold partQ; rw [h1, if_pos rfl]; omega)
          have G1 := Lib.hid (draw_step1 g1 HP.out (show z - (l[k].qty) = z - l[k].qty by omega))
          have G2 := Lib.hid (draw_step2 g2 HP.out (show z - (l[k].qty) = z - l[k].qty by omega) (show l[k].qty - (l[k].qty) = 0 by omega))
          have hl1 := addQ_len l[k] (l[k].qty)
          have hl2 := addQ_len l[k] (0)
          clear g1 g2
          go_wp2_with (first | (go_at_call 87; (with_reducible refine (lotWith T l[k] (l[k].qty) u9 w4.heap.size _ (by omega) (by first | omega | (simp; done) | (simp; omega)) (HoT.out.alloc _)).mono ?_); rintro e w5 ⟨v5, rfl, hown5, hb5, hg5, hv5⟩; have n0 := (grown_cell hg5 (p := ⟨wr.heap.size, 0, none⟩) (by simp) (own_ne HoT.out)).trans (show _ = some (.int .i64 l[k].asset) by simp [go_sem]); have n1 := (grown_cell hg5 (p := ⟨wr.heap.size, 1, none⟩) (by simp) (own_ne HoT.out)).trans (show _ = some (.int .i64 l[k].tag) by simp [go_sem]); have n2 := (grown_cell hg5 (p := ⟨wr.heap.size, 2, none⟩) (by simp) (own_ne HoT.out)).trans (show _ = some (.int .i64 l[k].qty) by simp [go_sem]); have HoT5 := Lib.hid hown5; have HoR5 := Lib.hid ((HoR.out.alloc _).grown hg5 (fun g h1 h2 => Hap.out g h2 h1)); have Hap5 := Lib.hid (apart_next Hap.out HoR.out (Nat.le_succ _) (by simpa using hv5)); have hz5 := hb5.size; (try simp at hz5); have Hb5 := Lib.hid hb5; clear hown5 hb5 hg5 hv5) | (go_at_call 87; (with_reducible refine (lotWith R l[k] (0) u10 w4.heap.size _ (by omega) (by first | omega | (simp; done) | (simp; omega)) ?_).mono ?_); (focus (first | exact HoR5.out | exact HoR5.out.drew)); rintro e w6 ⟨v6, rfl, hown6, hb6, hg6, hv6⟩; have HoR6 := Lib.hid hown6; have HoT6 := Lib.hid (HoT5.out.grown hg6 (fun g h1 h2 => Hap5.out g h1 h2)); have Hap6 := Lib.hid (apart_next2 Hap5.out HoT5.out (by simpa using hv6)); have Hb6 := Lib.hid hb6; have hz6 := hb6.size; clear hown6 hb6 hg6 hv6) | fail)
          go_roundw
          case rel => exact ⟨k + 1, z - l[k].qty, T ++ addQ l[k] (l[k].qty), R ++ addQ l[k] (0), by omega, by go_num, by go_num, by omega, by unfold In64; omega, HoT6.out, HoR6.out, Hap6.out, G1.out, G2.out, by rw [List.length_append]; omega, by rw [List.length_append]; omega, by have h1 := Hbl.out; have h2 := Hb5.out; have h3 := Hb6.out; (repeat' (first | (with_reducible exact Below.refl _ _) | (with_reducible assumption) | (with_reducible refine Below.alloc ?_ ?_ _) | (with_reducible refine Below.setCell ?_ ?_ _) | (with_reducible refine Below.drew ?_) | (with_reducible refine below_drewN ?_ _) | (with_reducible refine below_via ?_ (by with_reducible assumption) ?_) | omega | (simp; done) | (simp; omega)))⟩
          case measure => simp [intOf]; omega
        · have HP := Lib.hid (show partQ a z l[k] = z from by unfold partQ; rw [h1, if_pos rfl]; omega)
          have G1 := Lib.hid (draw_step1 g1 HP.out (show z - (z) = 0 by omega))
          have G2 := Lib.hid (draw_step2 g2 HP.out (show z - (z) = 0 by omega) (show l[k].qty - (z) = l[k].qty - z by omega))
          have hl1 := addQ_len l[k] (z)
          have hl2 := addQ_len l[k] (l[k].qty - z)
          clear g1 g2
          go_wp2_with (first | (go_at_call 87; (with_reducible refine (lotWith T l[k] (z) u9 w4.heap.size _ (by omega) (by first | omega | (simp; done) | (simp; omega)) (HoT.out.alloc _)).mono ?_); rintro e w5 ⟨v5, rfl, hown5, hb5, hg5, hv5⟩; have n0 := (grown_cell hg5 (p := ⟨wr.heap.size, 0, none⟩) (by simp) (own_ne HoT.out)).trans (show _ = some (.int .i64 l[k].asset) by simp [go_sem]); have n1 := (grown_cell hg5 (p := ⟨wr.heap.size, 1, none⟩) (by simp) (own_ne HoT.out)).trans (show _ = some (.int .i64 l[k].tag) by simp [go_sem]); have n2 := (grown_cell hg5 (p := ⟨wr.heap.size, 2, none⟩) (by simp) (own_ne HoT.out)).trans (show _ = some (.int .i64 l[k].qty) by simp [go_sem]); have HoT5 := Lib.hid hown5; have HoR5 := Lib.hid ((HoR.out.alloc _).grown hg5 (fun g h1 h2 => Hap.out g h2 h1)); have Hap5 := Lib.hid (apart_next Hap.out HoR.out (Nat.le_succ _) (by simpa using hv5)); have hz5 := hb5.size; (try simp at hz5); have Hb5 := Lib.hid hb5; clear hown5 hb5 hg5 hv5) | (go_at_call 87; (with_reducible refine (lotWith R l[k] (l[k].qty - z) u10 w4.heap.size _ (by omega) (by first | omega | (simp; done) | (simp; omega)) ?_).mono ?_); (focus (first | exact HoR5.out | exact HoR5.out.drew)); rintro e w6 ⟨v6, rfl, hown6, hb6, hg6, hv6⟩; have HoR6 := Lib.hid hown6; have HoT6 := Lib.hid (HoT5.out.grown hg6 (fun g h1 h2 => Hap5.out g h1 h2)); have Hap6 := Lib.hid (apart_next2 Hap5.out HoT5.out (by simpa using hv6)); have Hb6 := Lib.hid hb6; have hz6 := hb6.size; clear hown6 hb6 hg6 hv6) | fail)
          go_roundw
          case rel => exact ⟨k + 1, 0, T ++ addQ l[k] (z), R ++ addQ l[k] (l[k].qty - z), by omega, by go_num, by go_num, by omega, by unfold In64; omega, HoT6.out, HoR6.out, Hap6.out, G1.out, G2.out, by rw [List.length_append]; omega, by rw [List.length_append]; omega, by have h1 := Hbl.out; have h2 := Hb5.out; have h3 := Hb6.out; (repeat' (first | (with_reducible exact Below.refl _ _) | (with_reducible assumption) | (with_reducible refine Below.alloc ?_ ?_ _) | (with_reducible refine Below.setCell ?_ ?_ _) | (with_reducible refine Below.drew ?_) | (with_reducible refine below_drewN ?_ _) | (with_reducible refine below_via ?_ (by with_reducible assumption) ?_) | omega | (simp; done) | (simp; omega)))⟩
          case measure => simp [intOf]; omega
    · have dl : decide ((k : Int) < (l.length : Int)) = false := by simpa using hlt
      rw [List.drop_eq_nil_of_le (by omega)] at g1 g2
      have G1 := Lib.hid (show (drawG a q l).1 = T from by rw [g1]; simp [drawG])
      have G2 := Lib.hid (show (drawG a q l).2 = R from by rw [g2]; simp [drawG])
      clear g1 g2
      go_wp2_with fail
      refine bodyPost_ret (v := .tuple #[u9, u10, .int .i64 (drawC l a q)]) (by rw [HQ.out]; simp [results, Try.results52, go_sem]; try rfl) rfl ⟨_, _, rfl, by rw [HT.out, G1.out]; exact HoT.out.mono Hb0.out.size, by rw [HV.out, G2.out]; exact HoR.out.mono Hb0.out.size, ?_⟩
      exact Hb0.out.trans (Hbl.out.mono Hb0.out.size)
end Go.Proofs.Ytemhhojenocddaa
