/- Contracts of vec.Gross, With, Same. -/
import Derived.Test.YtffmljkpbgohkaaVec3
import Derived.Outline
namespace Go.Proofs.Ytffmljkpbgohkaa
open Go.RowKit
def absL (l : List Leg) : List Int := l.map fun x => iabs x.qty
def absF (l : List Leg) : Bool := l.all fun x => in64 (iabs x.qty)
def grossC (l : List Leg) : Int := if isV l then (if absF l then (if in64 (absL l).sum then 0 else 7) else 7) else 3
def grossN (l : List Leg) : Int := if isV l then (if absF l then (if in64 (absL l).sum then (absL l).sum else 0) else 0) else 0
set_option maxRecDepth 100000 in
set_option maxHeartbeats 4000000 in
theorem vecGross (l : List Leg) (A : Option Addr) (c : Nat) (w : World) (hl : l.length ≤ 1099511627776) (h64 : Legs64 l) (hr : Rd w A 2 (l.map encLeg)) :
    Calls Try.prog 40 #[.slice A l.length c] w fun e w' => e = .returned (.tuple #[.int .i64 (grossN l), .int .i64 (grossC l)]) ∧ Below w.heap.size w w' := by
  have HR := Lib.hid hr
  have H64 := Lib.hid h64
  have c1 := fun W (h : Rd W A 2 (l.map encLeg)) => vecNone l A c W hl h
  clear hr h64
  cases hv : isV l
  · rw [hv] at c1
    have HC := Lib.hid (show grossC l = 3 from by unfold grossC; rw [hv]; rfl)
    have HA := Lib.hid (show grossN l = 0 from by unfold grossN; rw [hv]; rfl)
    have C1 := Lib.hid c1
    clear c1 hv
    go_enter Try.func40, Try.ntmps40
    go_wp2_with (go_at_call 59; (with_reducible refine (C1.out _ HR.out).mono ?_); rintro e w1 ⟨rfl, hb1⟩; obtain ⟨fc1, fg1, hc1, hf1, hz1⟩ := bget hb1; try simp at hz1)
    go_ret2
    exact ⟨by rw [HC.out, HA.out]; rfl, by (repeat' (first | (with_reducible exact Below.refl _ _) | (with_reducible assumption) | (with_reducible refine Below.alloc ?_ ?_ _) | (with_reducible refine Below.setCell ?_ ?_ _) | (with_reducible refine Below.drew ?_) | (with_reducible refine below_drewN ?_ _) | (with_reducible refine below_via ?_ (by with_reducible assumption) ?_) | omega | (simp; done) | (simp; omega)))⟩
  rw [hv] at c1
  have HC := Lib.hid (show grossC l = if absF l then (if in64 (absL l).sum then 0 else 7) else 7 from by unfold grossC; rw [hv]; rfl)
  have HA := Lib.hid (show grossN l = if absF l then (if in64 (absL l).sum then (absL l).sum else 0) else 0 from by unfold grossN; rw [hv]; rfl)
  have C1 := Lib.hid c1
  clear c1 hv
  go_enter Try.func40, Try.ntmps40
  go_wp2_with (go_at_call 59; (with_reducible refine (C1.out _ HR.out).mono ?_); rintro e w1 ⟨rfl, hb1⟩; obtain ⟨fc1, fg1, hc1, hf1, hz1⟩ := bget hb1; try simp at hz1)
  have Hb1 := Lib.hid hb1
  clear hc1 hf1 hb1
  go_loopw [4, 13] (fun v i wr => ∃ k : Nat, k ≤ l.length ∧ i = .int .i64 k ∧ (absF l = absF (l.drop k) ∧ absF (l.take k) = true) ∧ Own wr w.heap.size 2 1 v ((absL (l.take k)).map encI) ∧ Below w.heap.size w wr) (fun _ i _ => l.length - (intOf i).toNat)
  case atStart => exact ⟨0, Nat.zero_le _, rfl, ⟨rfl, rfl⟩, Own.nil _ _ _ _, Hb1.out⟩
  case round =>
    obtain ⟨k, hk, rfl, hv, hown, hbl⟩ := hrel
    have Hown := Lib.hid hown
    clear hown
    have Hbl := Lib.hid hbl
    have HV := Lib.hid hv
    have hz := hbl.size
    clear hbl hv
    by_cases hlt : k < l.length
    · obtain ⟨be, oe, rfl, hbe, hqe⟩ := HR.out k (encLeg l[k]) (by simp [hlt])
      replace hqe := fun j v hv => (Hbl.out.cell (p := ⟨be, oe + k * 2 + j, none⟩) hbe).trans (hqe j v hv)
      have e0 := hqe 0 _ rfl
      have e1 := hqe 1 _ rfl
      simp only [Nat.add_zero] at e0
      clear hqe
      have HD := Lib.hid (drop_cons' hlt)
      have hq := H64.out l[k] (List.getElem_mem hlt)
      have HS : Hid ((absL (l.take (k + 1))).map encI = (absL (l.take k)).map encI ++ [encI (iabs l[k].qty)]) := by
        unfold Hid absL; rw [map_snoc hlt]; simp
      have hlen : ((absL (l.take k)).map encI).length ≤ k := by unfold absL; simp; omega
      cases hm : in64 (iabs l[k].qty)
      · have HM := Lib.hid (in64_no hm)
        have HN : Hid (absF (l[k] :: l.drop (k + 1)) = false) := by unfold Hid absF; simp only [List.all_cons]; rw [hm]; rfl
        clear hm
        go_wp2_with (go_at_call 71; (with_reducible refine (fixAbsNo l[k].qty _ hq HM.out).mono ?_); rintro e w2 ⟨rfl, hb2⟩; have hz2 := hb2.size; have Hb2 := Lib.hid hb2; clear hb2)
        go_ret2
        exact ⟨by rw [HC.out, HA.out, HV.out.1, HD.out, HN.out]; rfl, by (have hbl := Hbl.out; have hb2 := Hb2.out; (repeat' (first | (with_reducible exact Below.refl _ _) | (with_reducible assumption) | (with_reducible refine Below.alloc ?_ ?_ _) | (with_reducible refine Below.setCell ?_ ?_ _) | (with_reducible refine Below.drew ?_) | (with_reducible refine below_drewN ?_ _) | (with_reducible refine below_via ?_ (by with_reducible assumption) ?_) | omega | (simp; done) | (simp; omega))))⟩
      · have HM := Lib.hid (in64_iff.1 hm)
        have HN : Hid (absF (l[k] :: l.drop (k + 1)) = absF (l.drop (k + 1))) := by unfold Hid absF; simp only [List.all_cons]; rw [hm]; rfl
        have HT : Hid (absF (l.take (k + 1)) = true) := by
          unfold Hid; rw [List.take_succ_eq_append_getElem hlt]; unfold absF; rw [List.all_append]
          have := HV.out.2; unfold absF at this; rw [this]; simp [hm]
        clear hm
        obtain ⟨n, hn⟩ : ∃ n, n = iabs l[k].qty := ⟨_, rfl⟩
        have c2 := fun W => fixAbsYes l[k].qty W hq HM.out
        rw [← hn] at HS c2
        have C2 := Lib.hid c2
        clear hn c2
        go_wp2_with (first | (go_at_call 71; (with_reducible refine (C2.out _).mono ?_); rintro e w2 ⟨rfl, hb2⟩; obtain ⟨fc2, fg2, hc2, hf2, hz2⟩ := bget hb2; (try simp at hz2); have Hb2 := Lib.hid hb2; clear hb2) | (at_builtin; refine wpList_app rfl _ _ _ rfl elI w.heap.size _ _ rfl (((Hown.out.alloc _).keep Hb2.out).alloc _) (some ⟨w2.heap.size, 0, none⟩) 1 1 rfl [encI n] rfl (fun h => by cases h) rd_one (rowsI [n]) (by unfold maxLen; first | (simp; done) | omega | (simp; omega)) (by first | (simp; done) | omega | (simp; omega)) (by first | omega | (simp; done) | (simp; omega)) ?_; intro v' w3 hown3 hb3))
        go_roundw
        case rel => exact ⟨k + 1, by omega, by go_num, ⟨by rw [HV.out.1, HD.out, HN.out], HT.out⟩, by rw [HS.out]; exact hown3, by have hbl := Hbl.out; have hb2 := Hb2.out; (repeat' (first | (with_reducible exact Below.refl _ _) | (with_reducible assumption) | (with_reducible refine Below.alloc ?_ ?_ _) | (with_reducible refine Below.setCell ?_ ?_ _) | (with_reducible refine Below.drew ?_) | (with_reducible refine below_drewN ?_ _) | (with_reducible refine below_via ?_ (by with_reducible assumption) ?_) | omega | (simp; done) | (simp; omega)))⟩
        case measure => simp [intOf]; omega
    · have hT := List.take_of_length_le (show l.length ≤ k by omega)
      have ho := Hown.out
      have hv2 := HV.out.2
      rw [hT] at ho hv2
      obtain ⟨A', c', rfl, _, _, hr', _⟩ := ho.shape
      have Hr' := Lib.hid hr'
      have I64 : Hid (∀ n ∈ absL l, In64 n) := by
        intro n hn
        obtain ⟨x, hx, rfl⟩ := List.mem_map.1 hn
        unfold absF at hv2
        exact in64_iff.1 (List.all_eq_true.1 hv2 x hx)
      have HV2 := Lib.hid hv2
      obtain ⟨is, his⟩ : ∃ is, is = absL l := ⟨_, rfl⟩
      have hisl : is.length = l.length := by rw [his]; unfold absL; rw [List.length_map]
      have lis : is.length ≤ 1099511627776 := by omega
      rw [← his] at Hr' HC HA I64
      rw [← his]
      clear hT ho hv2 hr' his hisl
      simp only [List.length_map]
      cases hs : in64 is.sum
      · have N64 := Lib.hid (in64_no hs)
        have HSF := Lib.hid hs
        clear hs
        go_wp2_with (go_at_call 60; (with_reducible refine (fixSumNo is A' c' _ lis I64.out Hr'.out N64.out).mono ?_); rintro e w2 ⟨rfl, hb2⟩; have hz2 := hb2.size; have Hb2 := Lib.hid hb2; clear hb2)
        go_ret2
        exact ⟨by rw [HC.out, HA.out, HV2.out, HSF.out]; rfl, by (have hbl := Hbl.out; have hb2 := Hb2.out; (repeat' (first | (with_reducible exact Below.refl _ _) | (with_reducible assumption) | (with_reducible refine Below.alloc ?_ ?_ _) | (with_reducible refine Below.setCell ?_ ?_ _) | (with_reducible refine Below.drew ?_) | (with_reducible refine below_drewN ?_ _) | (with_reducible refine below_via ?_ (by with_reducible assumption) ?_) | omega | (simp; done) | (simp; omega))))⟩
      · have N64 := Lib.hid (in64_iff.1 hs)
        have HSF := Lib.hid hs
        clear hs
        go_wp2_with (go_at_call 60; (with_reducible refine (fixSumYes is A' c' _ lis I64.out Hr'.out N64.out).mono ?_); rintro e w2 ⟨rfl, hb2⟩; have hz2 := hb2.size; have Hb2 := Lib.hid hb2; clear hb2)
        go_ret2
        exact ⟨by rw [HC.out, HA.out, HV2.out, HSF.out]; rfl, by (have hbl := Hbl.out; have hb2 := Hb2.out; (repeat' (first | (with_reducible exact Below.refl _ _) | (with_reducible assumption) | (with_reducible refine Below.alloc ?_ ?_ _) | (with_reducible refine Below.setCell ?_ ?_ _) | (with_reducible refine Below.drew ?_) | (with_reducible refine below_drewN ?_ _) | (with_reducible refine below_via ?_ (by with_reducible assumption) ?_) | omega | (simp; done) | (simp; omega))))⟩
theorem rss_two {α : Type} {k : Nat} {enc : α → List Value} {W : World} {g : Nat} {v1 v2 : Value} {l1 l2 : List α} (h1 : IsSl k enc W v1 l1) (h2 : IsSl k enc W v2 l2) (hg : g < W.heap.size) (c1 : W.cell? ⟨g, 0, none⟩ = some v1) (c2 : W.cell? ⟨g, 1, none⟩ = some v2) : RsS k enc W [l1, l2] (some ⟨g, 0, none⟩) 2 := by
  refine ⟨⟨[v1, v2], ⟨rfl, fun i a b ha hb => ?_⟩, ⟨fun i r hr => ⟨g, 0, rfl, hg, fun j v hv => ?_⟩, by simp, by unfold maxLen; omega, fun e => by cases e⟩⟩⟩
  · match i with
    | 0 => simp at ha hb; subst ha hb; exact h1
    | 1 => simp at ha hb; subst ha hb; exact h2
    | i + 2 => simp at ha
  · match i with
    | 0 =>
      simp [enc1] at hr; subst hr
      match j with
      | 0 => simp at hv; subst hv; simpa using c1
      | j + 1 => simp at hv
    | 1 =>
      simp [enc1] at hr; subst hr
      match j with
      | 0 => simp at hv; subst hv; simpa using c2
      | j + 1 => simp at hv
    | i + 2 => simp at hr
theorem vecAdd2 (l1 l2 : List Leg) (g : Nat) (w : World) (v1 v2 : Value) (h1 : l1.length ≤ 1099511627776) (h2 : l2.length ≤ 1099511627776) (q1 : Legs64 l1) (q2 : Legs64 l2) (r1 : IsSl 2 encLeg w v1 l1) (r2 : IsSl 2 encLeg w v2 l2) (hg : g < w.heap.size) (c1 : w.cell? ⟨g, 0, none⟩ = some v1) (c2 : w.cell? ⟨g, 1, none⟩ = some v2) :
    Calls Try.prog 18 #[.slice (some ⟨g, 0, none⟩) 2 2] w (LegsPost w (addC [l1, l2]) (addL [l1, l2])) :=
  vecAdd [l1, l2] (some ⟨g, 0, none⟩) 2 w ⟨by simp, by simp [h1, h2]⟩ (by simp [q1, q2]) (rss_two r1 r2 hg c1 c2)
theorem isl_one {w : World} (g : Nat) (x : Leg) (hg : g < w.heap.size) (c0 : w.cell? ⟨g, 0, none⟩ = some (.int .i64 x.inst)) (c1 : w.cell? ⟨g, 1, none⟩ = some (.int .i64 x.qty)) : IsSl 2 encLeg w (.slice (some ⟨g, 0, none⟩) 1 1) [x] := by
  refine ⟨some ⟨g, 0, none⟩, 1, rfl, ⟨fun i r hr => ⟨g, 0, rfl, hg, fun j v hv => ?_⟩, by simp, by unfold maxLen; omega, fun e => by cases e⟩⟩
  match i with
  | 0 =>
    simp [encLeg] at hr; subst hr
    match j with
    | 0 => simp at hv; subst hv; simpa using c0
    | 1 => simp at hv; subst hv; simpa using c1
    | j + 2 => simp at hv
  | i + 1 => simp at hr
def withLs (l : List Leg) (x : Leg) : List (List Leg) := if x.qty = 0 then [l, []] else [l, [x]]
def withC (l : List Leg) (x : Leg) : Int := if x.qty = 0 ∧ (x.inst < 1 ∨ 8 < x.inst) then 3 else addC (withLs l x)
def withL (l : List Leg) (x : Leg) : List Leg := if x.qty = 0 ∧ (x.inst < 1 ∨ 8 < x.inst) then [] else addL (withLs l x)
set_option maxRecDepth 100000 in
set_option maxHeartbeats 4000000 in
theorem vecWith (l : List Leg) (x : Leg) (A : Option Addr) (c : Nat) (w : World) (hl : l.length ≤ 1099511627776) (h64 : Legs64 l) (hx : In64 x.qty) (hr : Rs w 2 (l.map encLeg) A c) :
    Calls Try.prog 42 #[.slice A l.length c, .agg #[.int .i64 x.inst, .int .i64 x.qty]] w (LegsPost w (withC l x) (withL l x)) := by
  have HR := Lib.hid hr
  have H64 := Lib.hid h64
  clear hr h64
  cases hq : (x.qty == 0)
  · have hne : x.qty ≠ 0 := by simpa using hq
    have HC := Lib.hid (show withC l x = addC [l, [x]] from by unfold withC withLs; rw [if_neg (fun h => hne h.1), if_neg hne])
    have HA := Lib.hid (show withL l x = addL [l, [x]] from by unfold withL withLs; rw [if_neg (fun h => hne h.1), if_neg hne])
    have hx1 : Legs64 [x] := by intro y hy; simp at hy; subst hy; exact hx
    have HX := Lib.hid hx1
    clear hne hx1
    go_enter Try.func42, Try.ntmps42
    go_wp2_with (go_at_call 18; (with_reducible refine (vecAdd2 l [x] _ _ (.slice A l.length c) (.slice (some ⟨w.heap.size + 1, 0, none⟩) 1 1) hl ?_ H64.out HX.out ?_ ?_ ?_ ?_ ?_).mono ?_); exact (by simp); exact isl (HR.out.keep (by (repeat' (first | (with_reducible exact Below.refl _ _) | (with_reducible assumption) | (with_reducible refine Below.alloc ?_ ?_ _) | (with_reducible refine Below.setCell ?_ ?_ _) | (with_reducible refine Below.drew ?_) | (with_reducible refine below_drewN ?_ _) | (with_reducible refine below_via ?_ (by with_reducible assumption) ?_) | omega | (simp; done) | (simp; omega))))); exact isl_one (w.heap.size + 1) x (by first | omega | (simp; done) | (simp; omega)) (by simp [go_sem]) (by simp [go_sem]); exact (by simp); exact (by simp [go_sem]); exact (by simp [go_sem]); rintro e w2 ⟨v, rfl, hown, hb2⟩)
    go_ret2
    exact ⟨_, by rw [HC.out]; first | done | rfl, by rw [HA.out]; exact hown.mono (by first | omega | (simp; done) | (simp; omega)), by (repeat' (first | (with_reducible exact Below.refl _ _) | (with_reducible assumption) | (with_reducible refine Below.alloc ?_ ?_ _) | (with_reducible refine Below.setCell ?_ ?_ _) | (with_reducible refine Below.drew ?_) | (with_reducible refine below_drewN ?_ _) | (with_reducible refine below_via ?_ (by with_reducible assumption) ?_) | omega | (simp; done) | (simp; omega)))⟩
  · have hne : x.qty = 0 := by simpa using hq
    by_cases hb : x.inst < 1 ∨ 8 < x.inst
    · have HC := Lib.hid (show withC l x = 3 from by unfold withC; rw [if_pos ⟨hne, hb⟩])
      have HA := Lib.hid (show withL l x = [] from by unfold withL; rw [if_pos ⟨hne, hb⟩])
      clear hne
      by_cases h1 : x.inst < 1
      · have d1 := decide_eq_true h1
        go_enter Try.func42, Try.ntmps42
        go_wp2_with fail
        go_ret2
        exact ⟨_, by rw [HC.out]; rfl, by rw [HA.out]; exact Own.nil _ _ _ _, by (repeat' (first | (with_reducible exact Below.refl _ _) | (with_reducible assumption) | (with_reducible refine Below.alloc ?_ ?_ _) | (with_reducible refine Below.setCell ?_ ?_ _) | (with_reducible refine Below.drew ?_) | (with_reducible refine below_drewN ?_ _) | (with_reducible refine below_via ?_ (by with_reducible assumption) ?_) | omega | (simp; done) | (simp; omega)))⟩
      · have d1 := decide_eq_false h1
        have d2 : decide (8 < x.inst) = true := by simp; omega
        go_enter Try.func42, Try.ntmps42
        go_wp2_with fail
        go_ret2
        exact ⟨_, by rw [HC.out]; rfl, by rw [HA.out]; exact Own.nil _ _ _ _, by (repeat' (first | (with_reducible exact Below.refl _ _) | (with_reducible assumption) | (with_reducible refine Below.alloc ?_ ?_ _) | (with_reducible refine Below.setCell ?_ ?_ _) | (with_reducible refine Below.drew ?_) | (with_reducible refine below_drewN ?_ _) | (with_reducible refine below_via ?_ (by with_reducible assumption) ?_) | omega | (simp; done) | (simp; omega)))⟩
    · have HC := Lib.hid (show withC l x = addC [l, []] from by unfold withC withLs; rw [if_neg (fun h => hb h.2), if_pos hne])
      have HA := Lib.hid (show withL l x = addL [l, []] from by unfold withL withLs; rw [if_neg (fun h => hb h.2), if_pos hne])
      have d1 : decide (x.inst < 1) = false := by simp; omega
      have d2 : decide (8 < x.inst) = false := by simp; omega
      clear hne
      go_enter Try.func42, Try.ntmps42
      go_wp2_with (go_at_call 18; (with_reducible refine (vecAdd2 l [] _ _ (.slice A l.length c) (.slice none 0 0) hl ?_ H64.out ?_ ?_ (IsSl.empty _ _ _) ?_ ?_ ?_).mono ?_); exact (by simp); exact (by intro y hy; cases hy); exact isl (HR.out.keep (by (repeat' (first | (with_reducible exact Below.refl _ _) | (with_reducible assumption) | (with_reducible refine Below.alloc ?_ ?_ _) | (with_reducible refine Below.setCell ?_ ?_ _) | (with_reducible refine Below.drew ?_) | (with_reducible refine below_drewN ?_ _) | (with_reducible refine below_via ?_ (by with_reducible assumption) ?_) | omega | (simp; done) | (simp; omega))))); exact (by simp); exact (by simp [go_sem]); exact (by simp [go_sem]); rintro e w2 ⟨v, rfl, hown, hb2⟩)
      go_ret2
      exact ⟨_, by rw [HC.out]; first | done | rfl, by rw [HA.out]; exact hown.mono (by first | omega | (simp; done) | (simp; omega)), by (repeat' (first | (with_reducible exact Below.refl _ _) | (with_reducible assumption) | (with_reducible refine Below.alloc ?_ ?_ _) | (with_reducible refine Below.setCell ?_ ?_ _) | (with_reducible refine Below.drew ?_) | (with_reducible refine below_drewN ?_ _) | (with_reducible refine below_via ?_ (by with_reducible assumption) ?_) | omega | (simp; done) | (simp; omega)))⟩
set_option maxRecDepth 100000 in
set_option maxHeartbeats 4000000 in
theorem legEqual (l m : List Leg) (A B : Option Addr) (c d : Nat) (w : World) (hl : l.length ≤ 1099511627776) (_hm : m.length ≤ 1099511627776) (ha : Rd w A 2 (l.map encLeg)) (hb : Rd w B 2 (m.map encLeg)) :
    Calls Try.prog 68 #[.slice A l.length c, .slice B m.length d] w fun e w' => e = .returned (.bool (decide (l = m))) ∧ Below w.heap.size w w' := by
  have HA := Lib.hid ha
  have HB := Lib.hid hb
  clear ha hb
  cases hlen : ((l.length : Int) == (m.length : Int))
  · have hne : l.length ≠ m.length := by intro e; rw [e] at hlen; simp at hlen
    have HE := Lib.hid (show decide (l = m) = false from by simp; intro e; exact hne (by rw [e]))
    clear hne
    go_enter Try.func68, Try.ntmps68
    go_wp2_with fail
    go_ret
    exact ⟨by rw [HE.out]; rfl, by (repeat' (first | (with_reducible exact Below.refl _ _) | (with_reducible assumption) | (with_reducible refine Below.alloc ?_ ?_ _) | (with_reducible refine Below.setCell ?_ ?_ _) | (with_reducible refine Below.drew ?_) | (with_reducible refine below_drewN ?_ _) | (with_reducible refine below_via ?_ (by with_reducible assumption) ?_) | omega | (simp; done) | (simp; omega)))⟩
  · have hne : l.length = m.length := by have := eq_of_beq hlen; omega
    have HNE := Lib.hid hne
    have hne1 : l.length ≤ m.length ∧ m.length ≤ l.length := by omega
    have hlen2 : ((l.length : Int) != (m.length : Int)) = false := by simp only [bne, hlen]; rfl
    clear hne
    go_enter Try.func68, Try.ntmps68
    go_wp2_with fail
    go_loopw [13] (fun i wr => ∃ k : Nat, k ≤ l.length ∧ i = .int .i64 k ∧ (l = m ↔ l.drop k = m.drop k) ∧ Below w.heap.size w wr) (fun i _ => l.length - (intOf i).toNat)
    case atStart => exact ⟨0, Nat.zero_le _, rfl, Iff.rfl, Below.refl _ _⟩
    case round =>
      obtain ⟨k, hk, rfl, hv, hbl⟩ := hrel
      have Hbl := Lib.hid hbl
      have HV := Lib.hid hv
      have hz := hbl.size
      clear hbl hv
      by_cases hlt : k < l.length
      · have hlt2 : k < m.length := by omega
        have HD := Lib.hid (drop_cons' hlt)
        have HD2 := Lib.hid (drop_cons' hlt2)
        obtain ⟨be, oe, rfl, hbe, hqe⟩ := HA.out k (encLeg l[k]) (by simp [hlt])
        replace hqe := fun j v hv => (Hbl.out.cell (p := ⟨be, oe + k * 2 + j, none⟩) hbe).trans (hqe j v hv)
        have e0 := hqe 0 _ rfl
        have e1 := hqe 1 _ rfl
        simp only [Nat.add_zero] at e0
        clear hqe
        obtain ⟨bf, of, rfl, hbf, hqf⟩ := HB.out k (encLeg m[k]) (by simp [hlt2])
        replace hqf := fun j v hv => (Hbl.out.cell (p := ⟨bf, of + k * 2 + j, none⟩) hbf).trans (hqf j v hv)
        have f0 := hqf 0 _ rfl
        have f1 := hqf 1 _ rfl
        simp only [Nat.add_zero] at f0
        clear hqf
        by_cases he : l[k] = m[k]
        · rw [← he] at f0 f1
          have HE := Lib.hid he
          clear he
          go_wp2_with fail
          go_quiet (fail)
          go_wp2_with fail
          go_roundw
          case rel => exact ⟨k + 1, by omega, by go_num, by rw [HV.out, HD.out, HD2.out, HE.out]; simp only [List.cons.injEq, true_and], by (have hbl := Hbl.out; (repeat' (first | (with_reducible exact Below.refl _ _) | (with_reducible assumption) | (with_reducible refine Below.alloc ?_ ?_ _) | (with_reducible refine Below.setCell ?_ ?_ _) | (with_reducible refine Below.drew ?_) | (with_reducible refine below_drewN ?_ _) | (with_reducible refine below_via ?_ (by with_reducible assumption) ?_) | omega | (simp; done) | (simp; omega))))⟩
          case measure => simp [intOf]; omega
        · have HE := Lib.hid (show decide (l = m) = false from by rw [decide_eq_false_iff_not, HV.out, HD.out, HD2.out]; intro e; injection e with e _; exact he e)
          have hf : ((l[k].inst == m[k].inst) = false) ∨ ((l[k].qty == m[k].qty) = false) := by
            cases h1 : (l[k].inst == m[k].inst) <;> cases h2 : (l[k].qty == m[k].qty) <;> simp_all
            apply he
            cases hx : l[k]; cases hy : m[k]; simp_all
          clear he
          rcases hf with hf | hf
          all_goals
            go_wp2_with fail
            go_quiet (fail)
            go_wp2_with fail
            go_ret
            exact ⟨by rw [HE.out]; rfl, by (have hbl := Hbl.out; (repeat' (first | (with_reducible exact Below.refl _ _) | (with_reducible assumption) | (with_reducible refine Below.alloc ?_ ?_ _) | (with_reducible refine Below.setCell ?_ ?_ _) | (with_reducible refine Below.drew ?_) | (with_reducible refine below_drewN ?_ _) | (with_reducible refine below_via ?_ (by with_reducible assumption) ?_) | omega | (simp; done) | (simp; omega))))⟩
      · have HE := Lib.hid (show decide (l = m) = true from by rw [decide_eq_true_eq, HV.out, drop_all (by omega), drop_all (by have := HNE.out; omega)])
        go_wp2_with fail
        go_ret
        exact ⟨by rw [HE.out]; rfl, Hbl.out⟩
end Go.Proofs.Ytffmljkpbgohkaa
