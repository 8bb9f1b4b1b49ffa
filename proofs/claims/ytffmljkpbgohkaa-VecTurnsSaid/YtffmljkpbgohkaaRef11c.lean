/- Contracts of the reference's Same (11), the law's Few, several, lives. -/
import Derived.Test.YtffmljkpbgohkaaRef11b
import Derived.Test.YtffmljkpbgohkaaVec4
import Derived.Outline
namespace Go.Proofs.Ytffmljkpbgohkaa
open Go.RowKit
set_option maxRecDepth 100000 in
set_option maxHeartbeats 1000000 in
theorem ref11Same (l : List Leg) (A B : Option Addr) (c d : Nat) (w : World) (hl : l.length ≤ 1099511627776) (ha : Rd w A 2 (l.map encLeg)) (hb : Rd w B 2 (l.map encLeg)) :
    Calls Try.prog 20 #[.slice A l.length c, .slice B l.length d] w fun e w' => e = .returned (.bool true) ∧ Below w.heap.size w w' := by
  have HA := Lib.hid ha
  have HB := Lib.hid hb
  clear ha hb
  go_enter Try.func20, Try.ntmps20
  go_wp2_with fail
  go_loopw [5] (fun i wr => ∃ k : Nat, k ≤ l.length ∧ i = .int .i64 k ∧ ∃ n, wr = w.drewN n) (fun i _ => l.length - (intOf i).toNat)
  case atStart => exact ⟨0, Nat.zero_le _, rfl, 0, rfl⟩
  case round =>
    obtain ⟨k, hk, rfl, nn, rfl⟩ := hrel
    by_cases hlt : k < l.length
    · have kl : (k : Int) < (l.length : Int) := by omega
      obtain ⟨b1, o1, rfl, hb1, hc1⟩ := HA.out k (encLeg l[k]) (by simp [hlt])
      obtain ⟨b2, o2, rfl, hb2, hc2⟩ := HB.out k (encLeg l[k]) (by simp [hlt])
      have e0 := hc1 0 _ rfl
      have e1 := hc1 1 _ rfl
      have f0 := hc2 0 _ rfl
      have f1 := hc2 1 _ rfl
      simp only [Nat.add_zero] at e0 f0
      clear hc1 hc2
      go_wp2_with fail
      go_quiet (fail)
      go_wp2_with fail
      go_roundw
      case rel => exact ⟨k + 1, by omega, by go_num, _, rfl⟩
      case measure => simp [intOf]; omega
    · go_wp2_with fail
      go_ret
      exact ⟨rfl, by (repeat' (first | (with_reducible exact Below.refl _ _) | (with_reducible assumption) | (with_reducible refine Below.alloc ?_ ?_ _) | (with_reducible refine Below.setCell ?_ ?_ _) | (with_reducible refine Below.drew ?_) | (with_reducible refine below_drewN ?_ _) | (with_reducible refine below_via ?_ (by with_reducible assumption) ?_) | omega | (simp; done) | (simp; omega)))⟩
theorem Rs.takeL {α : Type} {enc : α → List Value} {w : World} {k : Nat} {l : List α} {A : Option Addr} {c : Nat} (h : Rs w k (l.map enc) A c) (n : Nat) : Rs w k ((l.take n).map enc) A c := by
  rw [List.map_take]; exact h.take n
theorem Rs.addr {w : World} {k : Nat} {rows : List (List Value)} {A : Option Addr} {c : Nat} (h : Rs w k rows A c) (h0 : 0 < rows.length) : ∃ b o, A = some ⟨b, o, none⟩ ∧ b < w.heap.size := by
  obtain ⟨b, o, hA, hb, _⟩ := h.rd 0 rows[0] (List.getElem?_eq_getElem h0)
  exact ⟨b, o, hA, hb⟩
set_option maxRecDepth 100000 in
set_option maxHeartbeats 1000000 in
theorem law11Few (l : List Leg) (A : Option Addr) (c : Nat) (w : World) (hl : l.length ≤ maxLen) (hr : Rs w 2 (l.map encLeg) A c) :
    Calls Try.prog 36 #[.slice A l.length c] w fun e w' => e = .returned (.slice A (l.take 12).length c) ∧ w = w' := by
  have hml : (l.length : Int) ≤ 9223372036854775807 := by unfold maxLen at hl; omega
  have hcap := hr.cap
  have hroom := hr.room
  rw [List.length_map] at hcap
  unfold maxLen at hroom
  by_cases h : 12 < l.length
  · have HT := Lib.hid (show (l.take 12).length = 12 from by rw [List.length_take]; omega)
    obtain ⟨b, o, rfl, hb⟩ := hr.addr (by rw [List.length_map]; omega)
    clear hr
    go_enter Try.func36, Try.ntmps36
    go_wp2_with fail
    go_ret
    exact ⟨by rw [HT.out]; rfl, rfl⟩
  · have HT := Lib.hid (show (l.take 12).length = l.length from by rw [List.length_take]; omega)
    clear hr
    go_enter Try.func36, Try.ntmps36
    go_wp2_with fail
    go_ret
    exact ⟨by rw [HT.out]; rfl, rfl⟩
theorem law11FewN (l : List Leg) (m : Nat) (hm : Hid ((l.take 12).length = m)) (A : Option Addr) (c : Nat) (w : World) (hl : l.length ≤ maxLen) (hr : Rs w 2 (l.map encLeg) A c) :
    Calls Try.prog 36 #[.slice A l.length c] w fun e w' => e = .returned (.slice A m c) ∧ w = w' := by
  rw [← hm.out]; exact law11Few l A c w hl hr
theorem islN {α : Type} {k : Nat} {enc : α → List Value} {w : World} {l : List α} {A : Option Addr} {c m : Nat} (hm : l.length = m) (h : Rs w k (l.map enc) A c) : IsSl k enc w (.slice A m c) l := by
  subst hm; exact isl h
def few12 (ls : List (List Leg)) : List (List Leg) := (ls.take 10).map fun l => l.take 12
theorem elLs : Elem Try.prog 22 25 1 24 := elem_of Try.underlying22 (z := .slice none 0 0) (by kernel_rfl) rfl (by omega)
/-- A slice of the call's own of slices of legs. -/
def OwnS (w : World) (base : Nat) (v : Value) (ls : List (List Leg)) : Prop := ∃ vs : List Value, Each (IsSl 2 encLeg w) vs ls ∧ Own w base 25 1 v (vs.map enc1)
theorem OwnS.rss {w : World} {base : Nat} {v : Value} {ls : List (List Leg)} (h : OwnS w base v ls) : ∃ A c, v = .slice A ls.length c ∧ RsS 2 encLeg w ls A c := by
  obtain ⟨vs, h1, h2⟩ := h
  obtain ⟨A, c, hv, hr, _⟩ := h2.rs
  rw [List.length_map, h1.len] at hv
  exact ⟨A, c, hv, ⟨⟨vs, h1, hr⟩⟩⟩
theorem rows1 (v : Value) (h : v.oneCell' = true) : ∀ r ∈ [enc1 v], r.length = 1 ∧ ∀ u ∈ r, u.oneCell' = true := by
  intro r hr
  simp [enc1] at hr
  subst hr
  exact ⟨rfl, by simp [h]⟩
set_option maxRecDepth 100000 in
set_option maxHeartbeats 1000000 in
theorem law11several (ls : List (List Leg)) (A : Option Addr) (c : Nat) (w : World) (hl : ls.length ≤ maxLen) (hls : ∀ l ∈ ls, l.length ≤ maxLen) (hr : RsS 2 encLeg w ls A c) :
    Calls Try.prog 13 #[.slice A ls.length c] w fun e w' => ∃ v, e = .returned v ∧ OwnS w' w.heap.size v (few12 ls) ∧ Below w.heap.size w w' := by
  have hml : (ls.length : Int) ≤ 9223372036854775807 := by unfold maxLen at hl; omega
  have HR := Lib.hid hr
  have HLS := Lib.hid hls
  clear hr hl hls
  go_enter Try.func13, Try.ntmps13
  go_wp2_with fail
  go_loopw [3, 4] (fun v i wr => ∃ k : Nat, k ≤ 10 ∧ k ≤ ls.length ∧ i = .int .i64 k ∧ (∃ vs : List Value, Each (IsSl 2 encLeg w) vs ((ls.take k).map fun l => l.take 12) ∧ Own wr w.heap.size 25 1 v (vs.map enc1)) ∧ Below w.heap.size w wr) (fun _ i _ => 10 - (intOf i).toNat)
  case atStart => exact ⟨0, Nat.zero_le _, Nat.zero_le _, rfl, ⟨[], Each.nil _, Own.nil _ _ _ _⟩, Below.refl _ _⟩
  case round =>
    obtain ⟨k, hk10, hk, rfl, ⟨vs, hvs, hown⟩, hbl⟩ := hrel
    have Hbl := Lib.hid hbl
    have Hvs := Lib.hid hvs
    have Hown := Lib.hid hown
    have hz := hbl.size
    have hvl : vs.length = k := by rw [hvs.len, List.length_map, List.length_take]; omega
    have hvl1 : vs.length ≤ 10 := by omega
    have hvl2 : (vs.map enc1).length ≤ 10 := by rw [List.length_map]; omega
    clear hbl hvs hown hvl
    by_cases hgo : k < ls.length ∧ k < 10
    · obtain ⟨hlt, h10⟩ := hgo
      have d10 : decide ((k : Int) < 10) = true := by simp; omega
      obtain ⟨b, o, B, d, rfl, hb, hq, hrk⟩ := HR.out.row hlt
      have e0 := (Hbl.out.cell (p := ⟨b, o + k, none⟩) hb).trans hq
      have HK := Lib.hid (hrk.keep Hbl.out)
      have HRK := Lib.hid hrk
      have HKL := HLS.out _ (List.getElem_mem hlt)
      have HSN : Hid ((ls.take (k + 1)).map (fun l => l.take 12) = (ls.take k).map (fun l => l.take 12) ++ [ls[k].take 12]) := by unfold Hid; rw [map_snoc hlt]
      clear hq hrk
      obtain ⟨m, hm⟩ : ∃ m, (ls[k].take 12).length = m := ⟨_, rfl⟩
      have HM := Lib.hid hm
      clear hm
      go_wp2_with (first | (go_at_call 36; (with_reducible refine (law11FewN ls[k] m HM B d _ HKL HK.out).mono ?_); rintro e w2 ⟨rfl, rfl⟩) | (at_builtin; refine wpList_app rfl _ _ _ rfl elLs w.heap.size _ _ rfl ((Hown.out).alloc _) (some ⟨wr.heap.size, 0, none⟩) 1 1 rfl [enc1 (.slice B m d)] rfl (fun h => by cases h) rd_one (rows1 _ rfl) (by unfold maxLen; first | (simp; done) | omega | (simp; omega)) (by first | (simp; done) | omega | (simp; omega)) (by first | omega | (simp; done) | (simp; omega)) ?_; intro v' w3 hown3 hb3))
      go_roundw
      case rel => exact ⟨k + 1, by omega, by omega, by go_num, ⟨vs ++ [.slice B m d], by rw [HSN.out]; exact Hvs.out.append (Each.one (islN HM.out (HRK.out.takeL 12))), by rw [List.map_append]; exact hown3⟩, by (have hbl := Hbl.out; (repeat' (first | (with_reducible exact Below.refl _ _) | (with_reducible assumption) | (with_reducible refine Below.alloc ?_ ?_ _) | (with_reducible refine Below.setCell ?_ ?_ _) | (with_reducible refine Below.drew ?_) | (with_reducible refine below_drewN ?_ _) | (with_reducible refine below_via ?_ (by with_reducible assumption) ?_) | omega | (simp; done) | (simp; omega))))⟩
      case measure => simp [intOf]; omega
    · have HT : Hid ((ls.take k).map (fun l => l.take 12) = few12 ls) := by
        unfold Hid few12
        rcases (show k = 10 ∨ ls.length ≤ k by omega) with rfl | h
        · rfl
        · rw [List.take_of_length_le h, List.take_of_length_le (show ls.length ≤ 10 by omega)]
      have hv := Hvs.out
      rw [HT.out] at hv
      have HV := Lib.hid hv
      clear hv
      by_cases hlt : k < ls.length
      · have d1 : decide ((k : Int) < (ls.length : Int)) = true := by simpa using hlt
        have d2 : decide ((k : Int) < 10) = false := by simp; omega
        go_wp2_with fail
        go_ret
        exact ⟨_, rfl, ⟨vs, HV.out.imp fun _ _ h => h.keep Hbl.out, Hown.out⟩, Hbl.out⟩
      · have d1 : decide ((k : Int) < (ls.length : Int)) = false := by simpa using hlt
        go_wp2_with fail
        go_ret
        exact ⟨_, rfl, ⟨vs, HV.out.imp fun _ _ h => h.keep Hbl.out, Hown.out⟩, Hbl.out⟩
theorem livesAdd : addL [[⟨1, 5⟩, ⟨2, -3⟩], [⟨1, -5⟩]] = [⟨2, -3⟩] ∧ addC [[⟨1, 5⟩, ⟨2, -3⟩], [⟨1, -5⟩]] = 0 := by decide
theorem isl_two {w : World} (g : Nat) (x y : Leg) (hg : g < w.heap.size) (c0 : w.cell? ⟨g, 0, none⟩ = some (.int .i64 x.inst)) (c1 : w.cell? ⟨g, 1, none⟩ = some (.int .i64 x.qty)) (c2 : w.cell? ⟨g, 2, none⟩ = some (.int .i64 y.inst)) (c3 : w.cell? ⟨g, 3, none⟩ = some (.int .i64 y.qty)) : IsSl 2 encLeg w (.slice (some ⟨g, 0, none⟩) 2 2) [x, y] := by
  refine ⟨some ⟨g, 0, none⟩, 2, rfl, ⟨fun i r hr => ⟨g, 0, rfl, hg, fun j v hv => ?_⟩, by simp, by unfold maxLen; omega, fun e => by cases e⟩⟩
  match i with
  | 0 =>
    simp [encLeg] at hr; subst hr
    match j with
    | 0 => simp at hv; subst hv; simpa using c0
    | 1 => simp at hv; subst hv; simpa using c1
    | j + 2 => simp at hv
  | 1 =>
    simp [encLeg] at hr; subst hr
    match j with
    | 0 => simp at hv; subst hv; simpa using c2
    | 1 => simp at hv; subst hv; simpa using c3
    | j + 2 => simp at hv
  | i + 2 => simp at hr
theorem rsOne {w : World} (g : Nat) (x : Leg) (hg : g < w.heap.size) (c0 : w.cell? ⟨g, 0, none⟩ = some (.int .i64 x.inst)) (c1 : w.cell? ⟨g, 1, none⟩ = some (.int .i64 x.qty)) : Rd w (some ⟨g, 0, none⟩) 2 ([x].map encLeg) := by
  obtain ⟨A, c, h1, h2⟩ := isl_one g x hg c0 c1
  injection h1 with e1 e2 e3
  rw [e1]; exact h2.rd
set_option maxRecDepth 100000 in
set_option maxHeartbeats 4000000 in
theorem law11lives (w : World) : Calls Try.prog 21 #[] w fun e w' => e = .returned (.bool true) ∧ Below w.heap.size w w' := by
  have HLV := Lib.hid livesAdd
  have q1 : Legs64 [⟨1, 5⟩, ⟨2, -3⟩] := by intro y hy; simp at hy; rcases hy with rfl | rfl <;> (simp [In64])
  have q2 : Legs64 [⟨1, -5⟩] := by intro y hy; simp at hy; subst hy; simp [In64]
  have Q1 := Lib.hid q1
  have Q2 := Lib.hid q2
  have hv := fun (W : World) (A : Option Addr) (c : Nat) (h : Rd W A 2 ([(⟨2, -3⟩ : Leg)].map encLeg)) => vecIs [⟨2, -3⟩] A c W (by simp) h
  rw [show isV [⟨2, -3⟩] = true from by decide] at hv
  simp only [List.length_cons, List.length_nil, Nat.zero_add] at hv
  have HV := Lib.hid hv
  have hs := fun (W : World) (A B : Option Addr) (c d : Nat) (h : Rd W A 2 ([(⟨2, -3⟩ : Leg)].map encLeg)) (h' : Rd W B 2 ([(⟨2, -3⟩ : Leg)].map encLeg)) => ref11Same [⟨2, -3⟩] A B c d W (by simp) h h'
  simp only [List.length_cons, List.length_nil, Nat.zero_add] at hs
  have HS := Lib.hid hs
  clear q1 q2 hv hs
  go_enter Try.func21, Try.ntmps21
  go_wp2_with (first | (go_at_call 18; (with_reducible refine (vecAdd2 [⟨1, 5⟩, ⟨2, -3⟩] [⟨1, -5⟩] _ _ (.slice (some ⟨w.heap.size, 0, none⟩) 2 2) (.slice (some ⟨w.heap.size + 1, 0, none⟩) 1 1) ?_ ?_ Q1.out Q2.out ?_ ?_ ?_ ?_ ?_).mono ?_); exact (by simp); exact (by simp); exact isl_two w.heap.size ⟨1, 5⟩ ⟨2, -3⟩ (by first | omega | (simp; done) | (simp; omega)) (by simp [go_sem]) (by simp [go_sem]) (by simp [go_sem]) (by simp [go_sem]); exact isl_one (w.heap.size + 1) ⟨1, -5⟩ (by first | omega | (simp; done) | (simp; omega)) (by simp [go_sem]) (by simp [go_sem]); exact (by simp); exact (by simp [go_sem]); exact (by simp [go_sem]); rintro e w2 ⟨v, rfl, hown, hb2⟩; rw [HLV.out.1] at hown; obtain ⟨A2, c2, rfl, hrs2, _⟩ := hown.rs; have HR2 := Lib.hid hrs2; rw [HLV.out.2]; clear hown hrs2; simp only [List.length_map, List.length_cons, List.length_nil, Nat.zero_add]; obtain ⟨fc2, fg2, hc2, hf2, hz2⟩ := bget hb2; (try simp at hz2)) | (go_at_call 20; (with_reducible refine (HS.out _ _ _ _ _ ?_ ?_).mono ?_); exact (HR2.out.keep (by (repeat' (first | (with_reducible exact Below.refl _ _) | (with_reducible assumption) | (with_reducible refine Below.alloc ?_ ?_ _) | (with_reducible refine Below.setCell ?_ ?_ _) | (with_reducible refine Below.drew ?_) | (with_reducible refine below_drewN ?_ _) | (with_reducible refine below_via ?_ (by with_reducible assumption) ?_) | omega | (simp; done) | (simp; omega))))).rd; exact rsOne w2.heap.size ⟨2, -3⟩ (by simp) (by simp [go_sem]) (by simp [go_sem]); rintro e w3 ⟨rfl, hb3⟩; obtain ⟨fc3, fg3, hc3, hf3, hz3⟩ := bget hb3; (try simp at hz3)) | (go_at_call 14; (with_reducible refine (HV.out _ _ _ (HR2.out.keep (by (repeat' (first | (with_reducible exact Below.refl _ _) | (with_reducible assumption) | (with_reducible refine Below.alloc ?_ ?_ _) | (with_reducible refine Below.setCell ?_ ?_ _) | (with_reducible refine Below.drew ?_) | (with_reducible refine below_drewN ?_ _) | (with_reducible refine below_via ?_ (by with_reducible assumption) ?_) | omega | (simp; done) | (simp; omega))))).rd).mono ?_); rintro e w4 ⟨rfl, hb4⟩; obtain ⟨fc4, fg4, hc4, hf4, hz4⟩ := bget hb4; try simp at hz4))
  go_ret
  exact ⟨rfl, by (repeat' (first | (with_reducible exact Below.refl _ _) | (with_reducible assumption) | (with_reducible refine Below.alloc ?_ ?_ _) | (with_reducible refine Below.setCell ?_ ?_ _) | (with_reducible refine Below.drew ?_) | (with_reducible refine below_drewN ?_ _) | (with_reducible refine below_via ?_ (by with_reducible assumption) ?_) | omega | (simp; done) | (simp; omega)))⟩
end Go.Proofs.Ytffmljkpbgohkaa
