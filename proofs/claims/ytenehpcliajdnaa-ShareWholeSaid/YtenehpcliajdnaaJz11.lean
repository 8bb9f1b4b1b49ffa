/- Joined: Shr7. -/
import Derived.Test.YtenehpcliajdnaaJz9
import Derived.Test.YtenehpcliajdnaaJz10
import Derived.Test.YtenehpcliajdnaaJz8
import Derived.Deep.RegionHeld3
import Derived.BigQuiet
/- Shares: contract of the reference's Split. -/
namespace Go.Proofs.Ytenehpcliajdnaa
open Go.RowKit
def encU (x : Int) : List Value := [.int .u64 x]
theorem elU : Elem Try.prog 106 77 1 8 := elem_of Try.underlying106 (z := .int .u64 0) (by kernel_rfl) rfl (by omega)
theorem rowsU1 (x : Int) : ∀ r ∈ [encU x], r.length = 1 ∧ ∀ u ∈ r, u.oneCell' = true := by
  intro r hr
  simp at hr
  subst hr
  exact ⟨rfl, by simp [encU]; rfl⟩
theorem ownU_put {w : World} {base g n c : Nat} {L : List Int} (h : Own w base 77 1 (.slice (some ⟨g, 0, none⟩) n c) (L.map encU)) {k : Nat} (hk : k < L.length) (x : Int) : Own (w.setCell ⟨g, k, none⟩ (.int .u64 x)) base 77 1 (.slice (some ⟨g, 0, none⟩) n c) ((L.set k x).map encU) := by
  have h1 := h.put rfl (i := k) (r := encU L[k]) (by simp [hk]) (show 0 < 1 by omega) (.int .u64 x)
  rw [Nat.mul_one, Nat.add_zero] at h1
  rw [List.map_set]
  exact h1
theorem ownI_put {w : World} {base g n c : Nat} {L : List Int} (h : Own w base 2 1 (.slice (some ⟨g, 0, none⟩) n c) (L.map encI)) {k : Nat} (hk : k < L.length) (x : Int) : Own (w.setCell ⟨g, k, none⟩ (.int .i64 x)) base 2 1 (.slice (some ⟨g, 0, none⟩) n c) ((L.set k x).map encI) := by
  have h1 := h.put rfl (i := k) (r := encI L[k]) (by simp [hk]) (show 0 < 1 by omega) (.int .i64 x)
  rw [Nat.mul_one, Nat.add_zero] at h1
  rw [List.map_set]
  exact h1
theorem ownU_cell {w : World} {base g n c : Nat} {L : List Int} (h : Own w base 77 1 (.slice (some ⟨g, 0, none⟩) n c) (L.map encU)) {k : Nat} (hk : k < L.length) : w.cell? ⟨g, k, none⟩ = some (.int .u64 (L.getD k 0)) := by
  obtain ⟨b', o', e', hb', hcc⟩ := (h.rd).1 k (encU L[k]) (by simp [hk])
  injection e' with e'
  injection e' with e1 e2 _
  subst e1 e2
  have := hcc 0 _ rfl
  rw [List.getD_eq_getElem?_getD, List.getElem?_eq_getElem hk]
  simpa using this
theorem ownI_cell {w : World} {base g n c : Nat} {L : List Int} (h : Own w base 2 1 (.slice (some ⟨g, 0, none⟩) n c) (L.map encI)) {k : Nat} (hk : k < L.length) : w.cell? ⟨g, k, none⟩ = some (.int .i64 (L.getD k 0)) := by
  obtain ⟨b', o', e', hb', hcc⟩ := (h.rd).1 k (encI L[k]) (by simp [hk])
  injection e' with e'
  injection e' with e1 e2 _
  subst e1 e2
  have := hcc 0 _ rfl
  rw [List.getD_eq_getElem?_getD, List.getElem?_eq_getElem hk]
  simpa using this
theorem leftL_snoc (T S : Int) {l : List Int} {k : Nat} (h : k < l.length) : leftL T S (l.take (k + 1)) = leftL T S (l.take k) ++ [T * l[k] % S] := by
  unfold leftL; rw [List.take_succ_eq_append_getElem h, List.map_append]; rfl
theorem partL_snoc (T S : Int) {l : List Int} {k : Nat} (h : k < l.length) : partL T S (l.take (k + 1)) = partL T S (l.take k) ++ [T * l[k] / S] := by
  unfold partL; rw [List.take_succ_eq_append_getElem h, List.map_append]; rfl
theorem partL_len (T S : Int) (l : List Int) : (partL T S l).length = l.length := by unfold partL; simp
theorem leftL_len (T S : Int) (l : List Int) : (leftL T S l).length = l.length := by unfold leftL; simp
theorem partL_zero (S : Int) (l : List Int) : partL 0 S l = List.replicate l.length 0 := by
  unfold partL
  induction l with
  | nil => rfl
  | cons x t ih => simp only [List.map_cons, ih]; simp [List.replicate_succ]
theorem own_off {w : World} {base base' E E' k k' : Nat} {v v' : Value} {rows rows' : List (List Value)} (h : Own w base E k v rows) (h' : Own w base' E' k' v' rows') (hne : E ≠ E') : ∀ g, v.ownBlock = some g → v'.ownBlock ≠ some g := fun g h1 h2 => by
  obtain ⟨c1, r1, e1⟩ := h.typed g h1
  obtain ⟨c2, r2, e2⟩ := h'.typed g h2
  rw [e1] at e2
  injection e2 with e2
  injection e2 with _ e3
  exact hne e3
theorem sp_why {T : Int} {l : List Int} (h : ¬ whyS T l = 0) : spC T l = whyS T l ∧ spL T l = [] := by
  have h2 : spC T l = whyS T l := by
    unfold whyS at h ⊢
    unfold spC
    cases h1 : rightS T l
    · rfl
    cases h2 : in64 l.sum
    · rfl
    rw [h1, h2] at h
    simp at h
  exact ⟨h2, by unfold spL; rw [if_neg (by rw [h2]; exact h)]⟩
theorem why_zero {T : Int} {l : List Int} (h : whyS T l = 0) : rightS T l = true ∧ in64 l.sum = true := by
  unfold whyS at h
  cases h1 : rightS T l
  · rw [h1] at h; simp at h
  cases h2 : in64 l.sum
  · rw [h1, h2] at h; simp at h
  exact ⟨rfl, rfl⟩
theorem parts_pos {T S : Int} (hT : 0 ≤ T) (hS : 0 ≤ S) {l : List Int} (h0 : ∀ x ∈ l, 0 ≤ x) : ∀ z ∈ partL T S l, 0 ≤ z := fun z hz => by
  unfold partL at hz
  obtain ⟨x, hx, rfl⟩ := List.mem_map.1 hz
  exact Int.ediv_nonneg (Int.mul_nonneg hT (h0 x hx)) hS
theorem sp_rest {T : Int} {l : List Int} (h : whyS T l = 0) (hz : T = 0 ∨ 0 < l.sum) : spC T l = 0 ∧ spL T l = refGive (restN T l.sum l) (partL T l.sum l) (leftL T l.sum l) ∧ (restN T l.sum l : Int) = T - (partL T l.sum l).sum ∧ (0 < restN T l.sum l → 0 < l.length) := by
  obtain ⟨h1, h2⟩ := why_zero h
  obtain ⟨t0, t1⟩ := right_iff.1 h1
  have hc : spC T l = 0 := by
    unfold spC
    rw [h1, h2]
    simp only [if_true]
    by_cases h4 : T = 0
    · rw [if_pos h4]
    · rw [if_neg h4, if_neg (by omega)]
  refine ⟨hc, ?_⟩
  by_cases h4 : T = 0
  · subst h4
    have hp := partL_zero l.sum l
    have hs : (partL 0 l.sum l).sum = 0 := by
      rw [hp]
      induction l.length with
      | zero => rfl
      | succ n ih => simp [List.replicate_succ, ih]
    have hr : restN 0 l.sum l = 0 := by unfold restN; rw [hs]; rfl
    rw [hr, hs]
    refine ⟨?_, by omega, fun h => by omega⟩
    unfold spL
    rw [if_pos hc, if_pos rfl, hp]; rfl
  · have hS : 0 < l.sum := by omega
    obtain ⟨r1, r2, r3⟩ := rest_is t0 hS (rfl : l.sum = l.sum)
    refine ⟨?_, r2, fun _ => ?_⟩
    · unfold spL
      rw [if_pos hc, if_neg h4]; rfl
    · cases l with
      | nil => simp at hS
      | cons x t => simp
theorem addAt_nonneg {P : List Int} (h : ∀ z ∈ P, 0 ≤ z) (i : Nat) : ∀ z ∈ addAt P i, 0 ≤ z := fun z hz => by
  unfold addAt at hz
  rcases List.mem_or_eq_of_mem_set hz with hz | rfl
  · exact h z hz
  · have : 0 ≤ P.getD i 0 := by
      rw [List.getD_eq_getElem?_getD]
      cases hh : P[i]? with
      | none => simp
      | some y => simpa using h y (List.mem_of_getElem? hh)
    omega
theorem best_lt {L : List Int} {n : Nat} (hn : 0 < n) : bestN L n < n := by
  have := (bestN_spec L n).2.2
  omega
set_option maxRecDepth 100000 in
set_option maxHeartbeats 32000000 in
theorem refSplit (T : Int) (l : List Int) (A : Option Addr) (c : Nat) (w : World) (hl : l.length ≤ 40) (hT : In64 T) (hin : ∀ x ∈ l, In64 x) (hr : Rd w A 1 (l.map encI)) :
    Calls Try.prog 34 #[.int .i64 T, .slice A l.length c] w fun e w' => ∃ v, e = .returned (.tuple #[v, .int .i64 (spC T l)]) ∧ Own w' w.heap.size 2 1 v ((spL T l).map encI) ∧ Below w.heap.size w w' := by
  have HR := Lib.hid hr
  have c1 := fun W h => refWhy T l A c W hl hin h
  have C2 := Lib.hid (fun W h => refSum l A c W hl hin h)
  clear hr
  by_cases h0 : whyS T l = 0
  rotate_left
  · obtain ⟨e1, e2⟩ := sp_why h0
    have HC := Lib.hid e1
    have HL := Lib.hid e2
    have C1 := Lib.hid c1
    have d0 : (whyS T l == 0) = false := by simpa using h0
    clear c1 h0 e1 e2
    generalize whyS T l = wh at *
    go_enter Try.func34, Try.ntmps34
    go_wp2_with (first | (go_at_call 65; (with_reducible refine (C1.out _ (HR.out.keep (by (repeat' (first | (with_reducible exact Below.refl _ _) | (with_reducible assumption) | (with_reducible refine Below.alloc ?_ ?_ _) | (with_reducible refine Below.setCell ?_ ?_ _) | (with_reducible refine Below.drew ?_) | (with_reducible refine below_drewN ?_ _) | (with_reducible refine below_via ?_ (by with_reducible assumption) ?_) | omega | (simp; done) | (simp; omega)))))).mono ?_); rintro e w1 ⟨rfl, hb1⟩; obtain ⟨fc1, fg1, hc1, hf1, hz1⟩ := bget hb1; (try simp at hz1)) | fail)
    go_ret2
    exact ⟨_, by rw [HC.out]; first | done | rfl, by rw [HL.out]; exact Own.nil _ _ _ _, by (repeat' (first | (with_reducible exact Below.refl _ _) | (with_reducible assumption) | (with_reducible refine Below.alloc ?_ ?_ _) | (with_reducible refine Below.setCell ?_ ?_ _) | (with_reducible refine Below.drew ?_) | (with_reducible refine below_drewN ?_ _) | (with_reducible refine below_via ?_ (by with_reducible assumption) ?_) | omega | (simp; done) | (simp; omega)))⟩
  obtain ⟨h1, h2⟩ := why_zero h0
  obtain ⟨t0, t1⟩ := right_iff.1 h1
  have hs64 := in64_iff.1 h2
  have hs0 := sum_nonneg' t1
  have hsp := sp_rest h0
  rw [h0] at c1
  have C1 := Lib.hid c1
  have H0 := Lib.hid t1
  have HML := Lib.hid (fun (x : Int) (hx : x ∈ l) => mem_le_sum t1 hx)
  have HTK := Lib.hid (fun k => sum_take_le t1 k)
  by_cases h3 : T ≠ 0 ∧ l.sum = 0
  · have HC := Lib.hid (show spC T l = 8 from by unfold spC; rw [h1, h2, if_pos rfl, if_pos rfl, if_neg h3.1, if_pos h3.2])
    have HL := Lib.hid (show spL T l = [] from by unfold spL; rw [HC.out]; rfl)
    have d3 : (l.sum == 0) = true := by simpa using h3.2
    have d4 : decide (0 < T) = true := by simp; omega
    have HS64 := Lib.hid hs64
    clear c1 h0 hsp h3 hin h1 h2 t1
    generalize l.sum = S at *
    go_enter Try.func34, Try.ntmps34
    go_wp2_with (first | (go_at_call 65; (with_reducible refine (C1.out _ (HR.out.keep (by (repeat' (first | (with_reducible exact Below.refl _ _) | (with_reducible assumption) | (with_reducible refine Below.alloc ?_ ?_ _) | (with_reducible refine Below.setCell ?_ ?_ _) | (with_reducible refine Below.drew ?_) | (with_reducible refine below_drewN ?_ _) | (with_reducible refine below_via ?_ (by with_reducible assumption) ?_) | omega | (simp; done) | (simp; omega)))))).mono ?_); rintro e w1 ⟨rfl, hb1⟩; obtain ⟨fc1, fg1, hc1, hf1, hz1⟩ := bget hb1; (try simp at hz1)) | (go_at_call 38; (with_reducible refine (C2.out _ (HR.out.keep (by (repeat' (first | (with_reducible exact Below.refl _ _) | (with_reducible assumption) | (with_reducible refine Below.alloc ?_ ?_ _) | (with_reducible refine Below.setCell ?_ ?_ _) | (with_reducible refine Below.drew ?_) | (with_reducible refine below_drewN ?_ _) | (with_reducible refine below_via ?_ (by with_reducible assumption) ?_) | omega | (simp; done) | (simp; omega)))))).mono ?_); rintro e w2 ⟨s2, A2, l2, c2, rfl, hB2, hl2, hb2⟩; have HB2 := Lib.hid hB2; clear hB2; obtain ⟨fc2, fg2, hc2, hf2, hz2⟩ := bget hb2; (try simp at hz2)) | (go_at_call 51; (with_reducible refine (bigInt S s2 l2 A2 c2 _ (by omega) HS64.out (HB2.out.keep (by (repeat' (first | (with_reducible exact Below.refl _ _) | (with_reducible assumption) | (with_reducible refine Below.alloc ?_ ?_ _) | (with_reducible refine Below.setCell ?_ ?_ _) | (with_reducible refine Below.drew ?_) | (with_reducible refine below_drewN ?_ _) | (with_reducible refine below_via ?_ (by with_reducible assumption) ?_) | omega | (simp; done) | (simp; omega)))))).mono ?_); rintro e w3 ⟨rfl, hb3⟩; obtain ⟨fc3, fg3, hc3, hf3, hz3⟩ := bget hb3; (try simp at hz3)) | fail)
    go_ret2
    exact ⟨_, by rw [HC.out]; rfl, by rw [HL.out]; exact Own.nil _ _ _ _, by (repeat' (first | (with_reducible exact Below.refl _ _) | (with_reducible assumption) | (with_reducible refine Below.alloc ?_ ?_ _) | (with_reducible refine Below.setCell ?_ ?_ _) | (with_reducible refine Below.drew ?_) | (with_reducible refine below_drewN ?_ _) | (with_reducible refine below_via ?_ (by with_reducible assumption) ?_) | omega | (simp; done) | (simp; omega)))⟩
  have hz : T = 0 ∨ 0 < l.sum := by omega
  obtain ⟨hc0, hL, hrn, hn0⟩ := hsp hz
  have HC := Lib.hid hc0
  have HL := Lib.hid hL
  have HPP := Lib.hid (fun k => parts_pos (l := l.take k) t0 hs0 (fun x hx => t1 x (List.mem_of_mem_take hx)))
  have HS64 := Lib.hid hs64
  unfold In64 at hT hs64
  clear c1 h0 hsp h3 hin h1 h2 t1 hL hc0
  obtain ⟨S, hSe⟩ : ∃ S, l.sum = S := ⟨_, rfl⟩
  rw [hSe] at hrn hn0 hz hs0 hs64 C2 HML HTK HL HPP HS64
  have hPB := fun k => parts_le (T := T) (S := S) (l := l.take k) t0
  by_cases hS : 0 < S
  rotate_left
  · have hS0 : S = 0 := by omega
    have hT0 : T = 0 := by omega
    have dS : (S == 0) = true := by simpa using hS0
    have dT : decide (0 < T) = false := by simp; omega
    have dS1 : decide (0 < S) = false := by simp; omega
    have HP0 := Lib.hid (fun k => show (partL T S (l.take k)).sum = 0 from by
      rw [hT0, partL_zero]
      induction (l.take k).length with
      | zero => rfl
      | succ n ih => simp [List.replicate_succ, ih])
    have HR0 := Lib.hid (show restN T S l = 0 from by
      have := HP0.out l.length
      rw [List.take_length] at this
      unfold restN; rw [this, hT0]; rfl)
    have HX := Lib.hid (fun (x : Int) => show T * x / S = 0 ∧ T * x % S = 0 from by rw [hT0]; simp)
    clear hPB hz hrn hn0 hT0 hS0 hS
    go_enter Try.func34, Try.ntmps34
    go_wp2_with (first | (go_at_call 65; (with_reducible refine (C1.out _ (HR.out.keep (by (repeat' (first | (with_reducible exact Below.refl _ _) | (with_reducible assumption) | (with_reducible refine Below.alloc ?_ ?_ _) | (with_reducible refine Below.setCell ?_ ?_ _) | (with_reducible refine Below.drew ?_) | (with_reducible refine below_drewN ?_ _) | (with_reducible refine below_via ?_ (by with_reducible assumption) ?_) | omega | (simp; done) | (simp; omega)))))).mono ?_); rintro e w1 ⟨rfl, hb1⟩; obtain ⟨fc1, fg1, hc1, hf1, hz1⟩ := bget hb1; (try simp at hz1)) | (go_at_call 38; (with_reducible refine (C2.out _ (HR.out.keep (by (repeat' (first | (with_reducible exact Below.refl _ _) | (with_reducible assumption) | (with_reducible refine Below.alloc ?_ ?_ _) | (with_reducible refine Below.setCell ?_ ?_ _) | (with_reducible refine Below.drew ?_) | (with_reducible refine below_drewN ?_ _) | (with_reducible refine below_via ?_ (by with_reducible assumption) ?_) | omega | (simp; done) | (simp; omega)))))).mono ?_); rintro e w2 ⟨s2, A2, l2, c2, rfl, hB2, hl2, hb2⟩; have HB2 := Lib.hid hB2; clear hB2; obtain ⟨fc2, fg2, hc2, hf2, hz2⟩ := bget hb2; (try simp at hz2)) | (go_at_call 51; (with_reducible refine (bigInt S s2 l2 A2 c2 _ (by omega) HS64.out (HB2.out.keep (by (repeat' (first | (with_reducible exact Below.refl _ _) | (with_reducible assumption) | (with_reducible refine Below.alloc ?_ ?_ _) | (with_reducible refine Below.setCell ?_ ?_ _) | (with_reducible refine Below.drew ?_) | (with_reducible refine below_drewN ?_ _) | (with_reducible refine below_via ?_ (by with_reducible assumption) ?_) | omega | (simp; done) | (simp; omega)))))).mono ?_); rintro e w3 ⟨rfl, hb3⟩; obtain ⟨fc3, fg3, hc3, hf3, hz3⟩ := bget hb3; (try simp at hz3)) | fail)
    have Hb3 := Lib.hid (show Below w.heap.size w w3 from by (repeat' (first | (with_reducible exact Below.refl _ _) | (with_reducible assumption) | (with_reducible refine Below.alloc ?_ ?_ _) | (with_reducible refine Below.setCell ?_ ?_ _) | (with_reducible refine Below.drew ?_) | (with_reducible refine below_drewN ?_ _) | (with_reducible refine below_via ?_ (by with_reducible assumption) ?_) | omega | (simp; done) | (simp; omega))))
    go_loopw [8, 9, 10, 11] (fun v1 v2 rv i wr => ∃ k : Nat, k ≤ l.length ∧ i = .int .i64 k ∧ rv = .int .i64 (T - (partL T S (l.take k)).sum) ∧ Own wr w.heap.size 2 1 v1 ((partL T S (l.take k)).map encI) ∧ Own wr w.heap.size 77 1 v2 ((leftL T S (l.take k)).map encU) ∧ Below w.heap.size w wr) (fun _ _ _ i _ => l.length - (intOf i).toNat)
    case atStart => exact ⟨0, Nat.zero_le _, rfl, by simp [partL], by simpa [partL] using Own.nil _ _ _ _, by simpa [leftL] using Own.nil _ _ _ _, Hb3.out⟩
    case round =>
      obtain ⟨k, hk, rfl, rfl, hown, hownu, hbl⟩ := hrel
      have HO := Lib.hid hown
      have HU := Lib.hid hownu
      have Hbl := Lib.hid hbl
      have HN8 := Lib.hid (own_off hownu hown (by decide))
      have hz9 := hbl.size
      have hpl : ((partL T S (l.take k)).map encI).length = k := (by rw [List.length_map, partL_len, List.length_take]; omega)
      have hll : ((leftL T S (l.take k)).map encU).length = k := (by rw [List.length_map, leftL_len, List.length_take]; omega)
      clear hown hownu hbl
      rw [HP0.out k, Int.sub_zero]
      by_cases hlt : k < l.length
      · have kl : (k : Int) < (l.length : Int) := (by omega)
        have dl : decide ((k : Int) < (l.length : Int)) = true := (by simpa using hlt)
        obtain ⟨b, o, hA, hb, hc⟩ := HR.out k (encI l[k]) (by simp [hlt])
        have e0 := (Hbl.out.cell (p := ⟨b, o + k * 1 + 0, none⟩) hb).trans (hc 0 _ rfl)
        simp only [Nat.add_zero, Nat.mul_one] at e0
        have hbw : b < wr.heap.size := (by omega)
        have HP := Lib.hid (partL_snoc T S hlt)
        have HLL := Lib.hid (leftL_snoc T S hlt)
        subst hA
        clear hc
        rw [(HX.out l[k]).1] at HP
        rw [(HX.out l[k]).2] at HLL
        go_wp2_with (first | (at_builtin; refine wpList_appG rfl _ _ _ rfl elI w.heap.size u8 _ rfl ((HO.out).alloc _) ⟨_, 0, none⟩ 1 1 rfl [encI (0)] rfl (rd_oneN (by simp)) (rowsI1 _) (by unfold maxLen; first | (simp; done) | omega | (simp; omega)) (by first | (simp; done) | omega | (simp; omega)) (by first | omega | (simp; done) | (simp; omega)) ?_; intro v8 w8 hown8 hb8 hg8; have HU8 := Lib.hid (((HU.out).alloc _).grown hg8 HN8.out); have HO8 := Lib.hid hown8; clear hown8 hg8; obtain ⟨fc8, fg8, hc8, hf8, hz8⟩ := bget hb8; (try simp at hz8)) | (at_builtin; refine wpList_appG rfl _ _ _ rfl elU w.heap.size u9 _ rfl (HU8.out.alloc _) ⟨_, 0, none⟩ 1 1 rfl [encU (0)] rfl (rd_oneN (by simp)) (rowsU1 _) (by unfold maxLen; first | (simp; done) | omega | (simp; omega)) (by first | (simp; done) | omega | (simp; omega)) (by first | omega | (simp; done) | (simp; omega)) ?_; intro v9 w9 hown9 hb9 hg9; have HO9 := Lib.hid ((HO8.out.alloc _).grown hg9 (own_off HO8.out HU8.out (by decide))); have HU9 := Lib.hid hown9; clear hown9 hg9; obtain ⟨fc9, fg9, hc9, hf9, hz9⟩ := bget hb9; (try simp at hz9)) | fail)
        go_roundw
        case rel => exact ⟨k + 1, by omega, by go_num, by rw [HP0.out, Int.sub_zero], by rw [HP.out, List.map_append]; exact HO9.out, by rw [HLL.out, List.map_append]; exact HU9.out, by have hbl := Hbl.out; (repeat' (first | (with_reducible exact Below.refl _ _) | (with_reducible assumption) | (with_reducible refine Below.alloc ?_ ?_ _) | (with_reducible refine Below.setCell ?_ ?_ _) | (with_reducible refine Below.drew ?_) | (with_reducible refine below_drewN ?_ _) | (with_reducible refine below_via ?_ (by with_reducible assumption) ?_) | omega | (simp; done) | (simp; omega)))⟩
        case measure => simp [intOf]; omega
      · have dl : decide ((k : Int) < (l.length : Int)) = false := (by simpa using hlt)
        have hp := HO.out
        have hu := HU.out
        rw [List.take_of_length_le (by omega)] at hp hu
        have HP := Lib.hid hp
        have HLU := Lib.hid hu
        clear hp hu
        go_wp2_with fail
        go_loopw [10] (fun rv w6 => rv = .int .i64 T ∧ w6 = wr) (fun _ _ => 0)
        case atStart => exact ⟨rfl, rfl⟩
        case round =>
          obtain ⟨rfl, rfl⟩ := hrel
          go_wp2_with fail
          go_ret2
          exact ⟨_, by rw [HC.out]; rfl, by rw [HL.out, HR0.out]; exact HP.out, Hbl.out⟩
  · have dS : (S == 0) = false := by simp; omega
    have dS1 : decide (0 < S) = true := by simpa using hS
    have HT64 := Lib.hid (show In64 T from by unfold In64; exact hT)
    have HPB := Lib.hid hPB
    clear hPB hz
    go_enter Try.func34, Try.ntmps34
    go_wp2_with (first | (go_at_call 65; (with_reducible refine (C1.out _ (HR.out.keep (by (repeat' (first | (with_reducible exact Below.refl _ _) | (with_reducible assumption) | (with_reducible refine Below.alloc ?_ ?_ _) | (with_reducible refine Below.setCell ?_ ?_ _) | (with_reducible refine Below.drew ?_) | (with_reducible refine below_drewN ?_ _) | (with_reducible refine below_via ?_ (by with_reducible assumption) ?_) | omega | (simp; done) | (simp; omega)))))).mono ?_); rintro e w1 ⟨rfl, hb1⟩; obtain ⟨fc1, fg1, hc1, hf1, hz1⟩ := bget hb1; (try simp at hz1)) | (go_at_call 38; (with_reducible refine (C2.out _ (HR.out.keep (by (repeat' (first | (with_reducible exact Below.refl _ _) | (with_reducible assumption) | (with_reducible refine Below.alloc ?_ ?_ _) | (with_reducible refine Below.setCell ?_ ?_ _) | (with_reducible refine Below.drew ?_) | (with_reducible refine below_drewN ?_ _) | (with_reducible refine below_via ?_ (by with_reducible assumption) ?_) | omega | (simp; done) | (simp; omega)))))).mono ?_); rintro e w2 ⟨s2, A2, l2, c2, rfl, hB2, hl2, hb2⟩; have HB2 := Lib.hid hB2; clear hB2; obtain ⟨fc2, fg2, hc2, hf2, hz2⟩ := bget hb2; (try simp at hz2)) | (go_at_call 51; (with_reducible refine (bigInt S s2 l2 A2 c2 _ (by omega) HS64.out (HB2.out.keep (by (repeat' (first | (with_reducible exact Below.refl _ _) | (with_reducible assumption) | (with_reducible refine Below.alloc ?_ ?_ _) | (with_reducible refine Below.setCell ?_ ?_ _) | (with_reducible refine Below.drew ?_) | (with_reducible refine below_drewN ?_ _) | (with_reducible refine below_via ?_ (by with_reducible assumption) ?_) | omega | (simp; done) | (simp; omega)))))).mono ?_); rintro e w3 ⟨rfl, hb3⟩; obtain ⟨fc3, fg3, hc3, hf3, hz3⟩ := bget hb3; (try simp at hz3)) | fail)
    have Hb3 := Lib.hid (show Below w.heap.size w w3 from by (repeat' (first | (with_reducible exact Below.refl _ _) | (with_reducible assumption) | (with_reducible refine Below.alloc ?_ ?_ _) | (with_reducible refine Below.setCell ?_ ?_ _) | (with_reducible refine Below.drew ?_) | (with_reducible refine below_drewN ?_ _) | (with_reducible refine below_via ?_ (by with_reducible assumption) ?_) | omega | (simp; done) | (simp; omega))))
    go_loopw [8, 9, 10, 11] (fun v1 v2 rv i wr => ∃ k : Nat, k ≤ l.length ∧ i = .int .i64 k ∧ rv = .int .i64 (T - (partL T S (l.take k)).sum) ∧ Own wr w.heap.size 2 1 v1 ((partL T S (l.take k)).map encI) ∧ Own wr w.heap.size 77 1 v2 ((leftL T S (l.take k)).map encU) ∧ Below w.heap.size w wr) (fun _ _ _ i _ => l.length - (intOf i).toNat)
    case atStart => exact ⟨0, Nat.zero_le _, rfl, by simp [partL], by simpa [partL] using Own.nil _ _ _ _, by simpa [leftL] using Own.nil _ _ _ _, Hb3.out⟩
    case round =>
      obtain ⟨k, hk, rfl, rfl, hown, hownu, hbl⟩ := hrel
      have HO := Lib.hid hown
      have HU := Lib.hid hownu
      have Hbl := Lib.hid hbl
      have HN8 := Lib.hid (own_off hownu hown (by decide))
      have hz9 := hbl.size
      have hpl : ((partL T S (l.take k)).map encI).length = k := (by rw [List.length_map, partL_len, List.length_take]; omega)
      have hll : ((leftL T S (l.take k)).map encU).length = k := (by rw [List.length_map, leftL_len, List.length_take]; omega)
      clear hown hownu hbl
      have hp1 := HPB.out k hS (fun x hx => H0.out x (List.mem_of_mem_take hx)) (HTK.out k)
      by_cases hlt : k < l.length
      · have kl : (k : Int) < (l.length : Int) := (by omega)
        have dl : decide ((k : Int) < (l.length : Int)) = true := (by simpa using hlt)
        obtain ⟨b, o, hA, hb, hc⟩ := HR.out k (encI l[k]) (by simp [hlt])
        have e0 := (Hbl.out.cell (p := ⟨b, o + k * 1 + 0, none⟩) hb).trans (hc 0 _ rfl)
        simp only [Nat.add_zero, Nat.mul_one] at e0
        have hbw : b < wr.heap.size := (by omega)
        have HP := Lib.hid (partL_snoc T S hlt)
        have HLL := Lib.hid (leftL_snoc T S hlt)
        subst hA
        clear hc
        have hp2 := HPB.out (k + 1) hS (fun x hx => H0.out x (List.mem_of_mem_take hx)) (HTK.out (k + 1))
        have HPT := Lib.hid (partL_take T S hlt)
        rw [HPT.out] at hp2
        have hx0 := H0.out l[k] (List.getElem_mem hlt)
        have hx1 := HML.out l[k] (List.getElem_mem hlt)
        have hq := quota_bound t0 hS hx0 hx1
        obtain ⟨x, hxe⟩ : ∃ x, x = l[k] := ⟨_, rfl⟩
        rw [← hxe] at e0 HP HLL hp2 HPT hx0 hx1 hq
        have HX64 := Lib.hid (show In64 x from by unfold In64; omega)
        have hw : IntKind.u64.wrap S = S := by rw [IntKind.wrap_u64]; omega
        have C6 := Lib.hid (fun W s A (l : List Int) c (hl : l.length ≤ 200) (h : IsBig W (T * x) s A l c) => show Calls Try.prog 52 #[.agg #[.bool s, .slice A l.length c], .int .u64 (IntKind.u64.wrap S)] W (DivPost W (T * x / S) (T * x % S) 265) from by rw [hw]; exact bigDiv (T * x) S s l A c 200 W hS hs64.2 (by omega) hl h)
        clear hw
        clear hxe
        generalize T * x / S = qq at *
        generalize T * x % S = rr at *
        have HQ64 := Lib.hid (show In64 qq from by unfold In64; omega)
        have HR5 := Lib.hid e0
        generalize (partL T S (l.take k)).sum = gv at *
        go_wp2_with fail
        go_region_held3 (fun w' => w'.cell? ⟨b, o + k, none⟩ = some (.int .i64 x)) (first | (simp [go_sem]; done) | (repeat' (first | (with_reducible assumption) | (with_reducible refine And.intro ?_ ?_) | (with_reducible refine cell_drew ?_) | (with_reducible refine cell_via (by with_reducible assumption) ?_ ?_) | (simp [*]; done) | (simp [go_sem]; done) | (with_reducible refine cell_alloc ?_ ?_) | (with_reducible refine cell_set_far ?_ ?_) | omega | (simp; omega)))) (first | (go_at_call 16; (with_reducible refine (bigOf T _ HT64.out).mono ?_); rintro e w4 ⟨s4, A4, l4, c4, rfl, hB4, hl4, hb4⟩; have HB4 := Lib.hid hB4; clear hB4; obtain ⟨fc4, fg4, hc4, hf4, hz4⟩ := bget hb4; (try simp at hz4)) | (go_at_call 16; (with_reducible refine (bigOf x _ HX64.out).mono ?_); rintro e w5 ⟨s5, A5, l5, c5, rfl, hB5, hl5, hb5⟩; have HB5 := Lib.hid hB5; clear hB5; obtain ⟨fc5, fg5, hc5, hf5, hz5⟩ := bget hb5; (try simp at hz5)) | (go_at_call 15; (with_reducible refine (bigMul T x s4 s5 l4 l5 A4 A5 c4 c5 65 _ (by omega) (by omega) (by omega) (HB4.out.keep (by (repeat' (first | (with_reducible exact Below.refl _ _) | (with_reducible assumption) | (with_reducible refine Below.alloc ?_ ?_ _) | (with_reducible refine Below.setCell ?_ ?_ _) | (with_reducible refine Below.drew ?_) | (with_reducible refine below_drewN ?_ _) | (with_reducible refine below_via ?_ (by with_reducible assumption) ?_) | omega | (simp; done) | (simp; omega))))) (HB5.out.keep (by (repeat' (first | (with_reducible exact Below.refl _ _) | (with_reducible assumption) | (with_reducible refine Below.alloc ?_ ?_ _) | (with_reducible refine Below.setCell ?_ ?_ _) | (with_reducible refine Below.drew ?_) | (with_reducible refine below_drewN ?_ _) | (with_reducible refine below_via ?_ (by with_reducible assumption) ?_) | omega | (simp; done) | (simp; omega)))))).mono ?_); rintro e w6 ⟨s6, A6, l6, c6, rfl, hB6, hl6, hb6⟩; have HB6 := Lib.hid hB6; clear hB6; obtain ⟨fc6, fg6, hc6, hf6, hz6⟩ := bget hb6; (try simp at hz6)) | (go_at_call 52; (with_reducible refine (C6.out _ s6 A6 l6 c6 (by omega) (HB6.out.keep (by (repeat' (first | (with_reducible exact Below.refl _ _) | (with_reducible assumption) | (with_reducible refine Below.alloc ?_ ?_ _) | (with_reducible refine Below.setCell ?_ ?_ _) | (with_reducible refine Below.drew ?_) | (with_reducible refine below_drewN ?_ _) | (with_reducible refine below_via ?_ (by with_reducible assumption) ?_) | omega | (simp; done) | (simp; omega)))))).mono ?_); rintro e w7 ⟨s7, A7, l7, c7, rfl, hB7, hl7, hb7⟩; have HB7 := Lib.hid hB7; clear hB7; obtain ⟨fc7, fg7, hc7, hf7, hz7⟩ := bget hb7; (try simp at hz7)) | fail)
        all_goals
          go_wp2_with (first | (go_at_call 51; (with_reducible refine (bigInt qq s7 l7 A7 c7 _ (by omega) HQ64.out (by (repeat' (first | (focus ((refine (HB7.out).keep ?_); (repeat' (first | (with_reducible exact Below.refl _ _) | (with_reducible assumption) | (with_reducible refine Below.alloc ?_ ?_ _) | (with_reducible refine Below.setCell ?_ ?_ _) | (with_reducible refine Below.drew ?_) | (with_reducible refine below_drewN ?_ _) | (with_reducible refine below_via ?_ (by with_reducible assumption) ?_) | omega | (simp; done) | (simp; omega))); done)) | (refine IsBig.far (v0 := .slice none 0 0) ?_ ?_ ?_ _; rotate_left; (focus (simp [go_sem, *]; done)); (focus (simp; done))) | (refine IsBig.far (v0 := .bool false) ?_ ?_ ?_ _; rotate_left; (focus (simp [go_sem, *]; done)); (focus (simp; done))) | fail)))).mono ?_); rintro e w11 ⟨rfl, hb11⟩; obtain ⟨fc11, fg11, hc11, hf11, hz11⟩ := bget hb11; (try simp at hz11)) | (at_builtin; refine wpList_appG rfl _ _ _ rfl elI w.heap.size u8 _ rfl (((HO.out.keep (by (repeat' (first | (with_reducible exact Below.refl _ _) | (with_reducible assumption) | (with_reducible refine Below.alloc ?_ ?_ _) | (with_reducible refine Below.setCell ?_ ?_ _) | (with_reducible refine Below.drew ?_) | (with_reducible refine below_drewN ?_ _) | (with_reducible refine below_via ?_ (by with_reducible assumption) ?_) | omega | (simp; done) | (simp; omega)))))).alloc _) ⟨_, 0, none⟩ 1 1 rfl [encI (qq)] rfl (rd_oneN (by simp)) (rowsI1 _) (by unfold maxLen; first | (simp; done) | omega | (simp; omega)) (by first | (simp; done) | omega | (simp; omega)) (by first | omega | (simp; done) | (simp; omega)) ?_; intro v8 w8 hown8 hb8 hg8; have HU8 := Lib.hid ((((HU.out.keep (by (repeat' (first | (with_reducible exact Below.refl _ _) | (with_reducible assumption) | (with_reducible refine Below.alloc ?_ ?_ _) | (with_reducible refine Below.setCell ?_ ?_ _) | (with_reducible refine Below.drew ?_) | (with_reducible refine below_drewN ?_ _) | (with_reducible refine below_via ?_ (by with_reducible assumption) ?_) | omega | (simp; done) | (simp; omega)))))).alloc _).grown hg8 HN8.out); have HO8 := Lib.hid hown8; clear hown8 hg8; obtain ⟨fc8, fg8, hc8, hf8, hz8⟩ := bget hb8; (try simp at hz8)) | (at_builtin; refine wpList_appG rfl _ _ _ rfl elU w.heap.size u9 _ rfl (HU8.out.alloc _) ⟨_, 0, none⟩ 1 1 rfl [encU (rr)] rfl (rd_oneN (by simp)) (rowsU1 _) (by unfold maxLen; first | (simp; done) | omega | (simp; omega)) (by first | (simp; done) | omega | (simp; omega)) (by first | omega | (simp; done) | (simp; omega)) ?_; intro v9 w9 hown9 hb9 hg9; have HO9 := Lib.hid ((HO8.out.alloc _).grown hg9 (own_off HO8.out HU8.out (by decide))); have HU9 := Lib.hid hown9; clear hown9 hg9; obtain ⟨fc9, fg9, hc9, hf9, hz9⟩ := bget hb9; (try simp at hz9)) | fail)
          go_roundw
          case rel => exact ⟨k + 1, by omega, by go_num, by rw [HPT.out]; go_num, by rw [HP.out, List.map_append]; exact HO9.out, by rw [HLL.out, List.map_append]; exact HU9.out, by have hbl := Hbl.out; (repeat' (first | (with_reducible exact Below.refl _ _) | (with_reducible assumption) | (with_reducible refine Below.alloc ?_ ?_ _) | (with_reducible refine Below.setCell ?_ ?_ _) | (with_reducible refine Below.drew ?_) | (with_reducible refine below_drewN ?_ _) | (with_reducible refine below_via ?_ (by with_reducible assumption) ?_) | omega | (simp; done) | (simp; omega)))⟩
          case measure => simp [intOf]; omega
      · have dl : decide ((k : Int) < (l.length : Int)) = false := (by simpa using hlt)
        have hp := HO.out
        have hu := HU.out
        rw [List.take_of_length_le (by omega)] at hp hu
        have HP := Lib.hid hp
        have HLU := Lib.hid hu
        clear hp hu
        have hRT : (restN T S l : Int) ≤ T := by
          have h := hp1.1
          rw [List.take_of_length_le (by omega)] at h
          omega
        have HPN := Lib.hid (show ∀ z ∈ partL T S l, 0 ≤ z from by have h := HPP.out l.length; rw [List.take_length] at h; exact h)
        rw [show l.take k = l from List.take_of_length_le (by omega)]
        have hpl2 := partL_len T S l
        have hll2 := leftL_len T S l
        clear hp1 hpl hll HPP HPB HTK HML H0
        go_wp2_with fail
        by_cases hR : restN T S l = 0
        · have HT0 := Lib.hid (show T - (partL T S l).sum = 0 from by omega)
          have HLP := Lib.hid (show spL T l = partL T S l from by rw [HL.out, hR]; rfl)
          clear hR hrn hn0
          rw [HT0.out]
          go_loopw [10] (fun rv w6 => rv = .int .i64 0 ∧ w6 = wr) (fun _ _ => 0)
          case atStart => exact ⟨rfl, rfl⟩
          case round =>
            obtain ⟨rfl, rfl⟩ := hrel
            go_wp2_with fail
            go_ret2
            exact ⟨_, by rw [HC.out]; rfl, by rw [HLP.out]; exact HP.out, Hbl.out⟩
        have hn : 0 < l.length := hn0 (by omega)
        obtain ⟨g0, c8, hv8, hrs8, _⟩ := HP.out.rs
        obtain ⟨g1, c9, hv9, hrs9, _⟩ := HLU.out.rs
        rw [List.length_map, hpl2] at hv8
        rw [List.length_map, hll2] at hv9
        subst hv8 hv9
        obtain ⟨gp, rfl, hgp1, hgp2⟩ := HP.out.at (by rw [List.length_map, hpl2]; exact hn)
        obtain ⟨gl, rfl, hgl1, hgl2⟩ := HLU.out.at (by rw [List.length_map, hll2]; exact hn)
        have hgn : gp ≠ gl := fun e => own_off HP.out HLU.out (by decide) gp rfl (by rw [e]; rfl)
        have hcap8 := hrs8.cap
        have hcap9 := hrs9.cap
        rw [List.length_map, hpl2] at hcap8
        rw [List.length_map, hll2] at hcap9
        have HRN := Lib.hid hrn
        have HST := Lib.hid (show (partL T S l).sum = T - restN T S l from by omega)
        generalize restN T S l = R at *
        generalize hPe : partL T S l = P at *
        generalize hLe : leftL T S l = L at *
        clear hrs8 hrs9 hrn hn0 hPe hLe hR
        go_loopw [10] (fun rv w6 => ∃ (j : Nat) (Pj Lj : List Int), j ≤ R ∧ rv = .int .i64 j ∧ Pj.length = l.length ∧ Lj.length = l.length ∧ (∀ z ∈ Pj, 0 ≤ z) ∧ Pj.sum = T - j ∧ refGive R P L = refGive j Pj Lj ∧ Own w6 w.heap.size 2 1 (.slice (some ⟨gp, 0, none⟩) l.length c8) (Pj.map encI) ∧ Own w6 w.heap.size 77 1 (.slice (some ⟨gl, 0, none⟩) l.length c9) (Lj.map encU) ∧ Below w.heap.size w w6) (fun rv _ => (intOf rv).toNat)
        case atStart => exact ⟨R, P, L, Nat.le_refl _, by rw [HRN.out], hpl2, hll2, HPN.out, HST.out, rfl, HP.out, HLU.out, Hbl.out⟩
        case round =>
          obtain ⟨j, Pj, Lj, hj, rfl, hPl, hLl, hPn, hPs, hRG, hoP, hoL, hb6⟩ := hrel
          have HPn := Lib.hid hPn
          have HPs := Lib.hid hPs
          have HRG := Lib.hid hRG
          have HoP := Lib.hid hoP
          have HoL := Lib.hid hoL
          have Hb6 := Lib.hid hb6
          clear hPn hPs hRG hoP hoL hb6
          by_cases hj0 : 0 < j
          · have dj : decide (0 < (j : Int)) = true := by simp; omega
            go_wp2_with fail
            go_loopw [16, 17] (fun bv i w7 => ∃ k : Nat, k ≤ l.length ∧ i = .int .i64 k ∧ bv = .int .i64 (bestN Lj k) ∧ ∃ m, w7 = wr.drewN m) (fun _ i _ => l.length - (intOf i).toNat)
            case atStart => exact ⟨0, Nat.zero_le _, rfl, rfl, 0, rfl⟩
            case round =>
              obtain ⟨i, hi, rfl, rfl, mm, rfl⟩ := hrel
              have hbi : bestN Lj i < l.length := by have := (bestN_spec Lj i).2.2; omega
              by_cases hil : i < l.length
              · have dl2 : decide ((i : Int) < (l.length : Int)) = true := by simp; omega
                have il : (i : Int) < (l.length : Int) := by omega
                have bl : ((bestN Lj i : Nat) : Int) < (l.length : Int) := by omega
                have x0 := ownU_cell HoL.out (k := i) (by omega)
                have x1 := ownU_cell HoL.out (k := bestN Lj i) (by omega)
                obtain ⟨x, hx⟩ : ∃ x, x = Lj.getD i 0 := ⟨_, rfl⟩
                obtain ⟨y, hy⟩ : ∃ y, y = Lj.getD (bestN Lj i) 0 := ⟨_, rfl⟩
                rw [← hx] at x0
                rw [← hy] at x1
                by_cases hyx : y < x
                · have dx : decide (y < x) = true := by simpa using hyx
                  have HBN := Lib.hid (show bestN Lj (i + 1) = i from by
                    show (if Lj.getD (bestN Lj i) 0 < Lj.getD i 0 then i else bestN Lj i) = i
                    rw [← hx, ← hy, if_pos hyx])
                  clear hx hy hyx
                  generalize bestN Lj i = bi at *
                  go_wp2_with fail
                  go_quiet (fail)
                  go_wp2_with fail
                  go_roundw
                  case rel => exact ⟨i + 1, by omega, by go_num, by rw [HBN.out], _, rfl⟩
                  case measure => simp [intOf]; omega
                · have dx : decide (y < x) = false := by simpa using hyx
                  have HBN := Lib.hid (show bestN Lj (i + 1) = bestN Lj i from by
                    show (if Lj.getD (bestN Lj i) 0 < Lj.getD i 0 then i else bestN Lj i) = _
                    rw [← hx, ← hy, if_neg hyx])
                  clear hx hy hyx
                  generalize bestN Lj i = bi at *
                  go_wp2_with fail
                  go_quiet (fail)
                  go_wp2_with fail
                  go_roundw
                  case rel => exact ⟨i + 1, by omega, by go_num, by rw [HBN.out], _, rfl⟩
                  case measure => simp [intOf]; omega
              · have dl2 : decide ((i : Int) < (l.length : Int)) = false := by simp; omega
                have hie : i = l.length := by omega
                obtain ⟨j', rfl⟩ : ∃ j', j = j' + 1 := ⟨j - 1, by omega⟩
                obtain ⟨v, hv⟩ : ∃ v, v = Pj.getD (bestN Lj i) 0 := ⟨_, rfl⟩
                have hbP : bestN Lj i < Pj.length := by omega
                have x0 := ownI_cell HoP.out (k := bestN Lj i) (by omega)
                rw [← hv] at x0
                have x1 := ownU_cell HoL.out (k := bestN Lj i) (by omega)
                generalize Lj.getD (bestN Lj i) 0 = old at x1
                have HNX := Lib.hid (show refGive R P L = refGive j' (Pj.set (bestN Lj i) (v + 1)) (Lj.set (bestN Lj i) 0) from by
                  rw [HRG.out, hv, hie, ← hLl]; rfl)
                have HSM := Lib.hid (show (Pj.set (bestN Lj i) (v + 1)).sum = T - j' from by
                  rw [hv, set_sum Pj _ hbP, HPs.out]; omega)
                have HNN := Lib.hid (show ∀ z ∈ Pj.set (bestN Lj i) (v + 1), 0 ≤ z from by
                  rw [hv]; exact addAt_nonneg HPn.out _)
                have hv0 : 0 ≤ v := by
                  rw [hv, List.getD_eq_getElem?_getD, List.getElem?_eq_getElem hbP]
                  exact HPn.out _ (List.getElem_mem hbP)
                have hv1 : v + 1 ≤ T := by
                  have h1 := mem_le_sum HNN.out (List.mem_set hbP (v + 1))
                  rw [HSM.out] at h1
                  omega
                have bl : ((bestN Lj i : Nat) : Int) < (l.length : Int) := by omega
                clear hv
                generalize bestN Lj i = bi at *
                obtain ⟨cu8, hk8⟩ := HoP.out.blk rfl
                obtain ⟨cu9, hk9⟩ := HoL.out.blk rfl
                have fz8 := fun i => hk8.frozen i
                have fz9 := fun i => hk9.frozen i
                have HoP2 := Lib.hid ((ownI_put (HoP.out.keep (below_drewN (Below.refl _ _) mm)) hbP (v + 1)).far (p := ⟨gl, bi, none⟩) (by simp [Value.ownBlock]; exact hgn) (.int .u64 0))
                have HoL2 := Lib.hid (ownU_put ((HoL.out.keep (below_drewN (Below.refl _ _) mm)).far (p := ⟨gp, bi, none⟩) (by simp [Value.ownBlock]; exact fun e => hgn e.symm) (.int .i64 (v + 1))) (k := bi) (by omega) 0)
                have hz6 := Hb6.out.size
                clear hk8 hk9
                go_wp2_with fail
                go_roundw
                case rel => exact ⟨j', Pj.set bi (v + 1), Lj.set bi 0, by omega, by go_num, by simp [hPl], by simp [hLl], HNN.out, HSM.out, HNX.out, HoP2.out, HoL2.out, by have h6 := Hb6.out; (repeat' (first | (with_reducible exact Below.refl _ _) | (with_reducible assumption) | (with_reducible refine Below.alloc ?_ ?_ _) | (with_reducible refine Below.setCell ?_ ?_ _) | (with_reducible refine Below.drew ?_) | (with_reducible refine below_drewN ?_ _) | (with_reducible refine below_via ?_ (by with_reducible assumption) ?_) | omega | (simp; done) | (simp; omega)))⟩
                case measure => simp [intOf]
          · have dj : decide (0 < (j : Int)) = false := by simp; omega
            have HLP := Lib.hid (show spL T l = Pj from by rw [HL.out, HRG.out, show j = 0 from by omega]; rfl)
            go_wp2_with fail
            go_ret2
            exact ⟨_, by rw [HC.out]; rfl, by rw [HLP.out]; exact HoP.out, Hb6.out⟩
end Go.Proofs.Ytenehpcliajdnaa
