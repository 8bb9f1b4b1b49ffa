/- Shares: contracts of fix.Scale, share.right, quotas, Takes. -/
import Derived.Test.YtenehpcliajdnaaShrP
import Derived.Test.YtenehpcliajdnaaFix2
import Derived.Test.YtenehpcliajdnaaWide7
import Derived.Test.YtenehpcliajdnaaRowL
import Derived.Test.YtenehpcliajdnaaRows
namespace Go.Proofs.Ytenehpcliajdnaa
open Go.RowKit
set_option maxRecDepth 100000 in
set_option maxHeartbeats 4000000 in
theorem fixScaleOk (a n d : Int) (w : World) (ha : In64 a) (hn : In64 n) (hd : 0 < d) (hd1 : d ≤ 9223372036854775807) (h : In64 (a * n / d)) :
    Calls Try.prog 82 #[.int .i64 a, .int .i64 n, .int .i64 d] w fun e w' => e = .returned (.tuple #[.int .i64 (a * n / d), .int .i64 (a * n % d), .int .i64 0]) ∧ Below w.heap.size w w' := by
  have hm := mul64_128 ha hn
  go_enter Try.func82, Try.ntmps82
  go_wp2_with (first | (go_at_call 69; (with_reducible refine (wideMul a n _ ha hn).mono ?_); rintro e w1 ⟨rfl, hb1⟩; obtain ⟨fc1, fg1, hc1, hf1, hz1⟩ := bget hb1; (try simp at hz1)) | (go_at_call 44; (with_reducible refine (wideDiv (a * n) d _ hm hd hd1).mono ?_); rintro e w2 ⟨rfl, hb2⟩; obtain ⟨fc2, fg2, hc2, hf2, hz2⟩ := bget hb2; (try simp at hz2)) | (go_at_call 80; (with_reducible refine (narrowYes (a * n / d) _ h).mono ?_); rintro e w3 ⟨rfl, hb3⟩; obtain ⟨fc3, fg3, hc3, hf3, hz3⟩ := bget hb3; (try simp at hz3)) | fail)
  refine bodyPost_ret (by simp [results, Try.results82, go_sem, ]; try rfl) rfl ⟨rfl, ?_⟩
  (repeat' (first | (with_reducible exact Below.refl _ _) | (with_reducible assumption) | (with_reducible refine Below.alloc ?_ ?_ _) | (with_reducible refine Below.setCell ?_ ?_ _) | (with_reducible refine Below.drew ?_) | (with_reducible refine below_drewN ?_ _) | (with_reducible refine below_via ?_ (by with_reducible assumption) ?_) | omega | (simp; done) | (simp; omega)))
/-- No number is below 0. -/
def rightS (T : Int) (l : List Int) : Bool := decide (0 ≤ T) && l.all (fun x => decide (0 ≤ x))
theorem minL_nonneg : ∀ (l : List Int) (a : Int), decide (0 ≤ minL a l) = (decide (0 ≤ a) && l.all (fun x => decide (0 ≤ x)))
  | [], a => by
    show decide (0 ≤ a) = (decide (0 ≤ a) && true)
    rw [Bool.and_true]
  | x :: t, a => by
    have h := minL_nonneg t (min a x)
    have hm : decide (0 ≤ min a x) = (decide (0 ≤ a) && decide (0 ≤ x)) := by
      rw [Bool.eq_iff_iff, Bool.and_eq_true, decide_eq_true_eq, decide_eq_true_eq, decide_eq_true_eq]; omega
    show decide (0 ≤ minL (min a x) t) = _
    rw [h, List.all_cons, hm, Bool.and_assoc]
set_option maxRecDepth 100000 in
set_option maxHeartbeats 4000000 in
theorem shrRight (T : Int) (l : List Int) (A : Option Addr) (c : Nat) (w : World) (hl : l.length ≤ 1000000) (hr : Rd w A 1 (l.map encI)) :
    Calls Try.prog 61 #[.int .i64 T, .slice A l.length c] w fun e w' => e = .returned (.bool (rightS T l)) ∧ Below w.heap.size w w' := by
  have HR := Lib.hid hr
  have HM := Lib.hid (minL_nonneg l T)
  clear hr
  obtain ⟨m, hm⟩ : ∃ m, minL T l = m := ⟨_, rfl⟩
  have C1 := Lib.hid (fun W (h : Rd W A 1 (l.map encI)) => show Calls Try.prog 81 #[.int .i64 T, .slice A l.length c] W (fun e w' => e = .returned (.int .i64 m) ∧ W = w') from by rw [← hm]; exact fixLeast T l A c W (by omega) h)
  rw [hm] at HM
  clear hm
  go_enter Try.func61, Try.ntmps61
  go_wp2_with (first | (go_at_call 81; (with_reducible refine (C1.out _ (HR.out.keep (by (repeat' (first | (with_reducible exact Below.refl _ _) | (with_reducible assumption) | (with_reducible refine Below.alloc ?_ ?_ _) | (with_reducible refine Below.setCell ?_ ?_ _) | (with_reducible refine Below.drew ?_) | (with_reducible refine below_drewN ?_ _) | (with_reducible refine below_via ?_ (by with_reducible assumption) ?_) | omega | (simp; done) | (simp; omega)))))).mono ?_); rintro e w1 ⟨rfl, rfl⟩) | fail)
  go_ret
  exact ⟨by unfold rightS; rw [← HM.out]; first | done | rfl, by (repeat' (first | (with_reducible exact Below.refl _ _) | (with_reducible assumption) | (with_reducible refine Below.alloc ?_ ?_ _) | (with_reducible refine Below.setCell ?_ ?_ _) | (with_reducible refine Below.drew ?_) | (with_reducible refine below_drewN ?_ _) | (with_reducible refine below_via ?_ (by with_reducible assumption) ?_) | omega | (simp; done) | (simp; omega)))⟩
theorem right_iff {T : Int} {l : List Int} : rightS T l = true ↔ 0 ≤ T ∧ ∀ x ∈ l, 0 ≤ x := by
  unfold rightS; simp
theorem elQuo : Elem Try.prog 97 101 3 24 := elem_of Try.underlying97 (z := .agg #[.int .i64 0, .int .i64 0, .int .i64 0]) (by kernel_rfl) rfl (by omega)
theorem quoF_snoc (T S : Int) : ∀ (l : List Int) (k n : Nat) (h : n < l.length), (quoF T S k l).take (n + 1) = (quoF T S k l).take n ++ [⟨(k + n : Nat), T * l[n] / S, T * l[n] % S⟩]
  | x :: t, k, 0, _ => by simp [quoF]
  | x :: t, k, n + 1, h => by
    have := quoF_snoc T S t (k + 1) n (by simpa using h)
    simp only [quoF, List.take_succ_cons, List.getElem_cons_succ, List.cons_append] at this ⊢
    rw [this, show k + 1 + n = k + (n + 1) from by omega]
theorem partL_take (T S : Int) {l : List Int} {n : Nat} (h : n < l.length) : (partL T S (l.take (n + 1))).sum = (partL T S (l.take n)).sum + T * l[n] / S := by
  unfold partL
  rw [List.take_succ_eq_append_getElem h, List.map_append, List.sum_append]; simp
theorem quota_bound {T S x : Int} (hT : 0 ≤ T) (hS : 0 < S) (h0 : 0 ≤ x) (h1 : x ≤ S) : 0 ≤ T * x / S ∧ T * x / S ≤ T := by
  refine ⟨Int.ediv_nonneg (Int.mul_nonneg hT h0) (by omega), ?_⟩
  exact Int.ediv_le_of_le_mul hS (Int.mul_le_mul_of_nonneg_left h1 hT)
/-- No quotas are more than there is. -/
theorem parts_le {T S : Int} (hT : 0 ≤ T) (hS : 0 < S) {l : List Int} (h0 : ∀ x ∈ l, 0 ≤ x) (hs : l.sum ≤ S) : 0 ≤ (partL T S l).sum ∧ (partL T S l).sum ≤ T := by
  have h1 := quoF_all T S l
  have h2 := sum_nonneg' fun z hz => (leftL_bound hS T l z hz).1
  have h3 : T * l.sum ≤ T * S := Int.mul_le_mul_of_nonneg_left hs hT
  refine ⟨sum_nonneg' fun z hz => ?_, ?_⟩
  · unfold partL at hz
    obtain ⟨x, hx, rfl⟩ := List.mem_map.1 hz
    exact Int.ediv_nonneg (Int.mul_nonneg hT (h0 x hx)) (by omega)
  · exact Int.le_of_mul_le_mul_right (by omega) hS
theorem sum_take_le {l : List Int} (h0 : ∀ x ∈ l, 0 ≤ x) (k : Nat) : (l.take k).sum ≤ l.sum := by
  have h := congrArg List.sum (List.take_append_drop k l)
  rw [List.sum_append] at h
  have := sum_nonneg' fun z hz => h0 z (List.mem_of_mem_drop (i := k) hz)
  omega
theorem mem_le_sum {l : List Int} (h0 : ∀ x ∈ l, 0 ≤ x) {x : Int} (hx : x ∈ l) : x ≤ l.sum := by
  induction l with
  | nil => simp at hx
  | cons a t ih =>
    have h1 := sum_nonneg' fun z hz => h0 z (List.mem_cons_of_mem a hz)
    have h2 := h0 a (by simp)
    simp only [List.sum_cons]
    rcases List.mem_cons.1 hx with rfl | hx
    · omega
    · have := ih (fun z hz => h0 z (by simp [hz])) hx; omega
set_option maxRecDepth 100000 in
set_option maxHeartbeats 8000000 in
theorem shrQuotas (T S : Int) (l : List Int) (A : Option Addr) (c : Nat) (w : World) (hl : l.length ≤ 1000000) (hT : 0 ≤ T) (hT1 : T ≤ 9223372036854775807) (hS : 0 < S) (hS1 : S ≤ 9223372036854775807) (hs : l.sum = S) (h0 : ∀ x ∈ l, 0 ≤ x) (hr : Rd w A 1 (l.map encI)) :
    Calls Try.prog 62 #[.int .i64 T, .int .i64 S, .slice A l.length c] w fun e w' => ∃ v, e = .returned (.tuple #[v, .int .i64 (partL T S l).sum]) ∧ Own w' w.heap.size 101 3 v ((quoF T S 0 l).map encQuo) ∧ Below w.heap.size w w' := by
  have HR := Lib.hid hr
  have H0 := Lib.hid h0
  have HSM := Lib.hid hs
  clear hr h0 hs
  go_enter Try.func62, Try.ntmps62
  go_wp2_with (at_make; refine wpList_mk rfl _ _ _ rfl elQuo w.heap.size _ _ _ l.length rfl rfl (by omega) (by omega) (by unfold maxLen; omega) (Nat.le_refl _) ?_; intro w1 hown1 hb1)
  have Hown1 := Lib.hid hown1
  have Hb1 := Lib.hid hb1
  clear hown1 hb1
  go_loopw [8, 9, 20] (fun v g i wr => ∃ k : Nat, k ≤ l.length ∧ i = .int .i64 k ∧ g = .int .i64 (partL T S (l.take k)).sum ∧ Own wr w.heap.size 101 3 v (((quoF T S 0 l).take k).map encQuo) ∧ Below w.heap.size w wr) (fun _ _ i _ => l.length - (intOf i).toNat)
  case atStart => exact ⟨0, Nat.zero_le _, rfl, rfl, by simpa using Hown1.out, Hb1.out⟩
  case round =>
    obtain ⟨k, hk, rfl, rfl, hown, hbl⟩ := hrel
    have Hown := Lib.hid hown
    have Hbl := Lib.hid hbl
    have hz := hbl.size
    clear hown hbl
    by_cases hlt : k < l.length
    · have kl : (k : Int) < (l.length : Int) := by omega
      have dl : decide ((k : Int) < (l.length : Int)) = true := by simpa using hlt
      obtain ⟨b, o, rfl, hb, hc⟩ := HR.out k (encI l[k]) (by simp [hlt])
      have e0 := (Hbl.out.cell (p := ⟨b, o + k * 1 + 0, none⟩) hb).trans (hc 0 _ rfl)
      simp only [Nat.add_zero, Nat.mul_one] at e0
      have hbw : b < wr.heap.size := by omega
      have hx0 := H0.out l[k] (List.getElem_mem hlt)
      have hx1 : l[k] ≤ S := by rw [← HSM.out]; exact mem_le_sum H0.out (List.getElem_mem hlt)
      have hq := quota_bound hT hS hx0 hx1
      have hp1 := parts_le hT hS (l := l.take k) (fun x hx => H0.out x (List.mem_of_mem_take hx)) (by have := sum_take_le H0.out k; rw [HSM.out] at this; exact this)
      have hp2 := parts_le hT hS (l := l.take (k + 1)) (fun x hx => H0.out x (List.mem_of_mem_take hx)) (by have := sum_take_le H0.out (k + 1); rw [HSM.out] at this; exact this)
      have HP := Lib.hid (partL_take T S hlt)
      rw [HP.out] at hp2
      have HQ := Lib.hid (quoF_snoc T S l 0 k hlt)
      rw [Nat.zero_add] at HQ
      have hlq : (((quoF T S 0 l).take k).map encQuo).length ≤ 1000000 := by rw [List.length_map, List.length_take]; omega
      obtain ⟨x, hxe⟩ : ∃ x, x = l[k] := ⟨_, rfl⟩
      rw [← hxe] at e0 hx0 hx1 hq hp2 HP HQ
      have C1 := Lib.hid (fun W => fixScaleOk T x S W (by unfold In64; omega) (by unfold In64; omega) hS hS1 (by unfold In64; omega))
      clear hc hxe
      generalize T * x / S = qq at *
      generalize T * x % S = rr at *
      generalize (partL T S (l.take k)).sum = gv at *
      generalize (quoF T S 0 l).take k = qs at *
      go_wp2_with (first | (go_at_call 82; (with_reducible refine (C1.out _).mono ?_); rintro e w2 ⟨rfl, hb2⟩; obtain ⟨fc2, fg2, hc2, hf2, hz2⟩ := bget hb2; (try simp at hz2)) | (at_builtin; refine wpList_app rfl _ _ _ rfl elQuo w.heap.size _ _ rfl ((Hown.out.keep (by (repeat' (first | (with_reducible exact Below.refl _ _) | (with_reducible assumption) | (with_reducible refine Below.alloc ?_ ?_ _) | (with_reducible refine Below.setCell ?_ ?_ _) | (with_reducible refine Below.drew ?_) | (with_reducible refine below_drewN ?_ _) | (with_reducible refine below_via ?_ (by with_reducible assumption) ?_) | omega | (simp; done) | (simp; omega))))).alloc _) (some ⟨_, 0, none⟩) 1 1 rfl [encQuo ⟨k, qq, rr⟩] rfl (fun h => by cases h) (rd_oneN (by simp)) (rowsQuo [⟨k, qq, rr⟩]) (by unfold maxLen; first | (simp; done) | omega | (simp; omega)) (by first | (simp; done) | omega | (simp; omega)) (by first | omega | (simp; done) | (simp; omega)) ?_; intro v3 w3 hown3 hb3; obtain ⟨fc3, fg3, hc3, hf3, hz3⟩ := bget hb3; (try simp at hz3)) | fail)
      go_roundw
      case rel => exact ⟨k + 1, by omega, by go_num, by rw [HP.out], by rw [HQ.out, List.map_append]; exact hown3, by have hbl := Hbl.out; (repeat' (first | (with_reducible exact Below.refl _ _) | (with_reducible assumption) | (with_reducible refine Below.alloc ?_ ?_ _) | (with_reducible refine Below.setCell ?_ ?_ _) | (with_reducible refine Below.drew ?_) | (with_reducible refine below_drewN ?_ _) | (with_reducible refine below_via ?_ (by with_reducible assumption) ?_) | omega | (simp; done) | (simp; omega)))⟩
      case measure => simp [intOf]; omega
    · have dl : decide ((k : Int) < (l.length : Int)) = false := by simpa using hlt
      have HT := Lib.hid (show l.take k = l from List.take_of_length_le (by omega))
      have HT2 := Lib.hid (show (quoF T S 0 l).take k = quoF T S 0 l from List.take_of_length_le (by rw [quoF_len]; omega))
      rw [HT.out]
      go_wp2_with fail
      go_ret2
      exact ⟨_, rfl, by have := Hown.out; rw [HT2.out] at this; exact this, Hbl.out⟩
end Go.Proofs.Ytenehpcliajdnaa
