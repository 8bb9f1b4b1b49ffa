/- Joined: Lot5. -/
import Derived.Test.YtiidplinmempcaaJa1
import Derived.Test.YtiidplinmempcaaJz4
/- Lots: contract of lots.Sum. -/
namespace Go.Proofs.Ytiidplinmempcaa
open Go.RowKit
theorem qtyL_snoc {l : List Lot} {k : Nat} (h : k < l.length) (a : Int) : qtyL (l.take (k + 1)) a = qtyL (l.take k) a ++ (if l[k].asset == a then [l[k].qty] else []) := by
  unfold qtyL
  rw [List.take_succ_eq_append_getElem h, List.filter_append, List.map_append]
  congr 1
  cases hq : (l[k].asset == a) <;> simp [hq]
theorem qtyL_len (l : List Lot) (a : Int) : (qtyL l a).length ≤ l.length := by
  unfold qtyL; rw [List.length_map]; exact List.length_filter_le _ _
theorem qtyL_mem {l : List Lot} {a z : Int} (h : z ∈ qtyL l a) : ∃ y ∈ l, y.qty = z := by
  unfold qtyL at h
  obtain ⟨y, hy, rfl⟩ := List.mem_map.1 h
  exact ⟨y, (List.mem_filter.1 hy).1, rfl⟩
theorem sum_bound64 : ∀ {l : List Int} (_ : ∀ z ∈ l, In64 z), -9223372036854775808 * (l.length : Int) ≤ l.sum ∧ l.sum ≤ 9223372036854775807 * (l.length : Int)
  | [], _ => by simp
  | a :: t, h => by
    have h1 := sum_bound64 (l := t) (fun z hz => h z (by simp [hz]))
    have h2 := h a (by simp)
    unfold In64 at h2
    simp only [List.sum_cons, List.length_cons]
    omega
theorem sumL_in {l : List Lot} (hl : l.length ≤ 1000000) (h : ∀ y ∈ l, In64 y.qty) (a : Int) : In128 (sumL l a) := by
  have h1 := sum_bound64 (l := qtyL l a) (fun z hz => by obtain ⟨y, hy, rfl⟩ := qtyL_mem hz; exact h y hy)
  have h2 := qtyL_len l a
  unfold sumL In128
  omega
theorem in64_128 {z : Int} (h : In64 z) : In128 z := by unfold In64 at h; unfold In128; omega
theorem rowsW (l : List Int) : ∀ r ∈ l.map encW, r.length = 2 ∧ ∀ u ∈ r, u.oneCell' = true := by
  intro r hr
  obtain ⟨m, _, rfl⟩ := List.mem_map.1 hr
  refine ⟨rfl, ?_⟩
  simp only [encW, List.mem_cons, List.not_mem_nil, or_false, forall_eq_or_imp, forall_eq]
  exact ⟨rfl, rfl⟩
set_option maxRecDepth 100000 in
set_option maxHeartbeats 8000000 in
theorem lotSum (l : List Lot) (a : Int) (A : Option Addr) (c : Nat) (w : World) (hl : l.length ≤ 900000) (hin : ∀ y ∈ l, In64 y.qty) (hr : Rd w A 3 (l.map encLot)) :
    Calls Try.prog 111 #[.slice A l.length c, .int .i64 a] w fun e w' => e = .returned (.agg #[.int .i64 (whi (sumL l a)), .int .u64 (wlo (sumL l a))]) ∧ Below w.heap.size w w' := by
  have HR := Lib.hid hr
  have HIN := Lib.hid hin
  have HS := Lib.hid (show sumL l a = (qtyL l a).sum from rfl)
  have H128 := Lib.hid (sumL_in (by omega) hin a)
  have hql := qtyL_len l a
  clear hr hin
  go_enter Try.func111, Try.ntmps111
  go_wp2_with fail
  go_loopw [5, 12] (fun v i wr => ∃ k : Nat, k ≤ l.length ∧ i = .int .i64 k ∧ Own wr (w.heap.size + 1) 28 2 v ((qtyL (l.take k) a).map encW) ∧ Below w.heap.size w wr ∧ w.heap.size < wr.heap.size ∧ (wr.cell? ⟨w.heap.size, 0, none⟩ = some (.int .i64 0) ∧ wr.cell? ⟨w.heap.size, 1, none⟩ = some (.int .u64 0)) ∧ wr.frozen? ⟨w.heap.size, 0, none⟩ = false ∧ wr.frozen? ⟨w.heap.size, 1, none⟩ = false) (fun _ i _ => l.length - (intOf i).toNat)
  case atStart => exact ⟨0, Nat.zero_le _, rfl, Own.nil _ _ _ _, by (repeat' (first | (with_reducible exact Below.refl _ _) | (with_reducible assumption) | (with_reducible refine Below.alloc ?_ ?_ _) | (with_reducible refine Below.setCell ?_ ?_ _) | (with_reducible refine Below.drew ?_) | (with_reducible refine below_drewN ?_ _) | (with_reducible refine below_via ?_ (by with_reducible assumption) ?_) | omega | (simp; done) | (simp; omega))), by simp, by simp [go_sem], by simp [go_sem]⟩
  case round =>
    obtain ⟨k, hk, rfl, hown, hbl, hsz, ⟨z0, z1⟩, y0, y1⟩ := hrel
    have Hown := Lib.hid hown
    have Hbl := Lib.hid hbl
    have hz := hbl.size
    clear hown hbl
    by_cases hlt : k < l.length
    · have kl : (k : Int) < (l.length : Int) := by omega
      have dl : decide ((k : Int) < (l.length : Int)) = true := by simpa using hlt
      obtain ⟨b, o, rfl, hb, hc⟩ := HR.out k (encLot l[k]) (by simp [hlt])
      have e0 := (Hbl.out.cell (p := ⟨b, o + k * 3 + 0, none⟩) hb).trans (hc 0 _ rfl)
      have e1 := (Hbl.out.cell (p := ⟨b, o + k * 3 + 1, none⟩) hb).trans (hc 1 _ rfl)
      have e2 := (Hbl.out.cell (p := ⟨b, o + k * 3 + 2, none⟩) hb).trans (hc 2 _ rfl)
      simp only [Nat.add_zero] at e0
      clear hc
      have hbw : b < wr.heap.size := by omega
      have hq := qtyL_snoc hlt a
      have hlen : (qtyL (l.take k) a).length ≤ 900000 := Nat.le_trans (qtyL_len _ _) (by rw [List.length_take]; omega)
      have CO := Lib.hid (fun W => wideOf l[k].qty W (HIN.out l[k] (List.getElem_mem hlt)))
      cases h1 : (l[k].asset == a)
      · have HN := Lib.hid (show qtyL (l.take (k + 1)) a = qtyL (l.take k) a from by rw [hq, h1]; simp)
        clear hq
        generalize qtyL (l.take k) a = z at *
        go_wp2_with fail
        go_roundw
        case rel => exact ⟨k + 1, by omega, by go_num, by rw [HN.out]; exact Hown.out.alloc _, by have hbl := Hbl.out; (repeat' (first | (with_reducible exact Below.refl _ _) | (with_reducible assumption) | (with_reducible refine Below.alloc ?_ ?_ _) | (with_reducible refine Below.setCell ?_ ?_ _) | (with_reducible refine Below.drew ?_) | (with_reducible refine below_drewN ?_ _) | (with_reducible refine below_via ?_ (by with_reducible assumption) ?_) | omega | (simp; done) | (simp; omega))), by simp; omega, by simp [go_sem, z0, z1, hsz], by simp [go_sem, y0, y1, hsz]⟩
        case measure => simp [intOf]; omega
      · have HN := Lib.hid (show qtyL (l.take (k + 1)) a = qtyL (l.take k) a ++ [l[k].qty] from by rw [hq, h1]; simp)
        clear hq
        generalize qtyL (l.take k) a = z at *
        go_wp2_with (first | (go_at_call 103; (with_reducible refine (CO.out _).mono ?_); rintro e w1 ⟨rfl, hb1⟩; obtain ⟨fc1, fg1, hc1, hf1, hz1⟩ := bget hb1; (try simp at hz1)) | (at_builtin; refine wpList_app rfl _ _ _ rfl elW (w.heap.size + 1) _ _ rfl ((Hown.out.keep (by (repeat' (first | (with_reducible exact Below.refl _ _) | (with_reducible assumption) | (with_reducible refine Below.alloc ?_ ?_ _) | (with_reducible refine Below.setCell ?_ ?_ _) | (with_reducible refine Below.drew ?_) | (with_reducible refine below_drewN ?_ _) | (with_reducible refine below_via ?_ (by with_reducible assumption) ?_) | omega | (simp; done) | (simp; omega))))).alloc _) (some ⟨_, 0, none⟩) 1 1 rfl [encW l[k].qty] rfl (fun h => by cases h) (rd_oneN (by simp)) (rowsW [l[k].qty]) (by unfold maxLen; first | (simp; done) | omega | (simp; omega)) (by first | (simp; done) | omega | (simp; omega)) (by first | omega | (simp; done) | (simp; omega)) ?_; intro v3 w3 hown3 hb3; obtain ⟨fc3, fg3, hc3, hf3, hz3⟩ := bget hb3; (try simp at hz3)) | fail)
        go_roundw
        case rel => exact ⟨k + 1, by omega, by go_num, by rw [HN.out, List.map_append]; exact hown3, by have hbl := Hbl.out; (repeat' (first | (with_reducible exact Below.refl _ _) | (with_reducible assumption) | (with_reducible refine Below.alloc ?_ ?_ _) | (with_reducible refine Below.setCell ?_ ?_ _) | (with_reducible refine Below.drew ?_) | (with_reducible refine below_drewN ?_ _) | (with_reducible refine below_via ?_ (by with_reducible assumption) ?_) | omega | (simp; done) | (simp; omega))), by first | omega | (simp at hz3; omega), by simp [hc3, hc1, go_sem, z0, z1, hsz, ↓IntWalk.iteOmega], by simp [hf3, hf1, go_sem, y0, y1, hsz, ↓IntWalk.iteOmega]⟩
        case measure => simp [intOf]; omega
    · have dl : decide ((k : Int) < (l.length : Int)) = false := by simpa using hlt
      have HT := Lib.hid (show l.take k = l from List.take_of_length_le (by omega))
      have hown := Hown.out
      rw [HT.out] at hown
      obtain ⟨A9, c9, hv9, hrs9, _⟩ := hown.rs
      rw [List.length_map] at hv9
      subst hv9
      have CA := Lib.hid (fun W (h : Below wr.heap.size wr W) => wideAddYes (qtyL l a) A9 c9 W (by omega) (fun z hz => by obtain ⟨y, hy, rfl⟩ := qtyL_mem hz; exact in64_128 (HIN.out y hy)) (hrs9.keep h).rd (by rw [← HS.out]; exact H128.out))
      clear hown hrs9
      generalize qtyL l a = z at *
      go_wp2_with (first | (go_at_call 74; (with_reducible refine (CA.out _ (by (repeat' (first | (with_reducible exact Below.refl _ _) | (with_reducible assumption) | (with_reducible refine Below.alloc ?_ ?_ _) | (with_reducible refine Below.setCell ?_ ?_ _) | (with_reducible refine Below.drew ?_) | (with_reducible refine below_drewN ?_ _) | (with_reducible refine below_via ?_ (by with_reducible assumption) ?_) | omega | (simp; done) | (simp; omega))))).mono ?_); rintro e w1 ⟨rfl, hb1⟩; obtain ⟨fc1, fg1, hc1, hf1, hz1⟩ := bget hb1; (try simp at hz1)) | fail)
      have hbl := Hbl.out
      refine bodyPost_ret (by simp [results, Try.results111, go_sem, hc1, z0, z1, hsz, ↓IntWalk.iteOmega]; try rfl) rfl ⟨by rw [HS.out], ?_⟩
      (repeat' (first | (with_reducible exact Below.refl _ _) | (with_reducible assumption) | (with_reducible refine Below.alloc ?_ ?_ _) | (with_reducible refine Below.setCell ?_ ?_ _) | (with_reducible refine Below.drew ?_) | (with_reducible refine below_drewN ?_ _) | (with_reducible refine below_via ?_ (by with_reducible assumption) ?_) | omega | (simp; done) | (simp; omega)))
end Go.Proofs.Ytiidplinmempcaa
