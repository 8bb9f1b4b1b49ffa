/- Fills: contracts of block.within, wrong, ContainsFunc of it, size. -/
import Derived.Test.YtenehpcliajdnaaBlkT
import Derived.Test.YtenehpcliajdnaaList
import Derived.Test.YtenehpcliajdnaaRowL
import Derived.Test.YtenehpcliajdnaaRows
import Derived.Test.YtenehpcliajdnaaWide6
import Derived.Test.YtenehpcliajdnaaFix2
import Derived.Deep.RegionHeld3
import Derived.BigQuiet
namespace Go.Proofs.Ytenehpcliajdnaa
open Go.RowKit
theorem elFill : Elem Try.prog 22 32 2 16 := elem_of Try.underlying22 (z := .agg #[.int .i64 0, .int .i64 0]) (by kernel_rfl) rfl (by omega)
set_option maxRecDepth 100000 in
set_option maxHeartbeats 2000000 in
theorem blkWithin (q : Int) (w : World) : Calls Try.prog 58 #[.int .i64 q] w fun e w' => e = .returned (.bool (withinQ q)) ∧ Below w.heap.size w w' := by
  cases h : decide (-1099511627776 ≤ q)
  · have HP := Lib.hid (show withinQ q = false from by unfold withinQ; rw [h]; rfl)
    go_enter Try.func58, Try.ntmps58
    go_wp2_with fail
    go_ret
    exact ⟨by rw [HP.out]; first | done | rfl, by (repeat' (first | (with_reducible exact Below.refl _ _) | (with_reducible assumption) | (with_reducible refine Below.alloc ?_ ?_ _) | (with_reducible refine Below.setCell ?_ ?_ _) | (with_reducible refine Below.drew ?_) | (with_reducible refine below_drewN ?_ _) | (with_reducible refine below_via ?_ (by with_reducible assumption) ?_) | omega | (simp; done) | (simp; omega)))⟩
  · have HP := Lib.hid (show withinQ q = decide (q ≤ 1099511627776) from by unfold withinQ; rw [h]; rfl)
    go_enter Try.func58, Try.ntmps58
    go_wp2_with fail
    go_ret
    exact ⟨by rw [HP.out]; first | done | rfl, by (repeat' (first | (with_reducible exact Below.refl _ _) | (with_reducible assumption) | (with_reducible refine Below.alloc ?_ ?_ _) | (with_reducible refine Below.setCell ?_ ?_ _) | (with_reducible refine Below.drew ?_) | (with_reducible refine below_drewN ?_ _) | (with_reducible refine below_via ?_ (by with_reducible assumption) ?_) | omega | (simp; done) | (simp; omega)))⟩
set_option maxRecDepth 100000 in
set_option maxHeartbeats 4000000 in
theorem blkWrong (f : Fill) (w : World) : Calls Try.prog 67 #[.agg #[.int .i64 f.qty, .int .i64 f.price]] w fun e w' => e = .returned (.bool (fbad f)) ∧ Below w.heap.size w w' := by
  cases t0 : decide (f.price < 0)
  rotate_left
  · have HN := Lib.hid (show fbad f = true from by unfold fbad; rw [t0]; rfl)
    go_enter Try.func67, Try.ntmps67
    go_wp2_with fail
    go_ret
    exact ⟨by rw [HN.out]; first | done | rfl, by (repeat' (first | (with_reducible exact Below.refl _ _) | (with_reducible assumption) | (with_reducible refine Below.alloc ?_ ?_ _) | (with_reducible refine Below.setCell ?_ ?_ _) | (with_reducible refine Below.drew ?_) | (with_reducible refine below_drewN ?_ _) | (with_reducible refine below_via ?_ (by with_reducible assumption) ?_) | omega | (simp; done) | (simp; omega)))⟩
  cases t1 : decide (2147483647 < f.price)
  rotate_left
  · have HN := Lib.hid (show fbad f = true from by unfold fbad; rw [t0, t1]; rfl)
    go_enter Try.func67, Try.ntmps67
    go_wp2_with fail
    go_ret
    exact ⟨by rw [HN.out]; first | done | rfl, by (repeat' (first | (with_reducible exact Below.refl _ _) | (with_reducible assumption) | (with_reducible refine Below.alloc ?_ ?_ _) | (with_reducible refine Below.setCell ?_ ?_ _) | (with_reducible refine Below.drew ?_) | (with_reducible refine below_drewN ?_ _) | (with_reducible refine below_via ?_ (by with_reducible assumption) ?_) | omega | (simp; done) | (simp; omega)))⟩
  cases t2 : (f.qty == 0)
  rotate_left
  · have HN := Lib.hid (show fbad f = true from by unfold fbad; rw [t0, t1, t2]; rfl)
    go_enter Try.func67, Try.ntmps67
    go_wp2_with fail
    go_ret
    exact ⟨by rw [HN.out]; first | done | rfl, by (repeat' (first | (with_reducible exact Below.refl _ _) | (with_reducible assumption) | (with_reducible refine Below.alloc ?_ ?_ _) | (with_reducible refine Below.setCell ?_ ?_ _) | (with_reducible refine Below.drew ?_) | (with_reducible refine below_drewN ?_ _) | (with_reducible refine below_via ?_ (by with_reducible assumption) ?_) | omega | (simp; done) | (simp; omega)))⟩
  have HN := Lib.hid (show fbad f = !withinQ f.qty from by unfold fbad; rw [t0, t1, t2]; rfl)
  have C1 := Lib.hid (fun W => blkWithin f.qty W)
  generalize withinQ f.qty = wq at *
  go_enter Try.func67, Try.ntmps67
  go_wp2_with (first | (go_at_call 58; (with_reducible refine (C1.out _).mono ?_); rintro e w1 ⟨rfl, hb1⟩; obtain ⟨fc1, fg1, hc1, hf1, hz1⟩ := bget hb1; (try simp at hz1)) | fail)
  go_ret
  exact ⟨by rw [HN.out]; first | done | rfl, by (repeat' (first | (with_reducible exact Below.refl _ _) | (with_reducible assumption) | (with_reducible refine Below.alloc ?_ ?_ _) | (with_reducible refine Below.setCell ?_ ?_ _) | (with_reducible refine Below.drew ?_) | (with_reducible refine below_drewN ?_ _) | (with_reducible refine below_via ?_ (by with_reducible assumption) ?_) | omega | (simp; done) | (simp; omega)))⟩
set_option maxRecDepth 100000 in
set_option maxHeartbeats 2000000 in
theorem blkIndex (l : List Fill) (A : Option Addr) (c : Nat) (w : World) (hl : l.length ≤ 1099511627776) (hr : Rd w A 2 (l.map encFill)) :
    Calls Try.prog 88 #[.slice A l.length c, .func (Fn.func 67) #[] #[]] w fun e w' => e = .returned (.int .i64 (idxOf fbad l)) ∧ Below w.heap.size w w' := by
  have HR := Lib.hid hr
  clear hr
  go_enter Try.func88, Try.ntmps88
  go_wp2_with fail
  go_loopw [8] (fun i wr => ∃ k : Nat, k ≤ l.length ∧ i = .int .i64 k ∧ Below w.heap.size w wr ∧ ∀ j (_ : j < l.length), j < k → fbad l[j] = false) (fun i _ => l.length - (intOf i).toNat)
  case atStart => exact ⟨0, Nat.zero_le _, rfl, Below.refl _ _, fun j _ h => absurd h (by omega)⟩
  case round =>
    obtain ⟨k, hk, rfl, hbl, hno⟩ := hrel
    have Hbl := Lib.hid hbl
    have Hno := Lib.hid hno
    have hz := hbl.size
    clear hbl hno
    by_cases hlt : k < l.length
    · obtain ⟨b, o, rfl, hb, hq⟩ := HR.out k (encFill l[k]) (by simp [hlt])
      have e0 := (Hbl.out.cell (p := ⟨b, o + k * 2 + 0, none⟩) hb).trans (hq 0 _ rfl)
      have e1 := (Hbl.out.cell (p := ⟨b, o + k * 2 + 1, none⟩) hb).trans (hq 1 _ rfl)
      simp only [Nat.add_zero] at e0
      clear hq
      cases hm : fbad l[k]
      · have Hm := Lib.hid hm
        clear hm
        go_wp2_with (go_at_call 67; (with_reducible refine (blkWrong l[k] _).mono ?_); rw [Hm.out]; rintro e w1 ⟨rfl, hb1⟩; have hz1 := hb1.size; have Hb1 := Lib.hid hb1; clear hb1)
        go_roundw
        case rel => exact ⟨k + 1, by omega, by go_num, Hbl.out.trans (Hb1.out.mono hz), fun j hj h => by
          rcases Nat.lt_or_ge j k with h1 | h1
          · exact Hno.out j hj h1
          · obtain rfl : j = k := by omega
            exact Hm.out⟩
        case measure => simp [intOf]; omega
      · have hi := idx_hit (p := fbad) hlt hm Hno.out
        have Hi := Lib.hid hi
        have Hm := Lib.hid hm
        clear hm hi
        go_wp2_with (go_at_call 67; (with_reducible refine (blkWrong l[k] _).mono ?_); rw [Hm.out]; rintro e w1 ⟨rfl, hb1⟩; have hz1 := hb1.size; have Hb1 := Lib.hid hb1; clear hb1)
        go_ret
        exact ⟨by rw [Hi.out]; rfl, Hbl.out.trans (Hb1.out.mono hz)⟩
    · have hi := idx_miss (p := fbad) (l := l) (fun j hj => Hno.out j hj (by omega))
      have Hi := Lib.hid hi
      clear hi
      go_wp2_with fail
      go_ret
      exact ⟨by rw [Hi.out]; rfl, Hbl.out⟩
theorem idx_any {α : Type} (p : α → Bool) (l : List α) : decide (0 ≤ idxOf p l) = l.any p := by
  unfold idxOf
  cases h : l.findIdx? p with
  | none =>
    rw [List.findIdx?_eq_none_iff] at h
    have : l.any p = false := by rw [List.any_eq_false]; intro x hx; simpa using h x hx
    simp [this]
  | some k =>
    rw [List.findIdx?_eq_some_iff_getElem] at h
    obtain ⟨hk, h1, _⟩ := h
    have : l.any p = true := by
      rw [List.any_eq_true]; exact ⟨_, List.getElem_mem hk, h1⟩
    simp [this]
set_option maxRecDepth 100000 in
set_option maxHeartbeats 1000000 in
theorem blkContains (l : List Fill) (A : Option Addr) (c : Nat) (w : World) (hl : l.length ≤ 1099511627776) (hr : Rd w A 2 (l.map encFill)) :
    Calls Try.prog 66 #[.slice A l.length c, .func (Fn.func 67) #[] #[]] w fun e w' => e = .returned (.bool (l.any fbad)) ∧ Below w.heap.size w w' := by
  have HR := Lib.hid hr
  have HI := Lib.hid (idx_any fbad l)
  clear hr
  go_enter Try.func66, Try.ntmps66
  go_wp2_with (go_at_call 88; (with_reducible refine (blkIndex l A c _ hl HR.out).mono ?_); rintro e w1 ⟨rfl, hb1⟩; obtain ⟨fc1, fg1, hc1, hf1, hz1⟩ := bget hb1; try simp at hz1)
  go_ret
  exact ⟨by rw [← HI.out]; rfl, by (repeat' (first | (with_reducible exact Below.refl _ _) | (with_reducible assumption) | (with_reducible refine Below.alloc ?_ ?_ _) | (with_reducible refine Below.setCell ?_ ?_ _) | (with_reducible refine Below.drew ?_) | (with_reducible refine below_drewN ?_ _) | (with_reducible refine below_via ?_ (by with_reducible assumption) ?_) | omega | (simp; done) | (simp; omega)))⟩
theorem rowsW' (l : List Int) : ∀ r ∈ l.map encW, r.length = 2 ∧ ∀ u ∈ r, u.oneCell' = true := by
  intro r hr
  obtain ⟨m, _, rfl⟩ := List.mem_map.1 hr
  refine ⟨rfl, ?_⟩
  simp only [encW, List.mem_cons, List.not_mem_nil, or_false, forall_eq_or_imp, forall_eq]
  exact ⟨rfl, rfl⟩
theorem costs_snoc {l : List Fill} {k : Nat} (h : k < l.length) : (l.take (k + 1)).map (fun f => iabs f.qty * f.price) = (l.take k).map (fun f => iabs f.qty * f.price) ++ [iabs l[k].qty * l[k].price] := by
  rw [List.take_succ_eq_append_getElem h, List.map_append]; rfl
theorem size_code {l : List Fill} {z : Int} (hz : avC l = z) (hn : z ≠ 0) : szQ l = 0 ∧ szC l = 0 := by
  unfold szQ szC; rw [hz, if_neg hn, if_neg hn]; exact ⟨rfl, rfl⟩
set_option maxRecDepth 100000 in
set_option maxHeartbeats 16000000 in
theorem blkSize (l : List Fill) (A : Option Addr) (c : Nat) (w : World) (hl : l.length ≤ 1000000) (hr : Rd w A 2 (l.map encFill)) :
    Calls Try.prog 43 #[.slice A l.length c] w fun e w' => e = .returned (.tuple #[.int .i64 (szQ l), (.agg #[.int .i64 (whi (szC l)), .int .u64 (wlo (szC l))]), .int .i64 (avC l)]) ∧ Below w.heap.size w w' := by
  have HR := Lib.hid hr
  have HD := Lib.hid (show avC l = (if l.length < 1 then 2 else if 16 < l.length then 2 else if l.any fbad = true then 2 else if mixed l = true then 2 else if 1099511627776 < aQ l then 25 else 0) from rfl)
  have C0 := Lib.hid (fun W h => blkContains l A c W (by omega) h)
  clear hr
  by_cases h1 : l.length < 1
  · have d1 : decide ((l.length : Int) < 1) = true := by simp; omega
    have HQ := Lib.hid (show avC l = 2 from by rw [HD.out, if_pos h1])
    obtain ⟨hs1, hs2⟩ := size_code HQ.out (by decide)
    have HS1 := Lib.hid hs1
    have HS2 := Lib.hid hs2
    clear hs1 hs2
    go_enter Try.func43, Try.ntmps43
    go_wp2_with fail
    refine bodyPost_ret (by simp [results, Try.results43, go_sem, go_sem]; try rfl) rfl ⟨by rw [HS1.out, HS2.out, HQ.out, whi_zero, wlo_zero], ?_⟩
    (repeat' (first | (with_reducible exact Below.refl _ _) | (with_reducible assumption) | (with_reducible refine Below.alloc ?_ ?_ _) | (with_reducible refine Below.setCell ?_ ?_ _) | (with_reducible refine Below.drew ?_) | (with_reducible refine below_drewN ?_ _) | (with_reducible refine below_via ?_ (by with_reducible assumption) ?_) | omega | (simp; done) | (simp; omega)))
  have d1 : decide ((l.length : Int) < 1) = false := by simp; omega
  by_cases h2 : 16 < l.length
  · have d2 : decide (16 < (l.length : Int)) = true := by simp; omega
    have HQ := Lib.hid (show avC l = 2 from by rw [HD.out, if_neg h1, if_pos h2])
    obtain ⟨hs1, hs2⟩ := size_code HQ.out (by decide)
    have HS1 := Lib.hid hs1
    have HS2 := Lib.hid hs2
    clear hs1 hs2
    go_enter Try.func43, Try.ntmps43
    go_wp2_with fail
    refine bodyPost_ret (by simp [results, Try.results43, go_sem, go_sem]; try rfl) rfl ⟨by rw [HS1.out, HS2.out, HQ.out, whi_zero, wlo_zero], ?_⟩
    (repeat' (first | (with_reducible exact Below.refl _ _) | (with_reducible assumption) | (with_reducible refine Below.alloc ?_ ?_ _) | (with_reducible refine Below.setCell ?_ ?_ _) | (with_reducible refine Below.drew ?_) | (with_reducible refine below_drewN ?_ _) | (with_reducible refine below_via ?_ (by with_reducible assumption) ?_) | omega | (simp; done) | (simp; omega)))
  have d2 : decide (16 < (l.length : Int)) = false := by simp; omega
  cases h3 : l.any fbad
  rotate_left
  · have HQ := Lib.hid (show avC l = 2 from by rw [HD.out, if_neg h1, if_neg h2, h3, if_pos rfl])
    obtain ⟨hs1, hs2⟩ := size_code HQ.out (by decide)
    have HS1 := Lib.hid hs1
    have HS2 := Lib.hid hs2
    clear hs1 hs2
    rw [h3] at C0
    go_enter Try.func43, Try.ntmps43
    go_wp2_with (first | (go_at_call 66; (with_reducible refine (C0.out _ (HR.out.keep (by (repeat' (first | (with_reducible exact Below.refl _ _) | (with_reducible assumption) | (with_reducible refine Below.alloc ?_ ?_ _) | (with_reducible refine Below.setCell ?_ ?_ _) | (with_reducible refine Below.drew ?_) | (with_reducible refine below_drewN ?_ _) | (with_reducible refine below_via ?_ (by with_reducible assumption) ?_) | omega | (simp; done) | (simp; omega)))))).mono ?_); rintro e w1 ⟨rfl, hb1⟩; obtain ⟨fc1, fg1, hc1, hf1, hz1⟩ := bget hb1; (try simp at hz1)) | fail)
    refine bodyPost_ret (by simp [results, Try.results43, go_sem, hc1]; try rfl) rfl ⟨by rw [HS1.out, HS2.out, HQ.out, whi_zero, wlo_zero], ?_⟩
    (repeat' (first | (with_reducible exact Below.refl _ _) | (with_reducible assumption) | (with_reducible refine Below.alloc ?_ ?_ _) | (with_reducible refine Below.setCell ?_ ?_ _) | (with_reducible refine Below.drew ?_) | (with_reducible refine below_drewN ?_ _) | (with_reducible refine below_via ?_ (by with_reducible assumption) ?_) | omega | (simp; done) | (simp; omega)))
  have HOK := Lib.hid (any_fbad h3)
  have HD1 := Lib.hid (show avC l = (if mixed l = true then 2 else if 1099511627776 < aQ l then 25 else 0) from by rw [HD.out, if_neg h1, if_neg h2, h3, if_neg (by simp)])
  rw [h3] at C0
  clear HD h3
  have hl16 : l.length ≤ 16 := by omega
  have hl1 : 0 < l.length := by omega
  have HH := Lib.hid (head_at hl1)
  go_enter Try.func43, Try.ntmps43
  go_wp2_with (first | (go_at_call 66; (with_reducible refine (C0.out _ (HR.out.keep (by (repeat' (first | (with_reducible exact Below.refl _ _) | (with_reducible assumption) | (with_reducible refine Below.alloc ?_ ?_ _) | (with_reducible refine Below.setCell ?_ ?_ _) | (with_reducible refine Below.drew ?_) | (with_reducible refine below_drewN ?_ _) | (with_reducible refine below_via ?_ (by with_reducible assumption) ?_) | omega | (simp; done) | (simp; omega)))))).mono ?_); rintro e w1 ⟨rfl, hb1⟩; obtain ⟨fc1, fg1, hc1, hf1, hz1⟩ := bget hb1; (try simp at hz1)) | fail)
  have Hb1 := Lib.hid hb1
  have hz0 := hb1.size
  simp at hz0
  have q0 : w1.cell? ⟨w.heap.size, 0, none⟩ = some (.int .i64 0) := by simp [go_sem, hc1]
  have q1 : w1.cell? ⟨w.heap.size, 1, none⟩ = some (.int .u64 0) := by simp [go_sem, hc1]
  have y0 : w1.frozen? ⟨w.heap.size, 0, none⟩ = false := by simp [go_sem, hf1]
  have y1 : w1.frozen? ⟨w.heap.size, 1, none⟩ = false := by simp [go_sem, hf1]
  have Hbw := Lib.hid (show Below w.heap.size w w1 from by (repeat' (first | (with_reducible exact Below.refl _ _) | (with_reducible assumption) | (with_reducible refine Below.alloc ?_ ?_ _) | (with_reducible refine Below.setCell ?_ ?_ _) | (with_reducible refine Below.drew ?_) | (with_reducible refine below_drewN ?_ _) | (with_reducible refine below_via ?_ (by with_reducible assumption) ?_) | omega | (simp; done) | (simp; omega))))
  clear hb1 hc1 hf1 hz1
  go_loopw [5, 6, 28] (fun m s i wr => ∃ k : Nat, k ≤ l.length ∧ i = .int .i64 k ∧ m = .int .i64 (aQ (l.take k)) ∧ Own wr w1.heap.size 79 2 s (((l.take k).map fun f => iabs f.qty * f.price).map encW) ∧ Below w1.heap.size w1 wr ∧ ∀ j (_ : j < l.length), j < k → other l l[j] = false) (fun _ _ i _ => l.length - (intOf i).toNat)
  case atStart => exact ⟨0, Nat.zero_le _, rfl, rfl, Own.nil _ _ _ _, Below.refl _ _, fun j _ h => absurd h (by omega)⟩
  case round =>
    obtain ⟨k, hk, rfl, rfl, hown, hbl, hno⟩ := hrel
    have Hbl := Lib.hid hbl
    have Hown := Lib.hid hown
    have Hno := Lib.hid hno
    have hz := hbl.size
    have hm1 := aQ_bound (take_ok HOK.out k)
    have hm2 : ((l.take k).length : Int) ≤ 16 := by rw [List.length_take]; omega
    have hm : 0 ≤ aQ (l.take k) ∧ aQ (l.take k) ≤ 17592186044416 := by omega
    have hlc : (((l.take k).map fun f => iabs f.qty * f.price).map encW).length ≤ 16 := by simp; omega
    clear hbl hown hno hm1 hm2
    by_cases hlt : k < l.length
    · have kl : (k : Int) < (l.length : Int) := by omega
      have dl : decide ((k : Int) < (l.length : Int)) = true := by simpa using hlt
      obtain ⟨b, o, rfl, hb, hc⟩ := HR.out k (encFill l[k]) (by simp [hlt])
      obtain ⟨b', o', he, hb', hc'⟩ := HR.out 0 (encFill l[0]) (by simp [hl1])
      obtain ⟨rfl, rfl⟩ : b' = b ∧ o' = o := by injection he with he; injection he with h1 h2; exact ⟨h1.symm, h2.symm⟩
      have hbx := Hbw.out.trans (Hbl.out.mono Hbw.out.size)
      have e0 := (hbx.cell (p := ⟨b', o' + k * 2 + 0, none⟩) hb).trans (hc 0 _ rfl)
      have e1 := (hbx.cell (p := ⟨b', o' + k * 2 + 1, none⟩) hb).trans (hc 1 _ rfl)
      have z0 := (hbx.cell (p := ⟨b', o' + 0 * 2 + 0, none⟩) hb).trans (hc' 0 _ rfl)
      simp only [Nat.add_zero, Nat.zero_mul] at e0 z0
      have hbw : b' < wr.heap.size := Nat.lt_of_lt_of_le hb hbx.size
      have hok := HOK.out l[k] (List.getElem_mem hlt)
      have ha := iabs_most hok.2.2.2.1 hok.2.2.2.2
      have hA := Lib.hid (sum_snoc hlt (fun f => iabs f.qty))
      have hC := Lib.hid (costs_snoc hlt)
      have HSG := Lib.hid (show other l l[k] = (decide (l[k].qty < 0) != decide (l[0].qty < 0)) from by unfold other; rw [HH.out])
      have c2 := fun W => fixAbsYes l[k].qty W (by unfold FOk at hok; unfold In64; omega) (by unfold In64; omega)
      have c3 := fun W => wideMul (iabs l[k].qty) l[k].price W (by unfold In64; omega) (by unfold FOk at hok; unfold In64; omega)
      have hAQ := Lib.hid (show aQ (l.take (k + 1)) = aQ (l.take k) + iabs l[k].qty from hA.out)
      have C2 := Lib.hid c2
      have C3 := Lib.hid c3
      clear hc hc' hbx c2 c3 hA he
      have r0 := (Hbl.out.cell (p := ⟨w.heap.size, 0, none⟩) (by simp; omega)).trans q0
      have r1 := (Hbl.out.cell (p := ⟨w.heap.size, 1, none⟩) (by simp; omega)).trans q1
      have f0 := (Hbl.out.frozen (p := ⟨w.heap.size, 0, none⟩) (by simp; omega)).trans y0
      have f1 := (Hbl.out.frozen (p := ⟨w.heap.size, 1, none⟩) (by simp; omega)).trans y1
      cases ho : other l l[k]
      · have HN := Lib.hid (fun j (hj : j < l.length) (h : j < k + 1) => show other l l[j] = false from by
          rcases Nat.lt_or_ge j k with h1 | h1
          · exact Hno.out j hj h1
          · obtain rfl : j = k := by omega
            exact ho)
        have hs := HSG.out
        rw [ho] at hs
        clear ho HSG Hno
        cases s1 : decide (l[k].qty < 0)
        all_goals
          rw [s1] at hs
          cases s2 : decide (l[0].qty < 0)
          all_goals rw [s2] at hs
          all_goals first | (exact absurd hs (by decide)) | skip
        all_goals
          clear hs
          generalize aQ (l.take k) = m at *
          generalize (l.take k).map (fun f => iabs f.qty * f.price) = cs at *
          go_wp2_with fail
          go_quiet (fail)
          go_wp2_with (first | (go_at_call 68; (with_reducible refine (C2.out _).mono ?_); rintro e w2 ⟨rfl, hb2⟩; obtain ⟨fc2, fg2, hc2, hf2, hz2⟩ := bget hb2; (try simp at hz2)) | (go_at_call 69; (with_reducible refine (C3.out _).mono ?_); rintro e w3 ⟨rfl, hb3⟩; obtain ⟨fc3, fg3, hc3, hf3, hz3⟩ := bget hb3; (try simp at hz3)) | (at_builtin; refine wpList_app rfl _ _ _ rfl elW w1.heap.size _ _ rfl ((Hown.out.keep (by (repeat' (first | (with_reducible exact Below.refl _ _) | (with_reducible assumption) | (with_reducible refine Below.alloc ?_ ?_ _) | (with_reducible refine Below.setCell ?_ ?_ _) | (with_reducible refine Below.drew ?_) | (with_reducible refine below_drewN ?_ _) | (with_reducible refine below_via ?_ (by with_reducible assumption) ?_) | omega | (simp; done) | (simp; omega))))).alloc _) (some ⟨_, 0, none⟩) 1 1 rfl [encW (iabs l[k].qty * l[k].price)] rfl (fun h => by cases h) (rd_oneN (by simp)) (rowsW' [iabs l[k].qty * l[k].price]) (by unfold maxLen; first | (simp; done) | omega | (simp; omega)) (by first | (simp; done) | omega | (simp; omega)) (by first | omega | (simp; done) | (simp; omega)) ?_; intro v4 w4 hown4 hb4; obtain ⟨fc4, fg4, hc4, hf4, hz4⟩ := bget hb4; (try simp at hz4)) | fail)
          go_roundw
          case rel => exact ⟨k + 1, by omega, by go_num, by rw [hAQ.out], by rw [hC.out, List.map_append]; exact hown4, by have hbl := Hbl.out; (repeat' (first | (with_reducible exact Below.refl _ _) | (with_reducible assumption) | (with_reducible refine Below.alloc ?_ ?_ _) | (with_reducible refine Below.setCell ?_ ?_ _) | (with_reducible refine Below.drew ?_) | (with_reducible refine below_drewN ?_ _) | (with_reducible refine below_via ?_ (by with_reducible assumption) ?_) | omega | (simp; done) | (simp; omega))), HN.out⟩
          case measure => simp [intOf]; omega
      · have HMX : Hid (mixed l = true) := by
          unfold Hid mixed
          rw [List.any_eq_true]
          exact ⟨_, List.getElem_mem hlt, ho⟩
        have HQ := Lib.hid (show avC l = 2 from by rw [HD1.out, HMX.out, if_pos rfl])
        obtain ⟨hs1, hs2⟩ := size_code HQ.out (by decide)
        have HS1 := Lib.hid hs1
        have HS2 := Lib.hid hs2
        clear hs1 hs2
        have hs := HSG.out
        rw [ho] at hs
        clear ho HSG Hno HMX
        cases s1 : decide (l[k].qty < 0)
        all_goals
          rw [s1] at hs
          cases s2 : decide (l[0].qty < 0)
          all_goals rw [s2] at hs
          all_goals first | (exact absurd hs (by decide)) | skip
        all_goals
          clear hs
          generalize aQ (l.take k) = m at *
          go_wp2_with fail
          go_quiet (fail)
          go_wp2_with fail
          have hbl := Hbl.out
          have hbw0 := Hbw.out
          refine bodyPost_ret (by simp [results, Try.results43, go_sem, r0, r1, ↓IntWalk.iteOmega]; try rfl) rfl ⟨by rw [HS1.out, HS2.out, HQ.out, whi_zero, wlo_zero], ?_⟩
          (repeat' (first | (with_reducible exact Below.refl _ _) | (with_reducible assumption) | (with_reducible refine Below.alloc ?_ ?_ _) | (with_reducible refine Below.setCell ?_ ?_ _) | (with_reducible refine Below.drew ?_) | (with_reducible refine below_drewN ?_ _) | (with_reducible refine below_via ?_ (by with_reducible assumption) ?_) | omega | (simp; done) | (simp; omega)))
    · have dl : decide ((k : Int) < (l.length : Int)) = false := by simpa using hlt
      have HT := Lib.hid (show l.take k = l from List.take_of_length_le (by omega))
      have HMX : Hid (mixed l = false) := by
        unfold Hid mixed
        rw [List.any_eq_false]
        intro x hx
        obtain ⟨j, hj, rfl⟩ := List.getElem_of_mem hx
        rw [Hno.out j hj (by omega)]; simp
      have HD2 := Lib.hid (show avC l = (if 1099511627776 < aQ l then 25 else 0) from by rw [HD1.out, HMX.out, if_neg (by simp)])
      have r0 := (Hbl.out.cell (p := ⟨w.heap.size, 0, none⟩) (by simp; omega)).trans q0
      have r1 := (Hbl.out.cell (p := ⟨w.heap.size, 1, none⟩) (by simp; omega)).trans q1
      have f0 := (Hbl.out.frozen (p := ⟨w.heap.size, 0, none⟩) (by simp; omega)).trans y0
      have f1 := (Hbl.out.frozen (p := ⟨w.heap.size, 1, none⟩) (by simp; omega)).trans y1
      rw [HT.out] at Hown hm
      rw [HT.out]
      clear Hno HMX HD1
      have hcb := aC_bound HOK.out
      by_cases hbig : 1099511627776 < aQ l
      · have db : decide (1099511627776 < aQ l) = true := by simpa using hbig
        have HQ := Lib.hid (show avC l = 25 from by rw [HD2.out, if_pos hbig])
        obtain ⟨hs1, hs2⟩ := size_code HQ.out (by decide)
        have HS1 := Lib.hid hs1
        have HS2 := Lib.hid hs2
        clear hs1 hs2
        generalize aQ l = m at *
        go_wp2_with fail
        have hbl := Hbl.out
        have hbw0 := Hbw.out
        refine bodyPost_ret (by simp [results, Try.results43, go_sem, r0, r1, ↓IntWalk.iteOmega]; try rfl) rfl ⟨by rw [HS1.out, HS2.out, HQ.out, whi_zero, wlo_zero], ?_⟩
        (repeat' (first | (with_reducible exact Below.refl _ _) | (with_reducible assumption) | (with_reducible refine Below.alloc ?_ ?_ _) | (with_reducible refine Below.setCell ?_ ?_ _) | (with_reducible refine Below.drew ?_) | (with_reducible refine below_drewN ?_ _) | (with_reducible refine below_via ?_ (by with_reducible assumption) ?_) | omega | (simp; done) | (simp; omega)))
      · have db : decide (1099511627776 < aQ l) = false := by simpa using hbig
        have HQ := Lib.hid (show avC l = 0 from by rw [HD2.out, if_neg hbig])
        have HS1 := Lib.hid (show szQ l = aQ l from by unfold szQ; rw [HQ.out, if_pos rfl])
        have HS2 := Lib.hid (show szC l = aC l from by unfold szC; rw [HQ.out, if_pos rfl])
        have hown := Hown.out
        obtain ⟨A9, c9, hv9, hrs9, _⟩ := hown.rs
        rw [List.length_map] at hv9
        subst hv9
        have CA := Lib.hid (fun W (h : Below wr.heap.size wr W) => wideAddYes (l.map fun f => iabs f.qty * f.price) A9 c9 W (by simp; omega) (fun z hz => by
          obtain ⟨y, hy, rfl⟩ := List.mem_map.1 hz
          have hok := HOK.out y hy
          have ha := iabs_most hok.2.2.2.1 hok.2.2.2.2
          have := mul_bound ha.1 hok.1 hok.2.1
          unfold In128; omega) (hrs9.keep h).rd (by unfold In128; unfold aC at hcb; omega))
        have HAC := Lib.hid (show (l.map fun f => iabs f.qty * f.price).sum = aC l from rfl)
        clear hown hrs9 Hown
        generalize (l.map fun f => iabs f.qty * f.price) = cs at *
        generalize aQ l = m at *
        go_wp2_with (first | (go_at_call 70; (with_reducible refine (CA.out _ (by (repeat' (first | (with_reducible exact Below.refl _ _) | (with_reducible assumption) | (with_reducible refine Below.alloc ?_ ?_ _) | (with_reducible refine Below.setCell ?_ ?_ _) | (with_reducible refine Below.drew ?_) | (with_reducible refine below_drewN ?_ _) | (with_reducible refine below_via ?_ (by with_reducible assumption) ?_) | omega | (simp; done) | (simp; omega))))).mono ?_); rintro e w5 ⟨rfl, hb5⟩; obtain ⟨fc5, fg5, hc5, hf5, hz5⟩ := bget hb5; (try simp at hz5)) | fail)
        have hbl := Hbl.out
        have hbw0 := Hbw.out
        go_region
        all_goals
          go_wp2_with fail
          refine bodyPost_ret (by simp [results, Try.results43, go_sem, hc5, r0, r1, ↓IntWalk.iteOmega]; try rfl) rfl ⟨by rw [HS1.out, HS2.out, HQ.out, ← HAC.out], ?_⟩
          (repeat' (first | (with_reducible exact Below.refl _ _) | (with_reducible assumption) | (with_reducible refine Below.alloc ?_ ?_ _) | (with_reducible refine Below.setCell ?_ ?_ _) | (with_reducible refine Below.drew ?_) | (with_reducible refine below_drewN ?_ _) | (with_reducible refine below_via ?_ (by with_reducible assumption) ?_) | omega | (simp; done) | (simp; omega)))
end Go.Proofs.Ytenehpcliajdnaa
