/- Joined: Wide6, Fix2, Lot5, Bits0, Big1, Big2, Big3. -/
import Derived.Test.YtiidplinmempcaaJz4
import Derived.Test.YtiidplinmempcaaJz1
import Derived.Test.YtiidplinmempcaaJz3
import Derived.Test.YtiidplinmempcaaRows
import Derived.WalkKit
import Derived.WalkSpells
import Derived.WalkLawsBesides
import Derived.BigQuiet
import Derived.Deep.RegionHeld3
import Derived.Handy
/- Contract of wide.Add. -/
namespace Go.Proofs.Ytiidplinmempcaa
open Go.RowKit
/-- A wide number's two cells. -/
def encW (n : Int) : List Value := [.int .i64 (whi n), .int .u64 (wlo n)]
theorem sum_take_succ (l : List Int) (k : Nat) (h : k < l.length) : (l.take (k + 1)).sum = (l.take k).sum + l[k] := by
  rw [List.take_succ_eq_append_getElem h, List.sum_append]; simp
theorem sum_bound (l : List Int) (hin : ∀ n ∈ l, In128 n) : -(l.length * 170141183460469231731687303715884105728 : Int) ≤ l.sum ∧ l.sum ≤ l.length * 170141183460469231731687303715884105728 := by
  induction l with
  | nil => simp
  | cons a l ih =>
    have h1 := hin a (by simp)
    have h2 := ih (fun n hn => hin n (by simp [hn]))
    unfold In128 at h1
    simp only [List.sum_cons, List.length_cons]
    omega
set_option maxRecDepth 100000 in
set_option maxHeartbeats 1000000 in
theorem wideAddAt (l : List Int) (A : Option Addr) (c : Nat) (w : World) (hl : l.length ≤ 4503599627370496) (hin : ∀ n ∈ l, In128 n) (hr : Rd w A 2 (l.map encW)) (x y z : Int)
    (hv : ∀ (w' : World) (g : Nat), Blk w' g 172 (tot l.sum) → Calls Try.prog 128 #[.pointer (some ⟨g, 0, none⟩)] w' fun e w'' => e = .returned (.tuple #[.agg #[.int .i64 x, .int .u64 y], .int .i64 z]) ∧ Below w'.heap.size w' w'') :
    Calls Try.prog 74 #[.slice A l.length c] w fun e w' => e = .returned (.tuple #[.agg #[.int .i64 x, .int .u64 y], .int .i64 z]) ∧ Below w.heap.size w w' := by
  have Hv := Lib.hid hv
  have Hr := Lib.hid hr
  have Hin := Lib.hid hin
  clear hv hr hin
  go_enter Try.func74, Try.ntmps74
  go_wp2_with fail
  go_loopw [9] (fun i wr => ∃ k : Nat, k ≤ l.length ∧ i = .int .i64 k ∧ Blk wr (w.heap.size + 1) 172 (tot (l.take k).sum) ∧ Below (w.heap.size + 1) (w.alloc (.cells #[.int .i64 0, .int .u64 0] 28)) wr)
    (fun i _ => l.length - (intOf i).toNat)
  case atStart => exact ⟨0, Nat.zero_le _, rfl, by simp only [List.take_zero, List.sum_nil]; rw [show tot 0 = #[.int .i64 0, .int .i64 0, .int .u64 0] from by simp [tot, whi, wlo, wrap128]]; (repeat' (first | (with_reducible assumption) | (with_reducible refine Blk.drew ?_) | (with_reducible refine Blk.here ?_) | (with_reducible refine Blk.alloc ?_ _) | (with_reducible refine Blk.far ?_ ?_ _) | (with_reducible refine Blk.below ?_ (by with_reducible assumption) ?_) | omega | (simp; done) | (simp; omega))), by (repeat' (first | (with_reducible exact Below.refl _ _) | (with_reducible assumption) | (with_reducible refine Below.alloc ?_ ?_ _) | (with_reducible refine Below.setCell ?_ ?_ _) | (with_reducible refine Below.drew ?_) | (with_reducible refine below_drewN ?_ _) | (with_reducible refine below_via ?_ (by with_reducible assumption) ?_) | omega | (simp; done) | (simp; omega)))⟩
  case round =>
    obtain ⟨k, hk, rfl, hB, hbl⟩ := hrel
    have HB := Lib.hid hB
    have Hbl := Lib.hid hbl
    have hz := hbl.size
    simp at hz
    have hz2 := hB.lt
    clear hB hbl
    by_cases hlt : k < l.length
    · obtain ⟨b, o, rfl, hb, hc⟩ := Hr.out k (encW l[k]) (by simp [hlt])
      have c0 := (Hbl.out.cell (p := ⟨b, o + k * 2 + 0, none⟩) (by exact Nat.lt_succ_of_lt hb)).trans (cell_alloc hb (hc 0 _ rfl))
      have c1 := (Hbl.out.cell (p := ⟨b, o + k * 2 + 1, none⟩) (by exact Nat.lt_succ_of_lt hb)).trans (cell_alloc hb (hc 1 _ rfl))
      have sb := sum_bound (l.take k) (fun n hn => Hin.out n (List.mem_of_mem_take hn))
      have sl : (l.take k).length ≤ k := List.length_take_le _ _
      clear hc
      simp only [Nat.add_zero] at c0
      have hlk := Hin.out l[k] (List.getElem_mem hlt)
      obtain ⟨n, hn⟩ : ∃ n, n = l[k] := ⟨_, rfl⟩
      have hs := sum_take_succ l k hlt
      rw [← hn] at c0 c1 hlk hs
      have Hs := Lib.hid hs
      have Hn := Lib.hid hn
      clear hs hn
      go_wp2_with fail
      refine (totalAdd (l.take k).sum n (w.heap.size + 1) _ (by unfold InT; omega) hlk (by have hB := HB.out; (repeat' (first | (with_reducible assumption) | (with_reducible refine Blk.drew ?_) | (with_reducible refine Blk.here ?_) | (with_reducible refine Blk.alloc ?_ _) | (with_reducible refine Blk.far ?_ ?_ _) | (with_reducible refine Blk.below ?_ (by with_reducible assumption) ?_) | omega | (simp; done) | (simp; omega))))).mono ?_
      rintro e w1 ⟨rfl, hk1, ho1⟩
      obtain ⟨fc1, fg1, hc1, hf1, hz1⟩ := oget ho1
      rw [← Hs.out] at hk1
      have Hk1 := Lib.hid hk1
      have Ho1 := Lib.hid ho1
      clear hk1 ho1
      go_wp2_with fail
      go_roundw
      case rel => exact ⟨k + 1, by omega, by go_num, Hk1.out, by refine below_only ?_ Ho1.out ?_ ?_ <;> first | (simp; omega) | (have hb := Hbl.out; (repeat' (first | (with_reducible exact Below.refl _ _) | (with_reducible assumption) | (with_reducible refine Below.alloc ?_ ?_ _) | (with_reducible refine Below.setCell ?_ ?_ _) | (with_reducible refine Below.drew ?_) | (with_reducible refine below_drewN ?_ _) | (with_reducible refine below_via ?_ (by with_reducible assumption) ?_) | omega | (simp; done) | (simp; omega))))⟩
      case measure => simp [intOf]; omega
    · have hkl : k = l.length := by omega
      subst hkl
      have hB := HB.out
      rw [List.take_length] at hB
      obtain ⟨hfc, hff, hzz⟩ : (∀ b o, b < w.heap.size + 1 → wr.cell? ⟨b, o, none⟩ = (w.alloc (.cells #[.int .i64 0, .int .u64 0] 28)).cell? ⟨b, o, none⟩) ∧ (∀ b o, b < w.heap.size + 1 → wr.frozen? ⟨b, o, none⟩ = (w.alloc (.cells #[.int .i64 0, .int .u64 0] 28)).frozen? ⟨b, o, none⟩) ∧ True := ⟨fun b o h => Hbl.out.cell (p := ⟨b, o, none⟩) h, fun b o h => Hbl.out.frozen (p := ⟨b, o, none⟩) h, trivial⟩
      have r0 := hfc w.heap.size 0 (by omega)
      have r1 := hfc w.heap.size 1 (by omega)
      have z0 := hff w.heap.size 0 (by omega)
      have z1 := hff w.heap.size 1 (by omega)
      simp at r0 r1 z0 z1
      clear hfc hff
      have HBB := Lib.hid hB
      clear hB
      go_wp2_with fail
      refine (Hv.out _ _ HBB.out).mono ?_
      rintro e w1 ⟨rfl, hb1⟩
      obtain ⟨fc1, fg1, hc1, hf1, hz1⟩ := bget hb1
      go_wp2
      all_goals
        refine bodyPost_ret (by simp [*, results, Try.results74, go_sem, ↓IntWalk.iteOmega]; try rfl) rfl ⟨rfl, ?_⟩
        have hb := Hbl.out.mono (B' := w.heap.size) (by omega)
        have hb2 : Below w.heap.size w wr := ((Below.refl _ _).alloc (Nat.le_refl _) _).trans hb
        (repeat' (first | (with_reducible exact Below.refl _ _) | (with_reducible assumption) | (with_reducible refine Below.alloc ?_ ?_ _) | (with_reducible refine Below.setCell ?_ ?_ _) | (with_reducible refine Below.drew ?_) | (with_reducible refine below_drewN ?_ _) | (with_reducible refine below_via ?_ (by with_reducible assumption) ?_) | omega | (simp; done) | (simp; omega)))
theorem wideAddYes (l : List Int) (A : Option Addr) (c : Nat) (w : World) (hl : l.length ≤ 4503599627370496) (hin : ∀ n ∈ l, In128 n) (hr : Rd w A 2 (l.map encW)) (hs : In128 l.sum) :
    Calls Try.prog 74 #[.slice A l.length c] w fun e w' => e = .returned (.tuple #[(.agg #[.int .i64 (whi (l.sum)), .int .u64 (wlo (l.sum))]), .int .i64 0]) ∧ Below w.heap.size w w' :=
  wideAddAt l A c w hl hin hr _ _ _ fun _ _ hB => totalDoneYes _ _ _ hs hB
theorem wideAddNo (l : List Int) (A : Option Addr) (c : Nat) (w : World) (hl : l.length ≤ 4503599627370496) (hin : ∀ n ∈ l, In128 n) (hr : Rd w A 2 (l.map encW)) (hs : ¬ In128 l.sum) :
    Calls Try.prog 74 #[.slice A l.length c] w fun e w' => e = .returned (.tuple #[.agg #[.int .i64 0, .int .u64 0], .int .i64 7]) ∧ Below w.heap.size w w' :=
  wideAddAt l A c w hl hin hr _ _ _ fun _ _ hB => totalDoneNo _ _ _ hs hB
end Go.Proofs.Ytiidplinmempcaa

/- Contracts of fix.Sum, Product. -/
namespace Go.Proofs.Ytiidplinmempcaa
open Go.RowKit
theorem elW : Elem Try.prog 114 28 2 16 := elem_of Try.underlying114 (z := .agg #[.int .i64 0, .int .u64 0]) (by kernel_rfl) rfl (by omega)
theorem sum64_bound (l : List Int) (hin : ∀ n ∈ l, In64 n) : -(l.length * 9223372036854775808 : Int) ≤ l.sum ∧ l.sum ≤ l.length * 9223372036854775808 := by
  induction l with
  | nil => simp
  | cons a l ih =>
    have h1 := hin a (by simp)
    have h2 := ih (fun n hn => hin n (by simp [hn]))
    unfold In64 at h1
    simp only [List.sum_cons, List.length_cons]
    omega
set_option maxRecDepth 100000 in
set_option maxHeartbeats 1000000 in
theorem fixSumAt (l : List Int) (A : Option Addr) (c : Nat) (w : World) (hl : l.length ≤ 1099511627776) (hin : ∀ n ∈ l, In64 n) (hr : Rd w A 1 (l.map encI)) (p q : Int)
    (hv : ∀ w1 : World, Calls Try.prog 169 #[(.agg #[.int .i64 (whi (l.sum)), .int .u64 (wlo (l.sum))]), .int .i64 0] w1 fun e w' => e = .returned (.tuple #[.int .i64 p, .int .i64 q]) ∧ Below w1.heap.size w1 w') :
    Calls Try.prog 139 #[.slice A l.length c] w fun e w' => e = .returned (.tuple #[.int .i64 p, .int .i64 q]) ∧ Below w.heap.size w w' := by
  have Hr := Lib.hid hr
  have Hin := Lib.hid hin
  have Hv := Lib.hid hv
  clear hr hin hv
  go_enter Try.func139, Try.ntmps139
  go_wp2_with (at_make; refine wpList_mk rfl _ _ _ rfl elW w.heap.size _ _ _ l.length rfl rfl (by omega) (by omega) (by unfold maxLen; omega) (Nat.le_refl _) ?_; intro w1 hown1 hb1)
  have Hown1 := Lib.hid hown1
  have Hb1 := Lib.hid hb1
  clear hown1 hb1
  go_loopw [4, 12] (fun v i wr => ∃ k : Nat, k ≤ l.length ∧ i = .int .i64 k ∧ Own wr w.heap.size 28 2 v ((l.take k).map encW) ∧ Below w.heap.size w wr) (fun _ i _ => l.length - (intOf i).toNat)
  case atStart => exact ⟨0, Nat.zero_le _, rfl, by simpa using Hown1.out, Hb1.out⟩
  case round =>
    obtain ⟨k, hk, rfl, hown, hbl⟩ := hrel
    have Hown := Lib.hid hown
    have Hbl := Lib.hid hbl
    have hz := hbl.size
    clear hown hbl
    by_cases hlt : k < l.length
    · obtain ⟨b, o, rfl, hb, hc⟩ := Hr.out k (encI l[k]) (by simp [hlt])
      have c0 := (Hbl.out.cell (p := ⟨b, o + k * 1 + 0, none⟩) hb).trans (hc 0 _ rfl)
      simp only [Nat.add_zero, Nat.mul_one] at c0
      clear hc
      have hlk := Hin.out l[k] (List.getElem_mem hlt)
      have Hs : Hid ((l.take (k + 1)).map encW = (l.take k).map encW ++ [encW l[k]]) := by unfold Hid; rw [List.take_succ_eq_append_getElem hlt, List.map_append]; rfl
      obtain ⟨n, hn⟩ : ∃ n, n = l[k] := ⟨_, rfl⟩
      rw [← hn] at c0 hlk Hs
      clear hn
      have lk : ((l.take k).map encW).length ≤ k := by simp; omega
      go_wp2_with (first | (go_at_call 103; refine (wideOf n _ hlk).mono ?_; rintro e w2 ⟨rfl, hb2⟩; have hz2 := hb2.size; have Hb2 := Lib.hid hb2; clear hb2) | (at_builtin; refine wpList_app rfl _ _ _ rfl elW w.heap.size _ _ rfl ((Hown.out.keep Hb2.out).alloc _) (some ⟨w2.heap.size, 0, none⟩) 1 1 rfl [encW n] rfl (fun h => by cases h) rd_one (by simp [encW]; exact ⟨rfl, rfl⟩) (by unfold maxLen; omega) (by omega) (by simp; omega) ?_; intro v' w3 hown3 hb3))
      go_roundw
      case rel => exact ⟨k + 1, by omega, by go_num, by rw [Hs.out]; exact hown3, ((Hbl.out.trans (Hb2.out.mono hz)).alloc (by omega) _).trans hb3⟩
      case measure => simp [intOf]; omega
    · obtain rfl : k = l.length := by omega
      have ho := Hown.out
      rw [List.take_length] at ho
      obtain ⟨A', c', rfl, _, _, hr', _⟩ := ho.shape
      have Hr' := Lib.hid hr'
      have h128 : ∀ n ∈ l, In128 n := fun n hn => in128_of64 (Hin.out n hn)
      have hsum := sum64_bound l Hin.out
      have H128 := Lib.hid h128
      clear hr' ho h128
      simp only [List.length_map]
      go_wp2_with fail
      refine (wideAddYes l A' c' _ (by omega) H128.out Hr'.out (by unfold In128; omega)).mono ?_
      rintro e w2 ⟨rfl, hb2⟩
      have hz2 := hb2.size
      have Hb2 := Lib.hid hb2
      clear hb2
      go_wp2_with fail
      refine (Hv.out _).mono ?_
      rintro e w3 ⟨rfl, hb3⟩
      have Hb3 := Lib.hid hb3
      clear hb3
      go_wp2_with fail
      go_ret2
      exact ⟨rfl, Hbl.out.trans ((Hb2.out.mono hz).trans (Hb3.out.mono (by omega)))⟩
theorem fixSumYes (l : List Int) (A : Option Addr) (c : Nat) (w : World) (hl : l.length ≤ 1099511627776) (hin : ∀ n ∈ l, In64 n) (hr : Rd w A 1 (l.map encI)) (hs : In64 l.sum) :
    Calls Try.prog 139 #[.slice A l.length c] w fun e w' => e = .returned (.tuple #[.int .i64 l.sum, .int .i64 0]) ∧ Below w.heap.size w w' :=
  fixSumAt l A c w hl hin hr _ _ fun w1 => narrowYes _ w1 hs
theorem fixSumNo (l : List Int) (A : Option Addr) (c : Nat) (w : World) (hl : l.length ≤ 1099511627776) (hin : ∀ n ∈ l, In64 n) (hr : Rd w A 1 (l.map encI)) (hs : ¬ In64 l.sum) :
    Calls Try.prog 139 #[.slice A l.length c] w fun e w' => e = .returned (.tuple #[.int .i64 0, .int .i64 7]) ∧ Below w.heap.size w w' :=
  fixSumAt l A c w hl hin hr _ _ fun w1 => narrowNo _ w1 (by have := sum64_bound l hin; unfold In128; omega) hs
end Go.Proofs.Ytiidplinmempcaa

/- Lots: contract of lots.Sum. -/
namespace Go.Proofs.Ytiidplinmempcaa
open Go.RowKit
theorem qtyL_snoc {l : List Lot} {k : Nat} (h : k < l.length) (a : Int) : qtyL (l.take (k + 1)) a = qtyL (l.take k) a ++ (if l[k].asset == a then [l[k].qty] else []) := by
  unfold qtyL
  rw [List.take_succ_eq_append_getElem h, List.filter_append, List.map_append]
  congr 1
  cases hq : (l[k].asset == a) <;> simp [hq]
theorem qtyL_len (l : List Lot) (a : Int) : (qtyL l a).length ≤ l.length := by
  unfold qtyL; rw [List.length_map]; exact List.length_filter_le _ _
theorem qtyL_mem {l : List Lot} {a z : Int} (h : z ∈ qtyL l a) : ∃ y ∈ l, y.qty = z := by
  unfold qtyL at h
  obtain ⟨y, hy, rfl⟩ := List.mem_map.1 h
  exact ⟨y, (List.mem_filter.1 hy).1, rfl⟩
theorem sum_bound64 : ∀ {l : List Int} (_ : ∀ z ∈ l, In64 z), -9223372036854775808 * (l.length : Int) ≤ l.sum ∧ l.sum ≤ 9223372036854775807 * (l.length : Int)
  | [], _ => by simp
  | a :: t, h => by
    have h1 := sum_bound64 (l := t) (fun z hz => h z (by simp [hz]))
    have h2 := h a (by simp)
    unfold In64 at h2
    simp only [List.sum_cons, List.length_cons]
    omega
theorem sumL_in {l : List Lot} (hl : l.length ≤ 1000000) (h : ∀ y ∈ l, In64 y.qty) (a : Int) : In128 (sumL l a) := by
  have h1 := sum_bound64 (l := qtyL l a) (fun z hz => by obtain ⟨y, hy, rfl⟩ := qtyL_mem hz; exact h y hy)
  have h2 := qtyL_len l a
  unfold sumL In128
  omega
theorem in64_128 {z : Int} (h : In64 z) : In128 z := by unfold In64 at h; unfold In128; omega
theorem rowsW (l : List Int) : ∀ r ∈ l.map encW, r.length = 2 ∧ ∀ u ∈ r, u.oneCell' = true := by
  intro r hr
  obtain ⟨m, _, rfl⟩ := List.mem_map.1 hr
  refine ⟨rfl, ?_⟩
  simp only [encW, List.mem_cons, List.not_mem_nil, or_false, forall_eq_or_imp, forall_eq]
  exact ⟨rfl, rfl⟩
set_option maxRecDepth 100000 in
set_option maxHeartbeats 8000000 in
theorem lotSum (l : List Lot) (a : Int) (A : Option Addr) (c : Nat) (w : World) (hl : l.length ≤ 900000) (hin : ∀ y ∈ l, In64 y.qty) (hr : Rd w A 3 (l.map encLot)) :
    Calls Try.prog 111 #[.slice A l.length c, .int .i64 a] w fun e w' => e = .returned (.agg #[.int .i64 (whi (sumL l a)), .int .u64 (wlo (sumL l a))]) ∧ Below w.heap.size w w' := by
  have HR := Lib.hid hr
  have HIN := Lib.hid hin
  have HS := Lib.hid (show sumL l a = (qtyL l a).sum from rfl)
  have H128 := Lib.hid (sumL_in (by omega) hin a)
  have hql := qtyL_len l a
  clear hr hin
  go_enter Try.func111, Try.ntmps111
  go_wp2_with fail
  go_loopw [5, 12] (fun v i wr => ∃ k : Nat, k ≤ l.length ∧ i = .int .i64 k ∧ Own wr (w.heap.size + 1) 28 2 v ((qtyL (l.take k) a).map encW) ∧ Below w.heap.size w wr ∧ w.heap.size < wr.heap.size ∧ (wr.cell? ⟨w.heap.size, 0, none⟩ = some (.int .i64 0) ∧ wr.cell? ⟨w.heap.size, 1, none⟩ = some (.int .u64 0)) ∧ wr.frozen? ⟨w.heap.size, 0, none⟩ = false ∧ wr.frozen? ⟨w.heap.size, 1, none⟩ = false) (fun _ i _ => l.length - (intOf i).toNat)
  case atStart => exact ⟨0, Nat.zero_le _, rfl, Own.nil _ _ _ _, by (repeat' (first | (with_reducible exact Below.refl _ _) | (with_reducible assumption) | (with_reducible refine Below.alloc ?_ ?_ _) | (with_reducible refine Below.setCell ?_ ?_ _) | (with_reducible refine Below.drew ?_) | (with_reducible refine below_drewN ?_ _) | (with_reducible refine below_via ?_ (by with_reducible assumption) ?_) | omega | (simp; done) | (simp; omega))), by simp, by simp [go_sem], by simp [go_sem]⟩
  case round =>
    obtain ⟨k, hk, rfl, hown, hbl, hsz, ⟨z0, z1⟩, y0, y1⟩ := hrel
    have Hown := Lib.hid hown
    have Hbl := Lib.hid hbl
    have hz := hbl.size
    clear hown hbl
    by_cases hlt : k < l.length
    · have kl : (k : Int) < (l.length : Int) := by omega
      have dl : decide ((k : Int) < (l.length : Int)) = true := by simpa using hlt
      obtain ⟨b, o, rfl, hb, hc⟩ := HR.out k (encLot l[k]) (by simp [hlt])
      have e0 := (Hbl.out.cell (p := ⟨b, o + k * 3 + 0, none⟩) hb).trans (hc 0 _ rfl)
      have e1 := (Hbl.out.cell (p := ⟨b, o + k * 3 + 1, none⟩) hb).trans (hc 1 _ rfl)
      have e2 := (Hbl.out.cell (p := ⟨b, o + k * 3 + 2, none⟩) hb).trans (hc 2 _ rfl)
      simp only [Nat.add_zero] at e0
      clear hc
      have hbw : b < wr.heap.size := by omega
      have hq := qtyL_snoc hlt a
      have hlen : (qtyL (l.take k) a).length ≤ 900000 := Nat.le_trans (qtyL_len _ _) (by rw [List.length_take]; omega)
      have CO := Lib.hid (fun W => wideOf l[k].qty W (HIN.out l[k] (List.getElem_mem hlt)))
      cases h1 : (l[k].asset == a)
      · have HN := Lib.hid (show qtyL (l.take (k + 1)) a = qtyL (l.take k) a from by rw [hq, h1]; simp)
        clear hq
        generalize qtyL (l.take k) a = z at *
        go_wp2_with fail
        go_roundw
        case rel => exact ⟨k + 1, by omega, by go_num, by rw [HN.out]; exact Hown.out.alloc _, by have hbl := Hbl.out; (repeat' (first | (with_reducible exact Below.refl _ _) | (with_reducible assumption) | (with_reducible refine Below.alloc ?_ ?_ _) | (with_reducible refine Below.setCell ?_ ?_ _) | (with_reducible refine Below.drew ?_) | (with_reducible refine below_drewN ?_ _) | (with_reducible refine below_via ?_ (by with_reducible assumption) ?_) | omega | (simp; done) | (simp; omega))), by simp; omega, by simp [go_sem, z0, z1, hsz], by simp [go_sem, y0, y1, hsz]⟩
        case measure => simp [intOf]; omega
      · have HN := Lib.hid (show qtyL (l.take (k + 1)) a = qtyL (l.take k) a ++ [l[k].qty] from by rw [hq, h1]; simp)
        clear hq
        generalize qtyL (l.take k) a = z at *
        go_wp2_with (first | (go_at_call 103; (with_reducible refine (CO.out _).mono ?_); rintro e w1 ⟨rfl, hb1⟩; obtain ⟨fc1, fg1, hc1, hf1, hz1⟩ := bget hb1; (try simp at hz1)) | (at_builtin; refine wpList_app rfl _ _ _ rfl elW (w.heap.size + 1) _ _ rfl ((Hown.out.keep (by (repeat' (first | (with_reducible exact Below.refl _ _) | (with_reducible assumption) | (with_reducible refine Below.alloc ?_ ?_ _) | (with_reducible refine Below.setCell ?_ ?_ _) | (with_reducible refine Below.drew ?_) | (with_reducible refine below_drewN ?_ _) | (with_reducible refine below_via ?_ (by with_reducible assumption) ?_) | omega | (simp; done) | (simp; omega))))).alloc _) (some ⟨_, 0, none⟩) 1 1 rfl [encW l[k].qty] rfl (fun h => by cases h) (rd_oneN (by simp)) (rowsW [l[k].qty]) (by unfold maxLen; first | (simp; done) | omega | (simp; omega)) (by first | (simp; done) | omega | (simp; omega)) (by first | omega | (simp; done) | (simp; omega)) ?_; intro v3 w3 hown3 hb3; obtain ⟨fc3, fg3, hc3, hf3, hz3⟩ := bget hb3; (try simp at hz3)) | fail)
        go_roundw
        case rel => exact ⟨k + 1, by omega, by go_num, by rw [HN.out, List.map_append]; exact hown3, by have hbl := Hbl.out; (repeat' (first | (with_reducible exact Below.refl _ _) | (with_reducible assumption) | (with_reducible refine Below.alloc ?_ ?_ _) | (with_reducible refine Below.setCell ?_ ?_ _) | (with_reducible refine Below.drew ?_) | (with_reducible refine below_drewN ?_ _) | (with_reducible refine below_via ?_ (by with_reducible assumption) ?_) | omega | (simp; done) | (simp; omega))), by first | omega | (simp at hz3; omega), by simp [hc3, hc1, go_sem, z0, z1, hsz, ↓IntWalk.iteOmega], by simp [hf3, hf1, go_sem, y0, y1, hsz, ↓IntWalk.iteOmega]⟩
        case measure => simp [intOf]; omega
    · have dl : decide ((k : Int) < (l.length : Int)) = false := by simpa using hlt
      have HT := Lib.hid (show l.take k = l from List.take_of_length_le (by omega))
      have hown := Hown.out
      rw [HT.out] at hown
      obtain ⟨A9, c9, hv9, hrs9, _⟩ := hown.rs
      rw [List.length_map] at hv9
      subst hv9
      have CA := Lib.hid (fun W (h : Below wr.heap.size wr W) => wideAddYes (qtyL l a) A9 c9 W (by omega) (fun z hz => by obtain ⟨y, hy, rfl⟩ := qtyL_mem hz; exact in64_128 (HIN.out y hy)) (hrs9.keep h).rd (by rw [← HS.out]; exact H128.out))
      clear hown hrs9
      generalize qtyL l a = z at *
      go_wp2_with (first | (go_at_call 74; (with_reducible refine (CA.out _ (by (repeat' (first | (with_reducible exact Below.refl _ _) | (with_reducible assumption) | (with_reducible refine Below.alloc ?_ ?_ _) | (with_reducible refine Below.setCell ?_ ?_ _) | (with_reducible refine Below.drew ?_) | (with_reducible refine below_drewN ?_ _) | (with_reducible refine below_via ?_ (by with_reducible assumption) ?_) | omega | (simp; done) | (simp; omega))))).mono ?_); rintro e w1 ⟨rfl, hb1⟩; obtain ⟨fc1, fg1, hc1, hf1, hz1⟩ := bget hb1; (try simp at hz1)) | fail)
      have hbl := Hbl.out
      refine bodyPost_ret (by simp [results, Try.results111, go_sem, hc1, z0, z1, hsz, ↓IntWalk.iteOmega]; try rfl) rfl ⟨by rw [HS.out], ?_⟩
      (repeat' (first | (with_reducible exact Below.refl _ _) | (with_reducible assumption) | (with_reducible refine Below.alloc ?_ ?_ _) | (with_reducible refine Below.setCell ?_ ?_ _) | (with_reducible refine Below.drew ?_) | (with_reducible refine below_drewN ?_ _) | (with_reducible refine below_via ?_ (by with_reducible assumption) ?_) | omega | (simp; done) | (simp; omega)))
end Go.Proofs.Ytiidplinmempcaa

/- Rows of bits, the lowest first: plain arithmetic. -/
namespace Go.Proofs.Ytiidplinmempcaa
def val : List Int → Int
  | [] => 0
  | b :: l => b + 2 * val l
def Bit (l : List Int) : Prop := ∀ b ∈ l, 0 ≤ b ∧ b ≤ 1
/-- The last one is 1. -/
def Top (l : List Int) : Prop := ∀ b, l.getLast? = some b → b = 1
def pw (k : Nat) : Int := 2 ^ k
theorem pw_zero : pw 0 = 1 := rfl
theorem pw_succ (k : Nat) : pw (k + 1) = 2 * pw k := by unfold pw; rw [Int.pow_succ, Int.mul_comm]
theorem pw_pos (k : Nat) : 0 < pw k := Int.pow_pos (by omega)
theorem pw_le {j k : Nat} (h : j ≤ k) : pw j ≤ pw k := by
  induction k with
  | zero => have : j = 0 := by omega
            subst this; exact Int.le_refl _
  | succ k ih =>
    rcases Nat.lt_or_ge j (k + 1) with h1 | h1
    · have := ih (by omega); have := pw_pos k; rw [pw_succ]; omega
    · have : j = k + 1 := by omega
      subst this; exact Int.le_refl _
theorem val_nonneg : ∀ {l : List Int}, Bit l → 0 ≤ val l
  | [], _ => Int.le_refl _
  | b :: l, h => by
    have h1 := h b (by simp)
    have h2 := val_nonneg (l := l) (fun x hx => h x (by simp [hx]))
    simp only [val]; omega
theorem val_lt : ∀ {l : List Int}, Bit l → val l < pw l.length
  | [], _ => by simp [val, pw]
  | b :: l, h => by
    have h1 := h b (by simp)
    have h2 := val_lt (l := l) (fun x hx => h x (by simp [hx]))
    simp only [val, List.length_cons, pw_succ]; omega
theorem val_append : ∀ (a b : List Int), val (a ++ b) = val a + pw a.length * val b
  | [], b => by simp [val, pw]
  | x :: a, b => by
    have := val_append a b
    simp only [List.cons_append, val, this, List.length_cons, pw_succ]
    rw [Int.mul_assoc, Int.mul_add]; omega
theorem val_snoc (a : List Int) (x : Int) : val (a ++ [x]) = val a + pw a.length * x := by rw [val_append]; simp [val]
theorem bit_snoc {a : List Int} {x : Int} (h : Bit a) (h0 : 0 ≤ x) (h1 : x ≤ 1) : Bit (a ++ [x]) := by
  intro b hb
  rcases List.mem_append.1 hb with h2 | h2
  · exact h b h2
  · simp at h2; subst h2; exact ⟨h0, h1⟩
theorem bit_take {a : List Int} (h : Bit a) (k : Nat) : Bit (a.take k) := fun b hb => h b (List.mem_of_mem_take hb)
theorem bit_drop {a : List Int} (h : Bit a) (k : Nat) : Bit (a.drop k) := fun b hb => h b (List.mem_of_mem_drop hb)
theorem bit_get {a : List Int} (h : Bit a) (i : Nat) : 0 ≤ a.getD i 0 ∧ a.getD i 0 ≤ 1 := by
  rcases Nat.lt_or_ge i a.length with h1 | h1
  · rw [List.getD_eq_getElem?_getD, List.getElem?_eq_getElem h1]; exact h _ (List.getElem_mem h1)
  · rw [List.getD_eq_getElem?_getD, List.getElem?_eq_none h1]; simp
theorem take_succD (l : List Int) (i : Nat) : val (l.take (i + 1)) = val (l.take i) + pw i * l.getD i 0 := by
  rcases Nat.lt_or_ge i l.length with h1 | h1
  · rw [List.take_succ_eq_append_getElem h1, val_snoc, List.length_take, Nat.min_eq_left (by omega), List.getD_eq_getElem?_getD, List.getElem?_eq_getElem h1]; rfl
  · rw [List.take_of_length_le (by omega), List.take_of_length_le h1, List.getD_eq_getElem?_getD, List.getElem?_eq_none h1]; simp
theorem top_ge {l : List Int} (h : Bit l) (ht : Top l) {k : Nat} (hl : l.length = k + 1) : pw k ≤ val l := by
  have hne : l ≠ [] := by intro e; subst e; simp at hl
  have e := List.dropLast_concat_getLast hne
  have h1 := ht (l.getLast hne) (List.getLast?_eq_some_getLast hne)
  have h2 : val l = val l.dropLast + pw l.dropLast.length * l.getLast hne := by rw [← val_snoc, e]
  rw [List.length_dropLast, hl, h1] at h2
  have h3 : 0 ≤ val l.dropLast := val_nonneg (fun b hb => h b ((List.dropLast_subset _) hb))
  simp at h2
  omega
theorem top_of_ge {l : List Int} (h : Bit l) {k : Nat} (hl : l.length = k + 1) (hv : pw k ≤ val l) : Top l := by
  intro b hb
  have hne : l ≠ [] := by intro e; subst e; simp at hl
  have e := List.dropLast_concat_getLast hne
  rw [List.getLast?_eq_some_getLast hne] at hb
  injection hb with hb
  have h1 := h b (by rw [← hb]; exact List.getLast_mem hne)
  have h2 : val l = val l.dropLast + pw l.dropLast.length * b := by rw [← hb, ← val_snoc, e]
  have h3 := val_lt (l := l.dropLast) (fun b hb => h b ((List.dropLast_subset _) hb))
  rw [List.length_dropLast, hl] at h2 h3
  simp at h2 h3
  rcases (show b = 0 ∨ b = 1 from by omega) with h0 | h0
  · subst h0; simp at h2; omega
  · exact h0
theorem len_le {l : List Int} (h : Bit l) (ht : Top l) {k : Nat} (hv : val l < pw k) : l.length ≤ k := by
  rcases Nat.lt_or_ge k l.length with h1 | h1
  · obtain ⟨m, hm⟩ : ∃ m, l.length = m + 1 := ⟨l.length - 1, by omega⟩
    have h2 := top_ge h ht hm
    have h3 := pw_le (j := k) (k := m) (by omega)
    omega
  · exact h1
theorem top_nil : Top [] := fun b hb => by simp at hb
theorem bit_nil : Bit [] := fun b hb => by simp at hb
theorem val_zero_top {l : List Int} (h : Bit l) (ht : Top l) (hv : val l = 0) : l = [] := by
  have := len_le h ht (k := 0) (by rw [hv]; exact pw_pos 0)
  exact List.eq_nil_of_length_eq_zero (by omega)
theorem top_pos {l : List Int} (h : Bit l) (ht : Top l) (hne : l ≠ []) : 0 < val l := by
  obtain ⟨m, hm⟩ : ∃ m, l.length = m + 1 := ⟨l.length - 1, by have := List.length_pos_iff.2 hne; omega⟩
  have := top_ge h ht hm; have := pw_pos m; omega
/-- Which of two without noughts on top is below: by length first. -/
theorem lt_of_len {a b : List Int} (ha : Bit a) (hb : Bit b) (tb : Top b) (h : a.length < b.length) : val a < val b := by
  obtain ⟨m, hm⟩ : ∃ m, b.length = m + 1 := ⟨b.length - 1, by omega⟩
  have h1 := top_ge hb tb hm
  have h2 := val_lt ha
  have h3 := pw_le (j := a.length) (k := m) (by omega)
  omega
theorem val_split (l : List Int) (i : Nat) (h : i ≤ l.length) : val l = val (l.take i) + pw i * val (l.drop i) := by
  have := val_append (l.take i) (l.drop i)
  rw [List.take_append_drop, List.length_take, Nat.min_eq_left h] at this
  exact this
/-- .. and, the lengths alike, by the highest bit that parts them. -/
theorem cmp_at {a b : List Int} (ha : Bit a) (hb : Bit b) (hl : a.length = b.length) {i : Nat} (hi : i < a.length) (hd : a.drop (i + 1) = b.drop (i + 1)) (h : a.getD i 0 < b.getD i 0) : val a < val b := by
  rw [val_split a (i + 1) (by omega), val_split b (i + 1) (by omega), hd, take_succD, take_succD]
  have h1 := val_lt (bit_take ha i)
  have h2 := val_nonneg (bit_take hb i)
  have h3 := bit_get ha i
  have h4 := bit_get hb i
  have e1 : a.getD i 0 = 0 := by omega
  have e2 : b.getD i 0 = 1 := by omega
  have h5 : (a.take i).length = i := by rw [List.length_take]; omega
  rw [h5] at h1
  rw [e1, e2]
  have := pw_pos i
  simp
  omega
theorem digit_step (P s : Int) : P * (s % 2) + 2 * P * (s / 2) = P * s := by
  have e : s % 2 + 2 * (s / 2) = s := by omega
  calc P * (s % 2) + 2 * P * (s / 2) = P * (s % 2 + 2 * (s / 2)) := by rw [Int.mul_add, Int.mul_comm 2 P, Int.mul_assoc]
    _ = P * s := by rw [e]
/-- One place of a sum. -/
theorem plus_step {l : List Int} {k : Nat} {q x y va vb va' vb' : Int} (hl : l.length = k) (hv : val l + pw k * q = va + vb) (ea : va' = va + pw k * x) (eb : vb' = vb + pw k * y) :
    val (l ++ [(q + x + y) % 2]) + pw (k + 1) * ((q + x + y) / 2) = va' + vb' := by
  rw [val_snoc, hl, pw_succ, Int.add_assoc, digit_step, ea, eb, Int.mul_add, Int.mul_add]
  omega
/-- One place of a difference. -/
theorem minus_step {l : List Int} {k : Nat} {q q' x y va vb va' vb' : Int} (hl : l.length = k) (hv : val l = va - vb + pw k * q) (ea : va' = va + pw k * x) (eb : vb' = vb + pw k * y) (hq : (x + 2 - (q + y)) % 2 = x - q - y + 2 * q') :
    val (l ++ [(x + 2 - (q + y)) % 2]) = va' - vb' + pw (k + 1) * q' := by
  rw [val_snoc, hl, pw_succ, hq, ea, eb, hv, Int.mul_add, Int.mul_sub, Int.mul_sub, ← Int.mul_assoc, Int.mul_comm (pw k) 2]
  omega
theorem drop_pred {a b : List Int} {k : Nat} (h0 : 0 < k) (ha : k ≤ a.length) (hb : k ≤ b.length) (hx : a.getD (k - 1) 0 = b.getD (k - 1) 0) (hd : a.drop k = b.drop k) : a.drop (k - 1) = b.drop (k - 1) := by
  rw [List.drop_eq_getElem_cons (l := a) (i := k - 1) (by omega), List.drop_eq_getElem_cons (l := b) (i := k - 1) (by omega), show k - 1 + 1 = k from by omega, hd]
  rw [List.getD_eq_getElem?_getD, List.getD_eq_getElem?_getD, List.getElem?_eq_getElem (by omega), List.getElem?_eq_getElem (by omega)] at hx
  simp at hx
  rw [hx]
end Go.Proofs.Ytiidplinmempcaa

/- Contracts of the reference's rows of bits: plus, trim, Nat. -/
namespace Go.Proofs.Ytiidplinmempcaa
open Go.RowKit
def encB (b : Int) : List Value := [.int .u8 b]
theorem elB : Elem Try.prog 32 5 1 1 := elem_of Try.underlying32 (z := .int .u8 0) (by kernel_rfl) rfl (by omega)
/-- A row of bits in memory. -/
theorem bit_cell {w wr : World} {B : Nat} {A : Option Addr} {l : List Int} {i : Nat} (hr : Rd w A 1 (l.map encB)) (hb : Below B w wr) (hB : w.heap.size ≤ B) (hi : i < l.length) :
    ∃ b o, A = some ⟨b, o, none⟩ ∧ b < w.heap.size ∧ wr.cell? ⟨b, o + i, none⟩ = some (.int .u8 (l.getD i 0)) := by
  obtain ⟨b, o, hA, hlt, hc⟩ := hr i (encB l[i]) (by simp [hi])
  refine ⟨b, o, hA, hlt, ?_⟩
  have := (hb.cell (p := ⟨b, o + i * 1 + 0, none⟩) (by exact Nat.lt_of_lt_of_le hlt hB)).trans (hc 0 _ rfl)
  simpa [List.getD_eq_getElem?_getD, List.getElem?_eq_getElem hi] using this
def PlusPost (w : World) (la lb : List Int) (e : Ending) (w' : World) : Prop :=
  ∃ v l, e = .returned v ∧ Own w' w.heap.size 5 1 v (l.map encB) ∧ Below w.heap.size w w' ∧ Bit l ∧ val l = val la + val lb ∧ (l.length = max la.length lb.length ∨ (l.length = max la.length lb.length + 1 ∧ Top l))
set_option maxRecDepth 100000 in
set_option maxHeartbeats 2000000 in
theorem bigPlus (la lb : List Int) (A B : Option Addr) (c d : Nat) (w : World) (hla : la.length ≤ 1048576) (hlb : lb.length ≤ 1048576) (ha : Rd w A 1 (la.map encB)) (hb : Rd w B 1 (lb.map encB)) (ba : Bit la) (bb : Bit lb) :
    Calls Try.prog 87 #[.slice A la.length c, .slice B lb.length d] w (PlusPost w la lb) := by
  have Ha := Lib.hid ha
  have Hb := Lib.hid hb
  have Ba := Lib.hid ba
  have Bb := Lib.hid bb
  clear ha hb ba bb
  go_enter Try.func87, Try.ntmps87
  go_wp2_with fail
  go_loopw [5, 6, 7] (fun v cc i wr => ∃ (k : Nat) (l : List Int) (q : Int), k ≤ max la.length lb.length ∧ i = .int .i64 k ∧ cc = .int .u8 q ∧ 0 ≤ q ∧ q ≤ 1 ∧ Own wr w.heap.size 5 1 v (l.map encB) ∧ Below w.heap.size w wr ∧ l.length = k ∧ Bit l ∧ val l + pw k * q = val (la.take k) + val (lb.take k))
    (fun _ _ i _ => max la.length lb.length - (intOf i).toNat)
  case atStart => exact ⟨0, [], 0, Nat.zero_le _, rfl, rfl, by omega, by omega, Own.nil _ _ _ _, Below.refl _ _, rfl, bit_nil, by simp [val]⟩
  case round =>
    obtain ⟨k, l, q, hk, rfl, rfl, q0, q1, hown, hbl, hl, hbit, hval⟩ := hrel
    have Hown := Lib.hid hown
    have Hbl := Lib.hid hbl
    have Hl := Lib.hid hl
    have Hbit := Lib.hid hbit
    have Hval := Lib.hid hval
    have hz := hbl.size
    have ga := bit_get Ba.out k
    have gb := bit_get Bb.out k
    have ea := take_succD la k
    have eb := take_succD lb k
    have Ea := Lib.hid ea
    have Eb := Lib.hid eb
    clear hown hbl hl hbit hval ea eb
    obtain ⟨x, hx⟩ : ∃ x, x = la.getD k 0 := ⟨_, rfl⟩
    obtain ⟨y, hy⟩ : ∃ y, y = lb.getD k 0 := ⟨_, rfl⟩
    by_cases h1 : k < la.length
    · obtain ⟨b1, o1, rfl, hb1, c1⟩ := bit_cell Ha.out Hbl.out (Nat.le_refl _) h1
      rw [← hx] at ga c1 Ea
      rw [← hy] at gb Eb
      have Hx := Lib.hid hx
      clear hx
      have d1 : decide ((k : Int) < (la.length : Int)) = true := by simpa using h1
      by_cases h2 : k < lb.length
      · obtain ⟨b2, o2, rfl, hb2, c2⟩ := bit_cell Hb.out Hbl.out (Nat.le_refl _) h2
        rw [← hy] at c2
        have Hy := Lib.hid hy
        clear hy
        go_wp2_with (at_builtin; refine wpList_app rfl _ _ _ rfl elB w.heap.size _ _ rfl (Hown.out.alloc _) (some ⟨wr.heap.size, 0, none⟩) 1 1 rfl [encB ((q + x + y) % 2)] rfl (fun h => by cases h) rd_one (by simp [encB]; rfl) (by have := Hl.out; unfold maxLen; simp; omega) (by have := Hl.out; simp; omega) (by simp; omega) ?_; intro v' w3 hown3 hb3)
        go_roundw
        case rel => exact ⟨k + 1, l ++ [(q + x + y) % 2], (q + x + y) / 2, by omega, by go_num, rfl, by omega, by omega, by simpa using hown3, (Hbl.out.alloc hz _).trans hb3, by simp [Hl.out], bit_snoc Hbit.out (by omega) (by omega), plus_step Hl.out Hval.out Ea.out Eb.out⟩
        case measure => simp [intOf]; omega
      · have hy0 : y = 0 := by rw [hy, List.getD_eq_getElem?_getD, List.getElem?_eq_none (by omega)]; rfl
        subst hy0
        clear hy
        go_wp2_with (at_builtin; refine wpList_app rfl _ _ _ rfl elB w.heap.size _ _ rfl (Hown.out.alloc _) (some ⟨wr.heap.size, 0, none⟩) 1 1 rfl [encB ((q + x) % 2)] rfl (fun h => by cases h) rd_one (by simp [encB]; rfl) (by have := Hl.out; unfold maxLen; simp; omega) (by have := Hl.out; simp; omega) (by simp; omega) ?_; intro v' w3 hown3 hb3)
        go_roundw
        case rel => exact ⟨k + 1, l ++ [(q + x + 0) % 2], (q + x + 0) / 2, by omega, by go_num, by simp, by omega, by omega, by simpa using hown3, (Hbl.out.alloc hz _).trans hb3, by simp [Hl.out], bit_snoc Hbit.out (by omega) (by omega), plus_step Hl.out Hval.out Ea.out Eb.out⟩
        case measure => simp [intOf]; omega
    · have hx0 : x = 0 := by rw [hx, List.getD_eq_getElem?_getD, List.getElem?_eq_none (by omega)]; rfl
      rw [← hx, hx0] at Ea
      rw [← hy] at gb Eb
      clear hx hx0 ga
      have d1 : decide ((k : Int) < (la.length : Int)) = false := by simpa using h1
      by_cases h2 : k < lb.length
      · obtain ⟨b2, o2, rfl, hb2, c2⟩ := bit_cell Hb.out Hbl.out (Nat.le_refl _) h2
        rw [← hy] at c2
        have Hy := Lib.hid hy
        clear hy
        have d2 : decide ((k : Int) < (lb.length : Int)) = true := by simpa using h2
        go_wp2_with (at_builtin; refine wpList_app rfl _ _ _ rfl elB w.heap.size _ _ rfl (Hown.out.alloc _) (some ⟨wr.heap.size, 0, none⟩) 1 1 rfl [encB ((q + y) % 2)] rfl (fun h => by cases h) rd_one (by simp [encB]; rfl) (by have := Hl.out; unfold maxLen; simp; omega) (by have := Hl.out; simp; omega) (by simp; omega) ?_; intro v' w3 hown3 hb3)
        go_roundw
        case rel => exact ⟨k + 1, l ++ [(q + 0 + y) % 2], (q + 0 + y) / 2, by omega, by go_num, by simp, by omega, by omega, by simpa using hown3, (Hbl.out.alloc hz _).trans hb3, by simp [Hl.out], bit_snoc Hbit.out (by omega) (by omega), plus_step Hl.out Hval.out Ea.out Eb.out⟩
        case measure => simp [intOf]; omega
      · have d2 : decide ((k : Int) < (lb.length : Int)) = false := by simpa using h2
        clear hy gb
        have hkm : k = max la.length lb.length := by omega
        have hv := Hval.out
        rw [List.take_of_length_le (by omega), List.take_of_length_le (by omega)] at hv
        have HV := Lib.hid hv
        have HK := Lib.hid hkm
        clear hv hkm
        rcases (show q = 0 ∨ q = 1 from by omega) with h0 | h0
        · subst h0
          go_wp2_with fail
          go_ret
          exact ⟨u5, l, rfl, Hown.out, Hbl.out, Hbit.out, by have := HV.out; simpa using this, .inl (by rw [Hl.out, HK.out])⟩
        · subst h0
          go_wp2_with (at_builtin; refine wpList_app rfl _ _ _ rfl elB w.heap.size _ _ rfl (Hown.out.alloc _) (some ⟨wr.heap.size, 0, none⟩) 1 1 rfl [encB 1] rfl (fun h => by cases h) rd_one (by simp [encB]; rfl) (by have := Hl.out; unfold maxLen; simp; omega) (by have := Hl.out; simp; omega) (by simp; omega) ?_; intro v' w3 hown3 hb3)
          go_ret
          exact ⟨v', l ++ [1], rfl, by simpa using hown3, (Hbl.out.alloc hz _).trans hb3, bit_snoc Hbit.out (by omega) (by omega), by rw [val_snoc, Hl.out]; exact HV.out, .inr ⟨by simp [Hl.out, ← HK.out], fun b hb => by simpa using hb.symm⟩⟩
end Go.Proofs.Ytiidplinmempcaa

/- Contracts of the reference's trim, Nat, Of. -/
namespace Go.Proofs.Ytiidplinmempcaa
open Go.RowKit
/-- A whole number without bounds, as it lies in memory. -/
structure IsBig (w : World) (n : Int) (s : Bool) (A : Option Addr) (l : List Int) (c : Nat) : Prop where
  rd : Rd w A 1 (l.map encB)
  bit : Bit l
  top : Top l
  val : val l = iabs n
  cap : l.length ≤ c
  room : c ≤ maxLen
  sgn : s = decide (n < 0)
theorem IsBig.keep {w w' : World} {n : Int} {s : Bool} {A : Option Addr} {l : List Int} {c : Nat} (h : IsBig w n s A l c) (hb : Below w.heap.size w w') : IsBig w' n s A l c := ⟨h.rd.keep hb, h.bit, h.top, h.val, h.cap, h.room, h.sgn⟩
theorem IsBig.far {w : World} {n : Int} {s : Bool} {A : Option Addr} {l : List Int} {c : Nat} (h : IsBig w n s A l c) {p : Addr} {v0 : Value} (hp : w.cell? p = some v0) (hne : ∀ k x, v0 ≠ .int k x) (u : Value) : IsBig (w.setCell p u) n s A l c :=
  ⟨h.rd.far hp (fun r hr hm => by
    obtain ⟨b, _, rfl⟩ := List.mem_map.1 hr
    simp [encB] at hm
    exact hne _ _ hm) u, h.bit, h.top, h.val, h.cap, h.room, h.sgn⟩
def BigPost (w : World) (n : Int) (L : Nat) (e : Ending) (w' : World) : Prop :=
  ∃ s A l c, e = .returned (.agg #[.bool s, .slice A l.length c]) ∧ IsBig w' n s A l c ∧ l.length ≤ L ∧ Below w.heap.size w w'
def TrimPost (w : World) (A : Option Addr) (c : Nat) (s : Bool) (l : List Int) (e : Ending) (w' : World) : Prop :=
  ∃ l2, e = .returned (.agg #[.bool (s && decide (0 < val l)), .slice A l2.length c]) ∧ (∃ k, l2 = l.take k) ∧ Top l2 ∧ val l2 = val l ∧ Below w.heap.size w w'
theorem Rd.take {w : World} {A : Option Addr} {l : List Int} (h : Rd w A 1 (l.map encB)) (k : Nat) : Rd w A 1 ((l.take k).map encB) := by
  intro i r hr
  rw [List.map_take, List.getElem?_take] at hr
  split at hr
  · exact h i r hr
  · cases hr
theorem trim_big {w : World} {n : Int} {s : Bool} {A : Option Addr} {l l2 : List Int} {c : Nat} (hr : Rd w A 1 (l.map encB)) (hb : Bit l) (hk : ∃ k, l2 = l.take k) (ht : Top l2) (hv : val l2 = val l) (hn : val l = iabs n) (hc : l.length ≤ c) (hm : c ≤ maxLen) (hs : s = decide (n < 0)) : IsBig w n s A l2 c := by
  obtain ⟨k, rfl⟩ := hk
  exact ⟨hr.take k, bit_take hb k, ht, hv.trans hn, by rw [List.length_take]; omega, hm, hs⟩
theorem trim_len {l l2 : List Int} (hk : ∃ k, l2 = l.take k) : l2.length ≤ l.length := by
  obtain ⟨k, rfl⟩ := hk
  rw [List.length_take]; omega
theorem take_pred_zero {l : List Int} {k : Nat} (h0 : 0 < k) (hx : l.getD (k - 1) 0 = 0) : val (l.take (k - 1)) = val (l.take k) := by
  have := take_succD l (k - 1)
  rw [show k - 1 + 1 = k from by omega, hx] at this
  simp at this
  exact this.symm
theorem top_take {l : List Int} {k : Nat} (h0 : 0 < k) (hk : k ≤ l.length) (hx : l.getD (k - 1) 0 = 1) : Top (l.take k) := by
  intro b hb
  rw [List.getLast?_eq_getElem?, List.length_take, Nat.min_eq_left hk, List.getElem?_take, if_pos (by omega)] at hb
  rw [List.getD_eq_getElem?_getD, hb] at hx
  exact hx
set_option maxRecDepth 100000 in
set_option maxHeartbeats 1000000 in
theorem bigTrim (s : Bool) (l : List Int) (A : Option Addr) (c : Nat) (w : World) (_hl : l.length ≤ 1048576) (hr : Rd w A 1 (l.map encB)) (hb : Bit l) (hc : l.length ≤ c) (hm : c ≤ maxLen) :
    Calls Try.prog 86 #[.bool s, .slice A l.length c] w (TrimPost w A c s l) := by
  unfold maxLen at hm
  have Hr := Lib.hid hr
  have Hb := Lib.hid hb
  clear hr hb
  go_enter Try.func86, Try.ntmps86
  go_wp2_with fail
  go_loop [5] (fun i => ∃ k : Nat, k ≤ l.length ∧ i = .int .i64 k ∧ val (l.take k) = val l) (fun i => (intOf i).toNat)
  case atStart => exact ⟨l.length, Nat.le_refl _, rfl, by rw [List.take_length]⟩
  case round =>
    obtain ⟨k, hk, rfl, hv⟩ := hrel
    have Hv := Lib.hid hv
    clear hv
    by_cases h0 : k = 0
    · subst h0
      have hz := Hv.out
      simp [val] at hz
      have hf : decide (0 < val l) = false := by rw [← hz]; rfl
      have HF := Lib.hid hf
      clear hz hf
      cases s
      all_goals
        go_wp2_with fail
        refine bodyPost_ret (v := .agg #[.bool false, .slice A 0 c]) (by simp [results, Try.results86, go_sem]) rfl ⟨l.take 0, ?_, ⟨0, rfl⟩, ?_, ?_, ?_⟩
        · rw [HF.out]; simp
        · simpa using top_nil
        · exact Hv.out
        · (repeat' (first | (with_reducible exact Below.refl _ _) | (with_reducible assumption) | (with_reducible refine Below.alloc ?_ ?_ _) | (with_reducible refine Below.setCell ?_ ?_ _) | (with_reducible refine Below.drew ?_) | (with_reducible refine below_drewN ?_ _) | (with_reducible refine below_via ?_ (by with_reducible assumption) ?_) | omega | (simp; done) | (simp; omega)))
    · have d0 : decide ((0 : Int) < (k : Int)) = true := by simpa using (show (0 : Int) < k from by omega)
      have k0 : 0 < k := by omega
      obtain ⟨b1, o1, rfl, hb1, c1⟩ := bit_cell Hr.out (Below.refl w.heap.size w) (Nat.le_refl _) (show k - 1 < l.length from by omega)
      have gx := bit_get Hb.out (k - 1)
      obtain ⟨x, hx⟩ : ∃ x, x = l.getD (k - 1) 0 := ⟨_, rfl⟩
      rw [← hx] at c1 gx
      have Hx := Lib.hid hx
      clear hx
      rcases (show x = 0 ∨ x = 1 from by omega) with h1 | h1
      · subst h1
        go_wp2_with fail
        go_round
        case rel => exact ⟨k - 1, by omega, by go_num, by rw [take_pred_zero k0 Hx.out.symm]; exact Hv.out⟩
        case measure => simp [intOf]; omega
      · subst h1
        have ht := top_take k0 hk Hx.out.symm
        have hlen : (l.take k).length = k := by rw [List.length_take]; omega
        have hp : 0 < val l := by
          rw [← Hv.out]
          exact top_pos (bit_take Hb.out k) ht (fun e => by rw [e] at hlen; simp at hlen; omega)
        have HP := Lib.hid hp
        have HT := Lib.hid ht
        have HL := Lib.hid hlen
        clear hp ht hlen
        cases s
        · go_wp2_with fail
          refine bodyPost_ret (v := .agg #[.bool false, .slice (some ⟨b1, o1, none⟩) k c]) (by simp [results, Try.results86, go_sem]) rfl ⟨l.take k, ?_, ⟨k, rfl⟩, HT.out, Hv.out, ?_⟩
          · rw [HL.out]; simp
          · (repeat' (first | (with_reducible exact Below.refl _ _) | (with_reducible assumption) | (with_reducible refine Below.alloc ?_ ?_ _) | (with_reducible refine Below.setCell ?_ ?_ _) | (with_reducible refine Below.drew ?_) | (with_reducible refine below_drewN ?_ _) | (with_reducible refine below_via ?_ (by with_reducible assumption) ?_) | omega | (simp; done) | (simp; omega)))
        · go_wp2_with fail
          refine bodyPost_ret (v := .agg #[.bool true, .slice (some ⟨b1, o1, none⟩) k c]) (by simp [results, Try.results86, go_sem]) rfl ⟨l.take k, ?_, ⟨k, rfl⟩, HT.out, Hv.out, ?_⟩
          · rw [HL.out]; simp [HP.out]
          · (repeat' (first | (with_reducible exact Below.refl _ _) | (with_reducible assumption) | (with_reducible refine Below.alloc ?_ ?_ _) | (with_reducible refine Below.setCell ?_ ?_ _) | (with_reducible refine Below.drew ?_) | (with_reducible refine below_drewN ?_ _) | (with_reducible refine below_via ?_ (by with_reducible assumption) ?_) | omega | (simp; done) | (simp; omega)))
end Go.Proofs.Ytiidplinmempcaa

/- Contracts of the reference's Nat, Of. -/
namespace Go.Proofs.Ytiidplinmempcaa
open Go.RowKit
theorem nat_step {l : List Int} {k : Nat} {u n : Int} (hl : l.length = k) (hv : val l + pw k * u = n) : val (l ++ [u % 2]) + pw (k + 1) * (u / 2) = n := by
  rw [val_snoc, hl, pw_succ, Int.add_assoc, digit_step]; exact hv
theorem pw_64 : pw 64 = 18446744073709551616 := by decide
theorem nat_len {l : List Int} {k : Nat} {u n : Int} (hb : Bit l) (hv : val l + pw k * u = n) (hu : 0 < u) (hn : n ≤ 18446744073709551615) : k < 64 := by
  rcases Nat.lt_or_ge k 64 with h | h
  · exact h
  · have h1 := pw_le h
    rw [pw_64] at h1
    have h2 := val_nonneg hb
    have h3 := pw_pos k
    have h4 : pw k * 1 ≤ pw k * u := Int.mul_le_mul_of_nonneg_left (by omega) (by omega)
    omega
def NatPost (w : World) (n : Int) (e : Ending) (w' : World) : Prop :=
  ∃ A l c, e = .returned (.agg #[.bool false, .slice A l.length c]) ∧ IsBig w' n false A l c ∧ l.length ≤ 64 ∧ Below w.heap.size w w'
set_option maxRecDepth 100000 in
set_option maxHeartbeats 1000000 in
theorem bigNat (n : Int) (w : World) (h0 : 0 ≤ n) (h1 : n ≤ 18446744073709551615) :
    Calls Try.prog 83 #[.int .u64 n] w (NatPost w n) := by
  go_enter Try.func83, Try.ntmps83
  go_wp2_with fail
  go_loopw [0, 3] (fun a v wr => ∃ (k : Nat) (l : List Int) (u : Int), a = .int .u64 u ∧ 0 ≤ u ∧ u ≤ n ∧ Own wr (w.heap.size + 1) 5 1 v (l.map encB) ∧ Below (w.heap.size + 1) (w.alloc (.cells #[.bool false, .slice none 0 0] 34)) wr ∧ l.length = k ∧ k ≤ 64 ∧ Bit l ∧ val l + pw k * u = n ∧ (u = 0 → Top l))
    (fun a _ _ => (intOf a).toNat)
  case atStart => exact ⟨0, [], n, rfl, h0, Int.le_refl _, Own.nil _ _ _ _, by (repeat' (first | (with_reducible exact Below.refl _ _) | (with_reducible assumption) | (with_reducible refine Below.alloc ?_ ?_ _) | (with_reducible refine Below.setCell ?_ ?_ _) | (with_reducible refine Below.drew ?_) | (with_reducible refine below_drewN ?_ _) | (with_reducible refine below_via ?_ (by with_reducible assumption) ?_) | omega | (simp; done) | (simp; omega))), rfl, by omega, bit_nil, by simp [val, pw_zero], fun _ => top_nil⟩
  case round =>
    obtain ⟨k, l, u, rfl, u0, u1, hown, hbl, hl, hk, hbit, hval, htop⟩ := hrel
    have Hown := Lib.hid hown
    have Hbl := Lib.hid hbl
    have Hl := Lib.hid hl
    have Hbit := Lib.hid hbit
    have Hval := Lib.hid hval
    have Htop := Lib.hid htop
    have hz := hbl.size
    simp at hz
    clear hown hbl hl hbit hval htop
    by_cases h2 : 0 < u
    · have hk64 := nat_len Hbit.out Hval.out h2 h1
      go_wp2_with (at_builtin; refine wpList_app rfl _ _ _ rfl elB (w.heap.size + 1) _ _ rfl (Hown.out.alloc _) (some ⟨wr.heap.size, 0, none⟩) 1 1 rfl [encB (u % 2)] rfl (fun h => by cases h) rd_one (by simp [encB]; rfl) (by have := Hl.out; unfold maxLen; simp; omega) (by have := Hl.out; simp; omega) (by simp; omega) ?_; intro v' w3 hown3 hb3)
      go_roundw
      case rel => exact ⟨k + 1, l ++ [u % 2], u / 2, by first | rfl | go_num, by omega, by omega, by simpa using hown3, (Hbl.out.alloc (by omega) _).trans hb3, by simp [Hl.out], by omega, bit_snoc Hbit.out (by omega) (by omega), nat_step Hl.out Hval.out, fun h => by
        have : u = 1 := by omega
        subst this
        intro b hb
        simpa using hb.symm⟩
      case measure => simp [intOf]; omega
    · have hu : u = 0 := by omega
      subst hu
      have ht := Htop.out rfl
      have hv := Hval.out
      simp at hv
      obtain ⟨A, c, rfl, hc, hm, hr, _⟩ := Hown.out.shape
      have ho := Hown.out
      have B : IsBig wr n false A l c := ⟨hr, Hbit.out, ht, by rw [hv, iabs_pos h0], by simpa using hc, hm, by simpa using h0⟩
      have HB := Lib.hid B
      have r0 := (Hbl.out.cell (p := ⟨w.heap.size, 0, none⟩) (by simp))
      have r1 := (Hbl.out.cell (p := ⟨w.heap.size, 1, none⟩) (by simp))
      have z0 := (Hbl.out.frozen (p := ⟨w.heap.size, 0, none⟩) (by simp))
      have z1 := (Hbl.out.frozen (p := ⟨w.heap.size, 1, none⟩) (by simp))
      simp at r0 r1 z0 z1
      clear ht hv hc hm hr ho B
      simp only [List.length_map]
      go_wp2_with fail
      refine bodyPost_ret (v := .agg #[.bool false, .slice A l.length c]) (by simp [results, Try.results83, go_sem, r0, r1]) rfl ⟨A, l, c, rfl, ?_, by have := Hl.out; omega, ?_⟩
      · have ho := (Hown.out.farLow (p := ⟨w.heap.size, 0, none⟩) (by simp) (.bool false)).farLow (p := ⟨w.heap.size, 1, none⟩) (by simp) (.slice A l.length c)
        simp only [List.length_map] at ho
        have hr := ho.rd.1
        exact ⟨hr, HB.out.bit, HB.out.top, HB.out.val, HB.out.cap, HB.out.room, HB.out.sgn⟩
      · exact (((((Below.refl w.heap.size w).alloc (Nat.le_refl _) _).trans (Hbl.out.mono (by omega)))).setCell (Nat.le_refl _) _).setCell (Nat.le_refl _) _
theorem fieldBigB (s : Bool) (A : Option Addr) (n c : Nat) (w : World) : (Instr.field 34 (.agg #[.bool s, .slice A n c]) 1).run Try.prog w = .ok (.slice A n c) w := by kernel_rfl
attribute [local go_sem] fieldBigB
theorem rd_bit1 {w : World} {E : TypeId} : Rd (w.alloc (.cells #[.int .u8 1] E)) (some ⟨w.heap.size, 0, none⟩) 1 ([1].map encB) := by
  simpa [encB] using (rd_one (w := w) (cs := #[.int .u8 1]) (E := E) (k := 1))
set_option maxRecDepth 100000 in
set_option maxHeartbeats 1000000 in
theorem bigOf (n : Int) (w : World) (h : In64 n) :
    Calls Try.prog 25 #[.int .i64 n] w (BigPost w n 65) := by
  unfold In64 at h
  by_cases hn : n < 0
  · have hd : decide (n < 0) = true := by simpa using hn
    have ge : decide (0 ≤ n) = false := by simpa using hn
    have HD := Lib.hid hd
    clear hd
    have g1 : -(n + 1) = - n - 1 := by omega
    have na : - n - 1 + 1 = iabs n := by rw [iabs_neg hn]; omega
    have NA := Lib.hid na
    clear na
    go_enter Try.func25, Try.ntmps25
    go_wp2_with fail
    refine (bigNat (- n - 1) _ (by omega) (by omega)).mono ?_
    rintro e w1 ⟨A, l, c, rfl, hB, hl, hb1⟩
    have HB := Lib.hid hB
    obtain ⟨fc1, fg1, hc1, hf1, hz1⟩ := bget hb1
    simp at hz1
    clear hB
    go_wp2_with fail
    refine (bigPlus l [1] A _ c 1 _ (by omega) (by simp) (HB.out.rd.keep ((Below.refl _ _).alloc (Nat.le_refl _) _)) rd_bit1 HB.out.bit (by intro b hb; simp at hb; subst hb; omega)).mono ?_
    rintro e w2 ⟨v, l2, rfl, hown, hb2, hbit2, hval2, hlen⟩
    obtain ⟨A2, c2, rfl, hc, hm, hr, _⟩ := hown.shape
    have hv : val l2 = iabs n := by rw [hval2, HB.out.val, iabs_pos (by omega), ← NA.out]; simp [val]
    have ht : Top l2 := by
      rcases hlen with h1 | ⟨_, h1⟩
      · have hl1 : l2.length = (max l.length 1 - 1) + 1 := by rw [h1]; simp; omega
        refine top_of_ge hbit2 hl1 ?_
        rw [hval2]
        rcases Nat.eq_zero_or_pos l.length with h0 | h0
        · rw [h0]
          have h3 := val_nonneg HB.out.bit
          simp [val, pw]
          omega
        · have h4 := top_ge HB.out.bit HB.out.top (k := l.length - 1) (by omega)
          rw [Nat.max_eq_left h0]
          simp [val]; omega
      · exact h1
    have B : IsBig w2 n true A2 l2 c2 := ⟨hr, hbit2, ht, hv, by simpa using hc, hm, HD.out.symm⟩
    have HB2 := Lib.hid B
    have hlen2 : l2.length ≤ 65 := by rcases hlen with h1 | ⟨h1, _⟩ <;> simp at h1 <;> omega
    have Hown := Lib.hid hown
    obtain ⟨fc2, fg2, hc2, hf2, hz2⟩ := bget hb2
    simp at hz2
    clear hown B hv ht hlen hval2 hbit2 hr hc hm
    simp only [List.length_map]
    go_wp2_with fail
    refine bodyPost_ret (v := .agg #[.bool true, .slice A2 l2.length c2]) (by simp [results, Try.results25, go_sem, hc1, hc2, ↓IntWalk.iteOmega]; try rfl) rfl ⟨true, A2, l2, c2, rfl, ?_, hlen2, ?_⟩
    · have ho := ((Hown.out.farLow (p := ⟨w.heap.size, 0, none⟩) (by simp; omega) (.bool true)).farLow (p := ⟨w.heap.size, 1, none⟩) (by simp; omega) (.slice A2 l2.length c2))
      simp only [List.length_map] at ho
      exact ⟨ho.rd.1, HB2.out.bit, HB2.out.top, HB2.out.val, HB2.out.cap, HB2.out.room, HB2.out.sgn⟩
    · (repeat' (first | (with_reducible exact Below.refl _ _) | (with_reducible assumption) | (with_reducible refine Below.alloc ?_ ?_ _) | (with_reducible refine Below.setCell ?_ ?_ _) | (with_reducible refine Below.drew ?_) | (with_reducible refine below_drewN ?_ _) | (with_reducible refine below_via ?_ (by with_reducible assumption) ?_) | omega | (simp; done) | (simp; omega)))
  · have hd : decide (n < 0) = false := by simpa using hn
    have ge : decide (0 ≤ n) = true := by simp; omega
    have HD := Lib.hid hd
    clear hd
    go_enter Try.func25, Try.ntmps25
    go_wp2_with fail
    refine (bigNat n _ (by omega) (by omega)).mono ?_
    rintro e w1 ⟨A, l, c, rfl, hB, hl, hb1⟩
    have HB := Lib.hid hB
    obtain ⟨fc1, fg1, hc1, hf1, hz1⟩ := bget hb1
    simp at hz1
    have r0 := hc1 w.heap.size 0
    have r1 := hc1 w.heap.size 1
    rw [if_pos (by simp)] at r0 r1
    simp at r0 r1
    clear hB
    go_wp2_with fail
    refine bodyPost_ret (v := .agg #[.bool false, .slice A l.length c]) (by simp [results, Try.results25, go_sem, hc1]; try rfl) rfl ⟨false, A, l, c, rfl, ?_, by omega, ?_⟩
    · exact (HB.out.far r0 (by simp) _).far ((World.cell?_setCell_other _ _ _ _ (by simp)).trans r1) (by simp) _
    · (repeat' (first | (with_reducible exact Below.refl _ _) | (with_reducible assumption) | (with_reducible refine Below.alloc ?_ ?_ _) | (with_reducible refine Below.setCell ?_ ?_ _) | (with_reducible refine Below.drew ?_) | (with_reducible refine below_drewN ?_ _) | (with_reducible refine below_via ?_ (by with_reducible assumption) ?_) | omega | (simp; done) | (simp; omega)))
end Go.Proofs.Ytiidplinmempcaa
