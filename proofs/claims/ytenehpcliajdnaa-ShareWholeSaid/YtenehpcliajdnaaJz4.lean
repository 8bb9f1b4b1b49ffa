/- Joined: Wide6, Fix2, Div0, Div64. -/
import Derived.Test.YtenehpcliajdnaaJz3
import Derived.Test.YtenehpcliajdnaaJz1
import Derived.Test.YtenehpcliajdnaaJz2
import Derived.Lib.ItoaNum
import Derived.Test.YtenehpcliajdnaaRows
import Derived.WalkKit
import Derived.WalkSpells
import Derived.WalkLawsBesides
import Derived.BigQuiet
import Derived.Deep.RegionHeld3
import Derived.Handy
/- Contract of wide.Add. -/
namespace Go.Proofs.Ytenehpcliajdnaa
open Go.RowKit
/-- A wide number's two cells. -/
def encW (n : Int) : List Value := [.int .i64 (whi n), .int .u64 (wlo n)]
theorem sum_take_succ (l : List Int) (k : Nat) (h : k < l.length) : (l.take (k + 1)).sum = (l.take k).sum + l[k] := by
  rw [List.take_succ_eq_append_getElem h, List.sum_append]; simp
theorem sum_bound (l : List Int) (hin : ∀ n ∈ l, In128 n) : -(l.length * 170141183460469231731687303715884105728 : Int) ≤ l.sum ∧ l.sum ≤ l.length * 170141183460469231731687303715884105728 := by
  induction l with
  | nil => simp
  | cons a l ih =>
    have h1 := hin a (by simp)
    have h2 := ih (fun n hn => hin n (by simp [hn]))
    unfold In128 at h1
    simp only [List.sum_cons, List.length_cons]
    omega
set_option maxRecDepth 100000 in
set_option maxHeartbeats 1000000 in
theorem wideAddAt (l : List Int) (A : Option Addr) (c : Nat) (w : World) (hl : l.length ≤ 4503599627370496) (hin : ∀ n ∈ l, In128 n) (hr : Rd w A 2 (l.map encW)) (x y z : Int)
    (hv : ∀ (w' : World) (g : Nat), Blk w' g 139 (tot l.sum) → Calls Try.prog 92 #[.pointer (some ⟨g, 0, none⟩)] w' fun e w'' => e = .returned (.tuple #[.agg #[.int .i64 x, .int .u64 y], .int .i64 z]) ∧ Below w'.heap.size w' w'') :
    Calls Try.prog 70 #[.slice A l.length c] w fun e w' => e = .returned (.tuple #[.agg #[.int .i64 x, .int .u64 y], .int .i64 z]) ∧ Below w.heap.size w w' := by
  have Hv := Lib.hid hv
  have Hr := Lib.hid hr
  have Hin := Lib.hid hin
  clear hv hr hin
  go_enter Try.func70, Try.ntmps70
  go_wp2_with fail
  go_loopw [9] (fun i wr => ∃ k : Nat, k ≤ l.length ∧ i = .int .i64 k ∧ Blk wr (w.heap.size + 1) 139 (tot (l.take k).sum) ∧ Below (w.heap.size + 1) (w.alloc (.cells #[.int .i64 0, .int .u64 0] 79)) wr)
    (fun i _ => l.length - (intOf i).toNat)
  case atStart => exact ⟨0, Nat.zero_le _, rfl, by simp only [List.take_zero, List.sum_nil]; rw [show tot 0 = #[.int .i64 0, .int .i64 0, .int .u64 0] from by simp [tot, whi, wlo, wrap128]]; (repeat' (first | (with_reducible assumption) | (with_reducible refine Blk.drew ?_) | (with_reducible refine Blk.here ?_) | (with_reducible refine Blk.alloc ?_ _) | (with_reducible refine Blk.far ?_ ?_ _) | (with_reducible refine Blk.below ?_ (by with_reducible assumption) ?_) | omega | (simp; done) | (simp; omega))), by (repeat' (first | (with_reducible exact Below.refl _ _) | (with_reducible assumption) | (with_reducible refine Below.alloc ?_ ?_ _) | (with_reducible refine Below.setCell ?_ ?_ _) | (with_reducible refine Below.drew ?_) | (with_reducible refine below_drewN ?_ _) | (with_reducible refine below_via ?_ (by with_reducible assumption) ?_) | omega | (simp; done) | (simp; omega)))⟩
  case round =>
    obtain ⟨k, hk, rfl, hB, hbl⟩ := hrel
    have HB := Lib.hid hB
    have Hbl := Lib.hid hbl
    have hz := hbl.size
    simp at hz
    have hz2 := hB.lt
    clear hB hbl
    by_cases hlt : k < l.length
    · obtain ⟨b, o, rfl, hb, hc⟩ := Hr.out k (encW l[k]) (by simp [hlt])
      have c0 := (Hbl.out.cell (p := ⟨b, o + k * 2 + 0, none⟩) (by exact Nat.lt_succ_of_lt hb)).trans (cell_alloc hb (hc 0 _ rfl))
      have c1 := (Hbl.out.cell (p := ⟨b, o + k * 2 + 1, none⟩) (by exact Nat.lt_succ_of_lt hb)).trans (cell_alloc hb (hc 1 _ rfl))
      have sb := sum_bound (l.take k) (fun n hn => Hin.out n (List.mem_of_mem_take hn))
      have sl : (l.take k).length ≤ k := List.length_take_le _ _
      clear hc
      simp only [Nat.add_zero] at c0
      have hlk := Hin.out l[k] (List.getElem_mem hlt)
      obtain ⟨n, hn⟩ : ∃ n, n = l[k] := ⟨_, rfl⟩
      have hs := sum_take_succ l k hlt
      rw [← hn] at c0 c1 hlk hs
      have Hs := Lib.hid hs
      have Hn := Lib.hid hn
      clear hs hn
      go_wp2_with fail
      refine (totalAdd (l.take k).sum n (w.heap.size + 1) _ (by unfold InT; omega) hlk (by have hB := HB.out; (repeat' (first | (with_reducible assumption) | (with_reducible refine Blk.drew ?_) | (with_reducible refine Blk.here ?_) | (with_reducible refine Blk.alloc ?_ _) | (with_reducible refine Blk.far ?_ ?_ _) | (with_reducible refine Blk.below ?_ (by with_reducible assumption) ?_) | omega | (simp; done) | (simp; omega))))).mono ?_
      rintro e w1 ⟨rfl, hk1, ho1⟩
      obtain ⟨fc1, fg1, hc1, hf1, hz1⟩ := oget ho1
      rw [← Hs.out] at hk1
      have Hk1 := Lib.hid hk1
      have Ho1 := Lib.hid ho1
      clear hk1 ho1
      go_wp2_with fail
      go_roundw
      case rel => exact ⟨k + 1, by omega, by go_num, Hk1.out, by refine below_only ?_ Ho1.out ?_ ?_ <;> first | (simp; omega) | (have hb := Hbl.out; (repeat' (first | (with_reducible exact Below.refl _ _) | (with_reducible assumption) | (with_reducible refine Below.alloc ?_ ?_ _) | (with_reducible refine Below.setCell ?_ ?_ _) | (with_reducible refine Below.drew ?_) | (with_reducible refine below_drewN ?_ _) | (with_reducible refine below_via ?_ (by with_reducible assumption) ?_) | omega | (simp; done) | (simp; omega))))⟩
      case measure => simp [intOf]; omega
    · have hkl : k = l.length := by omega
      subst hkl
      have hB := HB.out
      rw [List.take_length] at hB
      obtain ⟨hfc, hff, hzz⟩ : (∀ b o, b < w.heap.size + 1 → wr.cell? ⟨b, o, none⟩ = (w.alloc (.cells #[.int .i64 0, .int .u64 0] 79)).cell? ⟨b, o, none⟩) ∧ (∀ b o, b < w.heap.size + 1 → wr.frozen? ⟨b, o, none⟩ = (w.alloc (.cells #[.int .i64 0, .int .u64 0] 79)).frozen? ⟨b, o, none⟩) ∧ True := ⟨fun b o h => Hbl.out.cell (p := ⟨b, o, none⟩) h, fun b o h => Hbl.out.frozen (p := ⟨b, o, none⟩) h, trivial⟩
      have r0 := hfc w.heap.size 0 (by omega)
      have r1 := hfc w.heap.size 1 (by omega)
      have z0 := hff w.heap.size 0 (by omega)
      have z1 := hff w.heap.size 1 (by omega)
      simp at r0 r1 z0 z1
      clear hfc hff
      have HBB := Lib.hid hB
      clear hB
      go_wp2_with fail
      refine (Hv.out _ _ HBB.out).mono ?_
      rintro e w1 ⟨rfl, hb1⟩
      obtain ⟨fc1, fg1, hc1, hf1, hz1⟩ := bget hb1
      go_wp2
      all_goals
        refine bodyPost_ret (by simp [*, results, Try.results70, go_sem, ↓IntWalk.iteOmega]; try rfl) rfl ⟨rfl, ?_⟩
        have hb := Hbl.out.mono (B' := w.heap.size) (by omega)
        have hb2 : Below w.heap.size w wr := ((Below.refl _ _).alloc (Nat.le_refl _) _).trans hb
        (repeat' (first | (with_reducible exact Below.refl _ _) | (with_reducible assumption) | (with_reducible refine Below.alloc ?_ ?_ _) | (with_reducible refine Below.setCell ?_ ?_ _) | (with_reducible refine Below.drew ?_) | (with_reducible refine below_drewN ?_ _) | (with_reducible refine below_via ?_ (by with_reducible assumption) ?_) | omega | (simp; done) | (simp; omega)))
theorem wideAddYes (l : List Int) (A : Option Addr) (c : Nat) (w : World) (hl : l.length ≤ 4503599627370496) (hin : ∀ n ∈ l, In128 n) (hr : Rd w A 2 (l.map encW)) (hs : In128 l.sum) :
    Calls Try.prog 70 #[.slice A l.length c] w fun e w' => e = .returned (.tuple #[(.agg #[.int .i64 (whi (l.sum)), .int .u64 (wlo (l.sum))]), .int .i64 0]) ∧ Below w.heap.size w w' :=
  wideAddAt l A c w hl hin hr _ _ _ fun _ _ hB => totalDoneYes _ _ _ hs hB
theorem wideAddNo (l : List Int) (A : Option Addr) (c : Nat) (w : World) (hl : l.length ≤ 4503599627370496) (hin : ∀ n ∈ l, In128 n) (hr : Rd w A 2 (l.map encW)) (hs : ¬ In128 l.sum) :
    Calls Try.prog 70 #[.slice A l.length c] w fun e w' => e = .returned (.tuple #[.agg #[.int .i64 0, .int .u64 0], .int .i64 7]) ∧ Below w.heap.size w w' :=
  wideAddAt l A c w hl hin hr _ _ _ fun _ _ hB => totalDoneNo _ _ _ hs hB
end Go.Proofs.Ytenehpcliajdnaa

/- Contracts of fix.Sum, Product. -/
namespace Go.Proofs.Ytenehpcliajdnaa
open Go.RowKit
theorem elW : Elem Try.prog 109 79 2 16 := elem_of Try.underlying109 (z := .agg #[.int .i64 0, .int .u64 0]) (by kernel_rfl) rfl (by omega)
theorem sum64_bound (l : List Int) (hin : ∀ n ∈ l, In64 n) : -(l.length * 9223372036854775808 : Int) ≤ l.sum ∧ l.sum ≤ l.length * 9223372036854775808 := by
  induction l with
  | nil => simp
  | cons a l ih =>
    have h1 := hin a (by simp)
    have h2 := ih (fun n hn => hin n (by simp [hn]))
    unfold In64 at h1
    simp only [List.sum_cons, List.length_cons]
    omega
set_option maxRecDepth 100000 in
set_option maxHeartbeats 1000000 in
theorem fixSumAt (l : List Int) (A : Option Addr) (c : Nat) (w : World) (hl : l.length ≤ 1099511627776) (hin : ∀ n ∈ l, In64 n) (hr : Rd w A 1 (l.map encI)) (p q : Int)
    (hv : ∀ w1 : World, Calls Try.prog 80 #[(.agg #[.int .i64 (whi (l.sum)), .int .u64 (wlo (l.sum))]), .int .i64 0] w1 fun e w' => e = .returned (.tuple #[.int .i64 p, .int .i64 q]) ∧ Below w1.heap.size w1 w') :
    Calls Try.prog 57 #[.slice A l.length c] w fun e w' => e = .returned (.tuple #[.int .i64 p, .int .i64 q]) ∧ Below w.heap.size w w' := by
  have Hr := Lib.hid hr
  have Hin := Lib.hid hin
  have Hv := Lib.hid hv
  clear hr hin hv
  go_enter Try.func57, Try.ntmps57
  go_wp2_with (at_make; refine wpList_mk rfl _ _ _ rfl elW w.heap.size _ _ _ l.length rfl rfl (by omega) (by omega) (by unfold maxLen; omega) (Nat.le_refl _) ?_; intro w1 hown1 hb1)
  have Hown1 := Lib.hid hown1
  have Hb1 := Lib.hid hb1
  clear hown1 hb1
  go_loopw [4, 12] (fun v i wr => ∃ k : Nat, k ≤ l.length ∧ i = .int .i64 k ∧ Own wr w.heap.size 79 2 v ((l.take k).map encW) ∧ Below w.heap.size w wr) (fun _ i _ => l.length - (intOf i).toNat)
  case atStart => exact ⟨0, Nat.zero_le _, rfl, by simpa using Hown1.out, Hb1.out⟩
  case round =>
    obtain ⟨k, hk, rfl, hown, hbl⟩ := hrel
    have Hown := Lib.hid hown
    have Hbl := Lib.hid hbl
    have hz := hbl.size
    clear hown hbl
    by_cases hlt : k < l.length
    · obtain ⟨b, o, rfl, hb, hc⟩ := Hr.out k (encI l[k]) (by simp [hlt])
      have c0 := (Hbl.out.cell (p := ⟨b, o + k * 1 + 0, none⟩) hb).trans (hc 0 _ rfl)
      simp only [Nat.add_zero, Nat.mul_one] at c0
      clear hc
      have hlk := Hin.out l[k] (List.getElem_mem hlt)
      have Hs : Hid ((l.take (k + 1)).map encW = (l.take k).map encW ++ [encW l[k]]) := by unfold Hid; rw [List.take_succ_eq_append_getElem hlt, List.map_append]; rfl
      obtain ⟨n, hn⟩ : ∃ n, n = l[k] := ⟨_, rfl⟩
      rw [← hn] at c0 hlk Hs
      clear hn
      have lk : ((l.take k).map encW).length ≤ k := by simp; omega
      go_wp2_with (first | (go_at_call 76; refine (wideOf n _ hlk).mono ?_; rintro e w2 ⟨rfl, hb2⟩; have hz2 := hb2.size; have Hb2 := Lib.hid hb2; clear hb2) | (at_builtin; refine wpList_app rfl _ _ _ rfl elW w.heap.size _ _ rfl ((Hown.out.keep Hb2.out).alloc _) (some ⟨w2.heap.size, 0, none⟩) 1 1 rfl [encW n] rfl (fun h => by cases h) rd_one (by simp [encW]; exact ⟨rfl, rfl⟩) (by unfold maxLen; omega) (by omega) (by simp; omega) ?_; intro v' w3 hown3 hb3))
      go_roundw
      case rel => exact ⟨k + 1, by omega, by go_num, by rw [Hs.out]; exact hown3, ((Hbl.out.trans (Hb2.out.mono hz)).alloc (by omega) _).trans hb3⟩
      case measure => simp [intOf]; omega
    · obtain rfl : k = l.length := by omega
      have ho := Hown.out
      rw [List.take_length] at ho
      obtain ⟨A', c', rfl, _, _, hr', _⟩ := ho.shape
      have Hr' := Lib.hid hr'
      have h128 : ∀ n ∈ l, In128 n := fun n hn => in128_of64 (Hin.out n hn)
      have hsum := sum64_bound l Hin.out
      have H128 := Lib.hid h128
      clear hr' ho h128
      simp only [List.length_map]
      go_wp2_with fail
      refine (wideAddYes l A' c' _ (by omega) H128.out Hr'.out (by unfold In128; omega)).mono ?_
      rintro e w2 ⟨rfl, hb2⟩
      have hz2 := hb2.size
      have Hb2 := Lib.hid hb2
      clear hb2
      go_wp2_with fail
      refine (Hv.out _).mono ?_
      rintro e w3 ⟨rfl, hb3⟩
      have Hb3 := Lib.hid hb3
      clear hb3
      go_wp2_with fail
      go_ret2
      exact ⟨rfl, Hbl.out.trans ((Hb2.out.mono hz).trans (Hb3.out.mono (by omega)))⟩
theorem fixSumYes (l : List Int) (A : Option Addr) (c : Nat) (w : World) (hl : l.length ≤ 1099511627776) (hin : ∀ n ∈ l, In64 n) (hr : Rd w A 1 (l.map encI)) (hs : In64 l.sum) :
    Calls Try.prog 57 #[.slice A l.length c] w fun e w' => e = .returned (.tuple #[.int .i64 l.sum, .int .i64 0]) ∧ Below w.heap.size w w' :=
  fixSumAt l A c w hl hin hr _ _ fun w1 => narrowYes _ w1 hs
theorem fixSumNo (l : List Int) (A : Option Addr) (c : Nat) (w : World) (hl : l.length ≤ 1099511627776) (hin : ∀ n ∈ l, In64 n) (hr : Rd w A 1 (l.map encI)) (hs : ¬ In64 l.sum) :
    Calls Try.prog 57 #[.slice A l.length c] w fun e w' => e = .returned (.tuple #[.int .i64 0, .int .i64 7]) ∧ Below w.heap.size w w' :=
  fixSumAt l A c w hl hin hr _ _ fun w1 => narrowNo _ w1 (by have := sum64_bound l hin; unfold In128; omega) hs
end Go.Proofs.Ytenehpcliajdnaa

/- The long division of bits.Div64. Plain. -/
namespace Go.Proofs.Ytenehpcliajdnaa
theorem div_is {n d q : Int} (h1 : q * d ≤ n) (h2 : n < (q + 1) * d) (hd : 0 < d) : n / d = q := by
  have a := Int.ediv_lt_of_lt_mul hd h2
  have b := Int.le_ediv_of_mul_le hd h1
  omega
/-- Two words by one: U v / (a b), halves of 32 bits; q is not below the quotient, r is what is left of U by a. -/
structure DInv (U v a b q r : Int) : Prop where
  eq : q * a + r = U
  r0 : 0 ≤ r
  q0 : 0 ≤ q
  qB : q ≤ 4294967297
  ge : U * 4294967296 + v < (q + 1) * (a * 4294967296 + b)
structure DIn (U v a b : Int) : Prop where
  a0 : 2147483648 ≤ a
  aB : a < 4294967296
  b0 : 0 ≤ b
  bB : b < 4294967296
  v0 : 0 ≤ v
  vB : v < 4294967296
  u0 : 0 ≤ U
  uB : U < a * 4294967296 + b
theorem expand2 (q a b : Int) : q * (a * 4294967296 + b) = q * a * 4294967296 + q * b := by rw [Int.mul_add, Int.mul_assoc]
theorem expand1 (q a b : Int) : (q + 1) * (a * 4294967296 + b) = q * a * 4294967296 + q * b + a * 4294967296 + b := by rw [Int.add_mul, expand2]; omega
theorem DInv.start {U v a b : Int} (h : DIn U v a b) : DInv U v a b (U / a) (U - U / a * a) ∧ U - U / a * a < a := by
  obtain ⟨a0, aB, b0, bB, v0, vB, u0, uB⟩ := h
  have e := Int.mul_ediv_add_emod U a
  have e1 := Int.emod_nonneg U (show a ≠ 0 by omega)
  have e2 := Int.emod_lt_of_pos U (show 0 < a by omega)
  have q0 : 0 ≤ U / a := Int.ediv_nonneg u0 (by omega)
  rw [Int.mul_comm] at e
  generalize U / a = q at e q0
  generalize U % a = r at e e1 e2
  refine ⟨⟨by omega, by omega, q0, ?_, ?_⟩, by omega⟩
  · by_cases hq : q ≤ 4294967297
    · exact hq
    · exfalso
      have : 4294967298 * a ≤ q * a := Int.mul_le_mul_of_nonneg_right (by omega) (by omega)
      omega
  · rw [expand1]
    have : 0 ≤ q * b := Int.mul_nonneg q0 b0
    omega
/-- What the loop asks. -/
def dAsk (v b q r : Int) : Bool := decide (4294967296 ≤ q) || decide (4294967296 * r + v < q * b)
theorem DInv.step {U v a b q r : Int} (h : DIn U v a b) (i : DInv U v a b q r) (hc : dAsk v b q r = true) : DInv U v a b (q - 1) (r + a) ∧ 1 ≤ q := by
  obtain ⟨a0, aB, b0, bB, v0, vB, u0, uB⟩ := h
  obtain ⟨eq, r0, q0, qB, ge⟩ := i
  have hlt : U * 4294967296 + v < q * (a * 4294967296 + b) := by
    rw [expand2]
    by_cases hq : 4294967296 ≤ q
    · have h1 : 4294967296 * a ≤ q * a := Int.mul_le_mul_of_nonneg_right hq (by omega)
      have h2 : 4294967296 * b ≤ q * b := Int.mul_le_mul_of_nonneg_right hq (by omega)
      omega
    · unfold dAsk at hc
      simp [hq] at hc
      omega
  have q1 : 1 ≤ q := by
    by_cases h : 1 ≤ q
    · exact h
    · exfalso
      have : q = 0 := by omega
      subst this
      omega
  refine ⟨⟨by rw [Int.sub_mul]; omega, by omega, by omega, by omega, ?_⟩, q1⟩
  rw [show q - 1 + 1 = q by omega]
  exact hlt
theorem DInv.stop {U v a b q r : Int} (h : DIn U v a b) (i : DInv U v a b q r) (hc : dAsk v b q r = false) : q = (U * 4294967296 + v) / (a * 4294967296 + b) := by
  obtain ⟨a0, aB, b0, bB, v0, vB, u0, uB⟩ := h
  obtain ⟨eq, r0, q0, qB, ge⟩ := i
  refine (div_is ?_ ge (by omega)).symm
  rw [expand2]
  unfold dAsk at hc
  simp at hc
  omega
theorem DInv.over {U v a b q r : Int} (h : DIn U v a b) (i : DInv U v a b q r) (hq : q ≤ 4294967296) (hc : 4294967296 ≤ r) : q = (U * 4294967296 + v) / (a * 4294967296 + b) := by
  obtain ⟨a0, aB, b0, bB, v0, vB, u0, uB⟩ := h
  obtain ⟨eq, r0, q0, qB, ge⟩ := i
  refine (div_is ?_ ge (by omega)).symm
  rw [expand2]
  have : q * b ≤ 4294967296 * b := Int.mul_le_mul_of_nonneg_right hq b0
  omega
theorem DIn.quo {U v a b q : Int} (h : DIn U v a b) (hq : q = (U * 4294967296 + v) / (a * 4294967296 + b)) : 0 ≤ q ∧ q < 4294967296 ∧ 0 ≤ U * 4294967296 + v - q * (a * 4294967296 + b) ∧ U * 4294967296 + v - q * (a * 4294967296 + b) < a * 4294967296 + b := by
  obtain ⟨a0, aB, b0, bB, v0, vB, u0, uB⟩ := h
  have e := Int.mul_ediv_add_emod (U * 4294967296 + v) (a * 4294967296 + b)
  have e1 := Int.emod_nonneg (U * 4294967296 + v) (show a * 4294967296 + b ≠ 0 by omega)
  have e2 := Int.emod_lt_of_pos (U * 4294967296 + v) (show 0 < a * 4294967296 + b by omega)
  rw [← hq, Int.mul_comm] at e
  have l1 : (U * 4294967296 + v) / (a * 4294967296 + b) < 4294967296 := Int.ediv_lt_of_lt_mul (by omega) (by omega)
  have l2 : 0 ≤ (U * 4294967296 + v) / (a * 4294967296 + b) := Int.ediv_nonneg (by omega) (by omega)
  rw [← hq] at l1 l2
  omega
theorem DInv.mul_le {U v a b q r : Int} (h : DIn U v a b) (i : DInv U v a b q r) : 0 ≤ q * b ∧ q * b ≤ 18446744073709551615 := by
  have h1 : q * b ≤ 4294967297 * b := Int.mul_le_mul_of_nonneg_right i.qB h.b0
  have h2 := h.bB
  exact ⟨Int.mul_nonneg i.q0 h.b0, by omega⟩
theorem pow_split {s : Nat} (hs : s ≤ 64) : (2 : Int) ^ s * 2 ^ (64 - s) = 18446744073709551616 := by
  rw [← Int.pow_add, show s + (64 - s) = 64 by omega]; rfl
/-- The halves of the shifted words. -/
theorem words {hi lo P T : Int} (hP : 0 < P) (hPT : P * T = 18446744073709551616) : (hi * P + lo / T) * 18446744073709551616 + lo * P % 18446744073709551616 = (hi * 18446744073709551616 + lo) * P := by
  have hT : lo / T = lo * P / 18446744073709551616 := by rw [← hPT, Int.mul_comm lo P, Int.mul_ediv_mul_of_pos _ _ hP]
  rw [hT]
  have e := Int.mul_ediv_add_emod (lo * P) 18446744073709551616
  rw [Int.add_mul (hi * 18446744073709551616), Int.mul_right_comm]
  omega
/-- The answer. -/
theorem div_end {n y P U u1 u0 d q1 q0 : Int} (hP : 0 < P) (hd : d = y * P) (hn : U * 18446744073709551616 + (u1 * 4294967296 + u0) = n * P)
    (h2 : q0 = ((U * 4294967296 + u1 - q1 * d) * 4294967296 + u0) / d) (hy : 0 < y) :
    q1 * 4294967296 + q0 = n / y ∧ ((U * 4294967296 + u1 - q1 * d) * 4294967296 + u0 - q0 * d) / P = n % y := by
  have hd0 : 0 < d := by rw [hd]; exact Int.mul_pos hy hP
  have e1 := Int.mul_ediv_add_emod (U * 4294967296 + u1) d
  have e2 := Int.mul_ediv_add_emod ((U * 4294967296 + u1 - q1 * d) * 4294967296 + u0) d
  have e3 := Int.emod_nonneg ((U * 4294967296 + u1 - q1 * d) * 4294967296 + u0) (show d ≠ 0 by omega)
  have e4 := Int.emod_lt_of_pos ((U * 4294967296 + u1 - q1 * d) * 4294967296 + u0) hd0
  rw [← h2, Int.mul_comm d q0] at e2
  generalize hR : ((U * 4294967296 + u1 - q1 * d) * 4294967296 + u0) % d = R at e2 e3 e4
  have hR2 : (U * 4294967296 + u1 - q1 * d) * 4294967296 + u0 - q0 * d = R := by omega
  rw [hR2]
  have hq : (q1 * 4294967296 + q0) * d = q1 * d * 4294967296 + q0 * d := by rw [Int.add_mul, Int.mul_right_comm]
  have hnP : n * P = (q1 * 4294967296 + q0) * y * P + R := by rw [← hn, Int.mul_assoc (q1 * 4294967296 + q0), ← hd, hq]; omega
  have hRP : R = (n - (q1 * 4294967296 + q0) * y) * P := by rw [Int.sub_mul]; omega
  have hdiv : R / P = n - (q1 * 4294967296 + q0) * y := by rw [hRP, Int.mul_ediv_cancel _ (by omega)]
  have hm0 : 0 ≤ n - (q1 * 4294967296 + q0) * y := by rw [← hdiv]; exact Int.ediv_nonneg e3 (by omega)
  have hm1 : n - (q1 * 4294967296 + q0) * y < y := by
    rw [← hdiv]
    exact Int.ediv_lt_of_lt_mul hP (by rw [← hd]; exact e4)
  have hnq : n / y = q1 * 4294967296 + q0 := div_is (by omega) (by rw [Int.add_mul]; omega) hy
  refine ⟨hnq.symm, ?_⟩
  rw [hdiv, Int.emod_def, hnq, Int.mul_comm y]
/-- The shift that brings the divisor's top bit up. -/
theorem shift_norm {y : Int} (h0 : 1 ≤ y) (h1 : y ≤ 18446744073709551615) : ∃ s : Nat, 64 - (Lib.bitLen y.toNat : Int) = s ∧ s ≤ 63 ∧ 9223372036854775808 ≤ y * 2 ^ s ∧ y * 2 ^ s ≤ 18446744073709551615 := by
  obtain ⟨y, rfl⟩ := Int.eq_ofNat_of_zero_le (show 0 ≤ y by omega)
  have hb : 1 ≤ Lib.bitLen y ∧ 2 ^ (Lib.bitLen y - 1) ≤ y ∧ y < 2 ^ Lib.bitLen y := Lib.bitLenAux_bounds 64 y (by omega) (by omega)
  have hle : Lib.bitLen y ≤ 64 := Lib.bitLen_le y 64 (Nat.le_refl _) (by omega)
  obtain ⟨b1, b2, b3⟩ := hb
  rw [Int.toNat_natCast]
  generalize Lib.bitLen y = k at *
  have s1 : 2 ^ (k - 1) * 2 ^ (64 - k) ≤ y * 2 ^ (64 - k) := Nat.mul_le_mul_right _ b2
  have s2 : (y + 1) * 2 ^ (64 - k) ≤ 2 ^ k * 2 ^ (64 - k) := Nat.mul_le_mul_right _ b3
  rw [← Nat.pow_add, show k - 1 + (64 - k) = 63 by omega] at s1
  rw [← Nat.pow_add, show k + (64 - k) = 64 by omega, Nat.add_mul] at s2
  have s3 : 0 < 2 ^ (64 - k) := Nat.pow_pos (by omega)
  refine ⟨64 - k, by omega, by omega, ?_, ?_⟩
  · have : ((y * 2 ^ (64 - k) : Nat) : Int) = (y : Int) * 2 ^ (64 - k) := by rw [Int.natCast_mul, Int.natCast_pow]; rfl
    rw [← this]; omega
  · have : ((y * 2 ^ (64 - k) : Nat) : Int) = (y : Int) * 2 ^ (64 - k) := by rw [Int.natCast_mul, Int.natCast_pow]; rfl
    rw [← this]; omega
end Go.Proofs.Ytenehpcliajdnaa

/- The contract of bits.Div64. -/
namespace Go.Proofs.Ytenehpcliajdnaa
open Go.RowKit
theorem u64_wrap {x : Int} (h0 : 0 ≤ x) (h1 : x ≤ 18446744073709551615) : IntKind.u64.wrap x = x := by rw [IntKind.wrap_u64]; omega
theorem and_low (x : Int) (h : 0 ≤ x) (h' : x ≤ 18446744073709551615) : bits .and .u64 x 4294967295 = x % 4294967296 := by
  obtain ⟨x, rfl⟩ := Int.eq_ofNat_of_zero_le h
  show IntKind.u64.wrap ((BitVec.ofInt 64 (x : Int) &&& BitVec.ofInt 64 4294967295).toNat : Int) = _
  have e : (BitVec.ofInt 64 (x : Int) &&& BitVec.ofInt 64 4294967295).toNat = x % 4294967296 := by
    rw [BitVec.toNat_and, BitVec.ofInt_natCast, BitVec.toNat_ofNat, Nat.mod_eq_of_lt (by omega)]
    exact Nat.and_two_pow_sub_one_eq_mod x 32
  rw [e, u64_wrap (by omega) (by omega)]
  omega
theorem or_low (h l : Int) (s : Nat) (h0 : 0 ≤ h) (l0 : 0 ≤ l) (hl : l < 2 ^ s) (hh : h * 2 ^ s ≤ 18446744073709551615) (hs : s ≤ 63) : bits .or .u64 (h * 2 ^ s) l = h * 2 ^ s + l := by
  obtain ⟨h, rfl⟩ := Int.eq_ofNat_of_zero_le h0
  obtain ⟨l, rfl⟩ := Int.eq_ofNat_of_zero_le l0
  have hp : (2 : Int) ^ s = ((2 ^ s : Nat) : Int) := by rw [Int.natCast_pow]; rfl
  have hps : 2 ^ s ≤ 2 ^ 63 := Nat.pow_le_pow_right (by omega) hs
  have hl2 : l < 2 ^ s := by rw [hp] at hl; omega
  have hh2 : h * 2 ^ s ≤ 18446744073709551615 := by rw [hp, ← Int.natCast_mul] at hh; omega
  rw [hp, ← Int.natCast_mul]
  show IntKind.u64.wrap ((BitVec.ofInt 64 ((h * 2 ^ s : Nat) : Int) ||| BitVec.ofInt 64 (l : Int)).toNat : Int) = _
  have e : (BitVec.ofInt 64 ((h * 2 ^ s : Nat) : Int) ||| BitVec.ofInt 64 (l : Int)).toNat = h * 2 ^ s + l := by
    rw [BitVec.toNat_or, BitVec.ofInt_natCast, BitVec.toNat_ofNat, BitVec.ofInt_natCast, BitVec.toNat_ofNat, Nat.mod_eq_of_lt (by omega), Nat.mod_eq_of_lt (by omega), ← Nat.shiftLeft_eq, Nat.shiftLeft_add_eq_or_of_lt hl2]
  have hsum : h * 2 ^ s + l ≤ 18446744073709551615 := by
    rw [← e]; have := (BitVec.ofInt 64 ((h * 2 ^ s : Nat) : Int) ||| BitVec.ofInt 64 (l : Int)).isLt; omega
  rw [e, u64_wrap (by omega) (by omega)]
  omega
theorem sub_mod {x y z : Int} (h0 : 0 ≤ x * 4294967296 + y - z) (h1 : x * 4294967296 + y - z ≤ 18446744073709551615) : IntKind.u64.wrap (IntKind.u64.wrap (IntKind.u64.wrap (x * 4294967296) + y) - IntKind.u64.wrap z) = x * 4294967296 + y - z := by
  rw [IntKind.wrap_u64, IntKind.wrap_u64, IntKind.wrap_u64, IntKind.wrap_u64]; omega
/-- The first guess, as the code has it. -/
theorem guess {U a : Int} (a0 : 0 < a) (u0 : 0 ≤ U) (u1 : U ≤ 18446744073709551615) : IntKind.u64.wrap (U.tdiv a) = U / a ∧ IntKind.u64.wrap (U - IntKind.u64.wrap (U / a * a)) = U - U / a * a := by
  have e := Int.mul_ediv_add_emod U a
  have e1 := Int.emod_nonneg U (show a ≠ 0 by omega)
  rw [Int.mul_comm] at e
  have q0 : 0 ≤ U / a := Int.ediv_nonneg u0 (by omega)
  have q1 : U / a ≤ U := Int.ediv_le_self _ u0
  have q2 : 0 ≤ U / a * a := Int.mul_nonneg q0 (by omega)
  refine ⟨?_, ?_⟩
  · rw [Int.tdiv_eq_ediv_of_nonneg u0]
    exact u64_wrap q0 (by omega)
  · rw [u64_wrap q2 (by omega)]
    exact u64_wrap (by omega) (by omega)
set_option maxRecDepth 100000 in
set_option maxHeartbeats 4000000 in
theorem div64Low (lo y : Int) (w : World) (hy0 : 0 < y) (hy : y ≤ 18446744073709551615) (l0 : 0 ≤ lo) (l1 : lo ≤ 18446744073709551615) :
    Calls Try.prog 72 #[.int .u64 0, .int .u64 lo, .int .u64 y] w fun e w' => e = .returned (.tuple #[.int .u64 (lo / y), .int .u64 (lo % y)]) ∧ Below w.heap.size w w' := by
  have d0 : (y == 0) = false := by simp; omega
  have d1 : decide (y ≤ 0) = false := by simp; omega
  have d2 : ¬ y = 0 := by omega
  go_enter Try.func72, Try.ntmps72
  go_wp2_with fail
  go_quiet (fail)
  go_wp2_with fail
  go_ret2
  exact ⟨rfl, by (repeat' (first | (with_reducible exact Below.refl _ _) | (with_reducible assumption) | (with_reducible refine Below.alloc ?_ ?_ _) | (with_reducible refine Below.setCell ?_ ?_ _) | (with_reducible refine Below.drew ?_) | (with_reducible refine below_drewN ?_ _) | (with_reducible refine below_via ?_ (by with_reducible assumption) ?_) | omega | (simp; done) | (simp; omega)))⟩
set_option maxRecDepth 100000 in
set_option maxHeartbeats 16000000 in
theorem div64High (hi lo y : Int) (w : World) (h0 : 0 < hi) (hhi : hi < y) (hy : y ≤ 18446744073709551615) (l0 : 0 ≤ lo) (l1 : lo ≤ 18446744073709551615) :
    Calls Try.prog 72 #[.int .u64 hi, .int .u64 lo, .int .u64 y] w fun e w' => e = .returned (.tuple #[.int .u64 ((hi * 18446744073709551616 + lo) / y), .int .u64 ((hi * 18446744073709551616 + lo) % y)]) ∧ Below w.heap.size w w' := by
  have d0 : (y == 0) = false := by simp; omega
  have d1 : decide (y ≤ hi) = false := by simp; omega
  have d3 : (hi == 0) = false := by simp; omega
  obtain ⟨s, hs, hs63, hn0, hn1⟩ := shift_norm (y := y) (by omega) hy
  have hPT := pow_split (s := s) (by omega)
  have hP : (0 : Int) < 2 ^ s := Int.pow_pos (by omega)
  have hT : (0 : Int) < 2 ^ (64 - s) := Int.pow_pos (by omega)
  have hhy : hi * 2 ^ s ≤ y * 2 ^ s := Int.mul_le_mul_of_nonneg_right (by omega) (by omega)
  have hh0 : 0 ≤ hi * 2 ^ s := Int.mul_nonneg (by omega) (by omega)
  have t0 : 0 ≤ lo / 2 ^ (64 - s) := Int.ediv_nonneg l0 (by omega)
  have t1 : lo / 2 ^ (64 - s) < 2 ^ s := Int.ediv_lt_of_lt_mul hT (by omega)
  have z1 : IntKind.u64.wrap (hi * 2 ^ s) = hi * 2 ^ s := u64_wrap hh0 (by omega)
  have z2 := or_low hi (lo / 2 ^ (64 - s)) s (by omega) t0 t1 (by omega) hs63
  have z3 := and_low (y * 2 ^ s) (by omega) (by omega)
  have z4 : IntKind.u64.wrap (lo * 2 ^ s) = lo * 2 ^ s % 18446744073709551616 := IntKind.wrap_u64 _
  have z5 := and_low (lo * 2 ^ s % 18446744073709551616) (by omega) (by omega)
  have hw := words (hi := hi) (lo := lo) hP hPT
  have hbig : (hi * 18446744073709551616 + lo) * 2 ^ s < y * 18446744073709551616 * 2 ^ s := Int.mul_lt_mul_of_pos_right (by omega) hP
  rw [Int.mul_right_comm y] at hbig
  have m0 : 0 ≤ lo * 2 ^ s % 18446744073709551616 ∧ lo * 2 ^ s % 18446744073709551616 ≤ 18446744073709551615 := by omega
  have Z1 := Lib.hid z1
  have Z2 := Lib.hid z2
  have Z3 := Lib.hid z3
  have Z4 := Lib.hid z4
  have Z5 := Lib.hid z5
  have HW := Lib.hid hw
  have HB := Lib.hid hbig
  have M0 := Lib.hid m0
  have HP := Lib.hid hP
  have HN01 := Lib.hid (And.intro hn0 hn1)
  have HU0 := Lib.hid (Int.add_nonneg hh0 t0)
  clear z1 z2 z3 z4 z5 hw hbig m0 hPT hT hP t0 t1 hh0 hhy
  go_enter Try.func72, Try.ntmps72
  go_wp2_with (go_at_call 94; (with_reducible refine (Try.bits_LeadingZeros64 y _ (by omega) hy).mono ?_); rintro e w1 ⟨rfl, rfl⟩; rw [hs])
  rw [Z3.out, Z1.out, Z2.out, Z4.out, Z5.out]
  have hW := HW.out
  have hB := HB.out
  have hM := M0.out
  have hU0 := HU0.out
  have hD := HN01.out
  obtain ⟨d, hd⟩ : ∃ d, d = y * 2 ^ s := ⟨_, rfl⟩
  obtain ⟨U, hU⟩ : ∃ U, U = hi * 2 ^ s + lo / 2 ^ (64 - s) := ⟨_, rfl⟩
  obtain ⟨m, hm⟩ : ∃ m, m = lo * 2 ^ s % 18446744073709551616 := ⟨_, rfl⟩
  obtain ⟨n2, hn2⟩ : ∃ n2, n2 = (hi * 18446744073709551616 + lo) * 2 ^ s := ⟨_, rfl⟩
  rw [← hn2] at hW hB
  rw [← hd] at hB hD ⊢
  rw [← hU] at hW hU0 ⊢
  rw [← hm] at hW hM ⊢
  clear Z1 Z2 Z3 Z4 Z5 HW HB M0 HU0 HN01 hn0 hn1 hU hm hs d0 d1 d3
  have HDY := Lib.hid hd
  clear hd
  obtain ⟨a, ha⟩ : ∃ a, a = d / 4294967296 := ⟨_, rfl⟩
  obtain ⟨b, hb⟩ : ∃ b, b = d % 4294967296 := ⟨_, rfl⟩
  obtain ⟨v1, hv1⟩ : ∃ v1, v1 = m / 4294967296 := ⟨_, rfl⟩
  obtain ⟨v0, hv0⟩ : ∃ v0, v0 = m % 4294967296 := ⟨_, rfl⟩
  rw [← ha, ← hb, ← hv1, ← hv0]
  have hdab : d = a * 4294967296 + b := by omega
  have HN : Hid (U * 18446744073709551616 + (v1 * 4294967296 + v0) = (hi * 18446744073709551616 + lo) * 2 ^ s) := Lib.hid (by rw [← hn2]; omega)
  have hfi : DIn U v1 a b := ⟨by omega, by omega, by omega, by omega, by omega, by omega, by omega, by omega⟩
  have q1 : 0 ≤ v0 ∧ v0 < 4294967296 := by omega
  have q2 : 2147483648 ≤ a ∧ a < 4294967296 ∧ 0 ≤ b ∧ b < 4294967296 := by omega
  have q3 : 0 ≤ v1 ∧ v1 < 4294967296 ∧ 0 ≤ U ∧ U < d := by omega
  clear hW hB hM hU0 hn2 ha hb hv1 hv0
  subst hdab
  have FI := Lib.hid hfi
  have gs := guess (U := U) (a := a) (by omega) (by omega) (by omega)
  rw [gs.1, gs.2]
  have FS := Lib.hid (DInv.start hfi)
  clear hfi gs
  go_loopw [15, 16] (fun q r wr => ∃ Q R, q = .int .u64 Q ∧ r = .int .u64 R ∧ Below w1.heap.size w1 wr ∧ DInv U v1 a b Q R ∧ R < 4294967296) (fun q r _ => (intOf q).toNat)
  case atStart => exact ⟨_, _, rfl, rfl, by (repeat' (first | (with_reducible exact Below.refl _ _) | (with_reducible assumption) | (with_reducible refine Below.alloc ?_ ?_ _) | (with_reducible refine Below.setCell ?_ ?_ _) | (with_reducible refine Below.drew ?_) | (with_reducible refine below_drewN ?_ _) | (with_reducible refine below_via ?_ (by with_reducible assumption) ?_) | omega | (simp; done) | (simp; omega))), FS.out.1, by have h1 := FS.out.2; omega⟩
  case round =>
    obtain ⟨Q, R, rfl, rfl, hblF, hiF, hrF⟩ := hrel
    have IF := Lib.hid hiF
    have mF := hiF.mul_le FI.out
    have n1F := hiF.r0
    have n2F := hiF.q0
    have n3F := hiF.qB
    clear hiF
    by_cases gF : 4294967296 ≤ Q
    · have askF := Lib.hid (show dAsk v1 b Q R = true from by unfold dAsk; simp [gF])
      have StF := Lib.hid (IF.out.step FI.out askF.out)
      have p1F := StF.out.2
      have g3F : decide (4294967296 ≤ Q) = true := by simpa using gF
      by_cases oF : 4294967296 ≤ R + a
      · have XF := Lib.hid (DInv.over FI.out StF.out.1 (by omega) oF)
        clear askF IF StF
        go_wp2_with fail
        have R1 := DIn.quo FI.out XF.out
        rw [sub_mod (x := U) (y := v1) (z := (Q - 1) * (a * 4294967296 + b)) R1.2.2.1 (by omega)]
        obtain ⟨q1, hq1⟩ : ∃ q1, q1 = (Q - 1) := ⟨_, rfl⟩
        rw [← hq1] at R1 ⊢
        have FX := Lib.hid (show q1 = (U * 4294967296 + v1) / (a * 4294967296 + b) from by rw [hq1]; exact XF.out)
        clear XF hq1
        obtain ⟨V, hV⟩ : ∃ V, V = U * 4294967296 + v1 - q1 * (a * 4294967296 + b) := ⟨_, rfl⟩
        rw [← hV] at R1 ⊢
        have hsi : DIn V v0 a b := ⟨by omega, by omega, by omega, by omega, by omega, by omega, by omega, by omega⟩
        have SI := Lib.hid hsi
        have gs := guess (U := V) (a := a) (by omega) (by omega) (by omega)
        rw [gs.1, gs.2]
        have SS := Lib.hid (DInv.start hsi)
        have endOf : ∀ q0, q0 = (V * 4294967296 + v0) / (a * 4294967296 + b) → q1 * 4294967296 + q0 = (hi * 18446744073709551616 + lo) / y ∧ (V * 4294967296 + v0 - q0 * (a * 4294967296 + b)) / 2 ^ s = (hi * 18446744073709551616 + lo) % y := (by
          intro q0 h0
          rw [hV] at h0 ⊢
          exact div_end HP.out HDY.out HN.out h0 (by omega))
        have HEND := Lib.hid endOf
        clear hsi gs hV endOf
        go_loopw [16, 18] (fun r q wr => ∃ Q R, q = .int .u64 Q ∧ r = .int .u64 R ∧ Below w1.heap.size w1 wr ∧ DInv V v0 a b Q R ∧ R < 4294967296) (fun r q _ => (intOf q).toNat)
        case atStart => exact ⟨_, _, rfl, rfl, by (repeat' (first | (with_reducible exact Below.refl _ _) | (with_reducible assumption) | (with_reducible refine Below.alloc ?_ ?_ _) | (with_reducible refine Below.setCell ?_ ?_ _) | (with_reducible refine Below.drew ?_) | (with_reducible refine below_drewN ?_ _) | (with_reducible refine below_via ?_ (by with_reducible assumption) ?_) | omega | (simp; done) | (simp; omega))), SS.out.1, by have h1 := SS.out.2; omega⟩
        case round =>
          obtain ⟨Q, R, rfl, rfl, hblS, hiS, hrS⟩ := hrel
          have IS := Lib.hid hiS
          have mS := hiS.mul_le SI.out
          have n1S := hiS.r0
          have n2S := hiS.q0
          have n3S := hiS.qB
          clear hiS
          by_cases gS : 4294967296 ≤ Q
          · have askS := Lib.hid (show dAsk v0 b Q R = true from by unfold dAsk; simp [gS])
            have StS := Lib.hid (IS.out.step SI.out askS.out)
            have p1S := StS.out.2
            have g3S : decide (4294967296 ≤ Q) = true := by simpa using gS
            by_cases oS : 4294967296 ≤ R + a
            · have XS := Lib.hid (DInv.over SI.out StS.out.1 (by omega) oS)
              clear askS IS StS
              go_wp2_with fail
              have R2 := DIn.quo SI.out XS.out
              have hE := HEND.out (Q - 1) XS.out
              rw [sub_mod (x := V) (y := v0) (z := (Q - 1) * (a * 4294967296 + b)) R2.2.2.1 (by omega)]
              try rw [u64_wrap (x := q1 * 4294967296 + (Q - 1)) (by omega) (by omega)]
              go_ret2
              exact ⟨by (rw [hE.1, hE.2]); first | done | rfl, by (repeat' (first | (with_reducible exact Below.refl _ _) | (with_reducible assumption) | (with_reducible refine Below.alloc ?_ ?_ _) | (with_reducible refine Below.setCell ?_ ?_ _) | (with_reducible refine Below.drew ?_) | (with_reducible refine below_drewN ?_ _) | (with_reducible refine below_via ?_ (by with_reducible assumption) ?_) | omega | (simp; done) | (simp; omega)))⟩
            · go_wp2_with fail
              go_roundw
              case rel => exact ⟨Q - 1, R + a, by go_num, by go_num, by (repeat' (first | (with_reducible exact Below.refl _ _) | (with_reducible assumption) | (with_reducible refine Below.alloc ?_ ?_ _) | (with_reducible refine Below.setCell ?_ ?_ _) | (with_reducible refine Below.drew ?_) | (with_reducible refine below_drewN ?_ _) | (with_reducible refine below_via ?_ (by with_reducible assumption) ?_) | omega | (simp; done) | (simp; omega))), StS.out.1, by omega⟩
              case measure => simp [intOf]; omega
          by_cases fS : 4294967296 * R + v0 < Q * b
          · have askS := Lib.hid (show dAsk v0 b Q R = true from by unfold dAsk; simp [fS])
            have StS := Lib.hid (IS.out.step SI.out askS.out)
            have p1S := StS.out.2
            have g2S : decide (4294967296 ≤ Q) = false := by simpa using gS
            have f3S : decide (4294967296 * R + v0 < Q * b) = true := by simpa using fS
            by_cases oS : 4294967296 ≤ R + a
            · have XS := Lib.hid (DInv.over SI.out StS.out.1 (by omega) oS)
              clear askS IS StS
              go_wp2_with fail
              have R2 := DIn.quo SI.out XS.out
              have hE := HEND.out (Q - 1) XS.out
              rw [sub_mod (x := V) (y := v0) (z := (Q - 1) * (a * 4294967296 + b)) R2.2.2.1 (by omega)]
              try rw [u64_wrap (x := q1 * 4294967296 + (Q - 1)) (by omega) (by omega)]
              go_ret2
              exact ⟨by (rw [hE.1, hE.2]); first | done | rfl, by (repeat' (first | (with_reducible exact Below.refl _ _) | (with_reducible assumption) | (with_reducible refine Below.alloc ?_ ?_ _) | (with_reducible refine Below.setCell ?_ ?_ _) | (with_reducible refine Below.drew ?_) | (with_reducible refine below_drewN ?_ _) | (with_reducible refine below_via ?_ (by with_reducible assumption) ?_) | omega | (simp; done) | (simp; omega)))⟩
            · go_wp2_with fail
              go_roundw
              case rel => exact ⟨Q - 1, R + a, by go_num, by go_num, by (repeat' (first | (with_reducible exact Below.refl _ _) | (with_reducible assumption) | (with_reducible refine Below.alloc ?_ ?_ _) | (with_reducible refine Below.setCell ?_ ?_ _) | (with_reducible refine Below.drew ?_) | (with_reducible refine below_drewN ?_ _) | (with_reducible refine below_via ?_ (by with_reducible assumption) ?_) | omega | (simp; done) | (simp; omega))), StS.out.1, by omega⟩
              case measure => simp [intOf]; omega
          have g2S : decide (4294967296 ≤ Q) = false := by simpa using gS
          have f2S : decide (4294967296 * R + v0 < Q * b) = false := by simpa using fS
          have XS := Lib.hid (DInv.stop SI.out IS.out (show dAsk v0 b Q R = false from by unfold dAsk; simp [gS]; omega))
          clear IS
          go_wp2_with fail
          have R2 := DIn.quo SI.out XS.out
          have hE := HEND.out Q XS.out
          rw [sub_mod (x := V) (y := v0) (z := Q * (a * 4294967296 + b)) R2.2.2.1 (by omega)]
          try rw [u64_wrap (x := q1 * 4294967296 + Q) (by omega) (by omega)]
          go_ret2
          exact ⟨by (rw [hE.1, hE.2]); first | done | rfl, by (repeat' (first | (with_reducible exact Below.refl _ _) | (with_reducible assumption) | (with_reducible refine Below.alloc ?_ ?_ _) | (with_reducible refine Below.setCell ?_ ?_ _) | (with_reducible refine Below.drew ?_) | (with_reducible refine below_drewN ?_ _) | (with_reducible refine below_via ?_ (by with_reducible assumption) ?_) | omega | (simp; done) | (simp; omega)))⟩
      · go_wp2_with fail
        go_roundw
        case rel => exact ⟨Q - 1, R + a, by go_num, by go_num, by (repeat' (first | (with_reducible exact Below.refl _ _) | (with_reducible assumption) | (with_reducible refine Below.alloc ?_ ?_ _) | (with_reducible refine Below.setCell ?_ ?_ _) | (with_reducible refine Below.drew ?_) | (with_reducible refine below_drewN ?_ _) | (with_reducible refine below_via ?_ (by with_reducible assumption) ?_) | omega | (simp; done) | (simp; omega))), StF.out.1, by omega⟩
        case measure => simp [intOf]; omega
    by_cases fF : 4294967296 * R + v1 < Q * b
    · have askF := Lib.hid (show dAsk v1 b Q R = true from by unfold dAsk; simp [fF])
      have StF := Lib.hid (IF.out.step FI.out askF.out)
      have p1F := StF.out.2
      have g2F : decide (4294967296 ≤ Q) = false := by simpa using gF
      have f3F : decide (4294967296 * R + v1 < Q * b) = true := by simpa using fF
      by_cases oF : 4294967296 ≤ R + a
      · have XF := Lib.hid (DInv.over FI.out StF.out.1 (by omega) oF)
        clear askF IF StF
        go_wp2_with fail
        have R1 := DIn.quo FI.out XF.out
        rw [sub_mod (x := U) (y := v1) (z := (Q - 1) * (a * 4294967296 + b)) R1.2.2.1 (by omega)]
        obtain ⟨q1, hq1⟩ : ∃ q1, q1 = (Q - 1) := ⟨_, rfl⟩
        rw [← hq1] at R1 ⊢
        have FX := Lib.hid (show q1 = (U * 4294967296 + v1) / (a * 4294967296 + b) from by rw [hq1]; exact XF.out)
        clear XF hq1
        obtain ⟨V, hV⟩ : ∃ V, V = U * 4294967296 + v1 - q1 * (a * 4294967296 + b) := ⟨_, rfl⟩
        rw [← hV] at R1 ⊢
        have hsi : DIn V v0 a b := ⟨by omega, by omega, by omega, by omega, by omega, by omega, by omega, by omega⟩
        have SI := Lib.hid hsi
        have gs := guess (U := V) (a := a) (by omega) (by omega) (by omega)
        rw [gs.1, gs.2]
        have SS := Lib.hid (DInv.start hsi)
        have endOf : ∀ q0, q0 = (V * 4294967296 + v0) / (a * 4294967296 + b) → q1 * 4294967296 + q0 = (hi * 18446744073709551616 + lo) / y ∧ (V * 4294967296 + v0 - q0 * (a * 4294967296 + b)) / 2 ^ s = (hi * 18446744073709551616 + lo) % y := (by
          intro q0 h0
          rw [hV] at h0 ⊢
          exact div_end HP.out HDY.out HN.out h0 (by omega))
        have HEND := Lib.hid endOf
        clear hsi gs hV endOf
        go_loopw [16, 18] (fun r q wr => ∃ Q R, q = .int .u64 Q ∧ r = .int .u64 R ∧ Below w1.heap.size w1 wr ∧ DInv V v0 a b Q R ∧ R < 4294967296) (fun r q _ => (intOf q).toNat)
        case atStart => exact ⟨_, _, rfl, rfl, by (repeat' (first | (with_reducible exact Below.refl _ _) | (with_reducible assumption) | (with_reducible refine Below.alloc ?_ ?_ _) | (with_reducible refine Below.setCell ?_ ?_ _) | (with_reducible refine Below.drew ?_) | (with_reducible refine below_drewN ?_ _) | (with_reducible refine below_via ?_ (by with_reducible assumption) ?_) | omega | (simp; done) | (simp; omega))), SS.out.1, by have h1 := SS.out.2; omega⟩
        case round =>
          obtain ⟨Q, R, rfl, rfl, hblS, hiS, hrS⟩ := hrel
          have IS := Lib.hid hiS
          have mS := hiS.mul_le SI.out
          have n1S := hiS.r0
          have n2S := hiS.q0
          have n3S := hiS.qB
          clear hiS
          by_cases gS : 4294967296 ≤ Q
          · have askS := Lib.hid (show dAsk v0 b Q R = true from by unfold dAsk; simp [gS])
            have StS := Lib.hid (IS.out.step SI.out askS.out)
            have p1S := StS.out.2
            have g3S : decide (4294967296 ≤ Q) = true := by simpa using gS
            by_cases oS : 4294967296 ≤ R + a
            · have XS := Lib.hid (DInv.over SI.out StS.out.1 (by omega) oS)
              clear askS IS StS
              go_wp2_with fail
              have R2 := DIn.quo SI.out XS.out
              have hE := HEND.out (Q - 1) XS.out
              rw [sub_mod (x := V) (y := v0) (z := (Q - 1) * (a * 4294967296 + b)) R2.2.2.1 (by omega)]
              try rw [u64_wrap (x := q1 * 4294967296 + (Q - 1)) (by omega) (by omega)]
              go_ret2
              exact ⟨by (rw [hE.1, hE.2]); first | done | rfl, by (repeat' (first | (with_reducible exact Below.refl _ _) | (with_reducible assumption) | (with_reducible refine Below.alloc ?_ ?_ _) | (with_reducible refine Below.setCell ?_ ?_ _) | (with_reducible refine Below.drew ?_) | (with_reducible refine below_drewN ?_ _) | (with_reducible refine below_via ?_ (by with_reducible assumption) ?_) | omega | (simp; done) | (simp; omega)))⟩
            · go_wp2_with fail
              go_roundw
              case rel => exact ⟨Q - 1, R + a, by go_num, by go_num, by (repeat' (first | (with_reducible exact Below.refl _ _) | (with_reducible assumption) | (with_reducible refine Below.alloc ?_ ?_ _) | (with_reducible refine Below.setCell ?_ ?_ _) | (with_reducible refine Below.drew ?_) | (with_reducible refine below_drewN ?_ _) | (with_reducible refine below_via ?_ (by with_reducible assumption) ?_) | omega | (simp; done) | (simp; omega))), StS.out.1, by omega⟩
              case measure => simp [intOf]; omega
          by_cases fS : 4294967296 * R + v0 < Q * b
          · have askS := Lib.hid (show dAsk v0 b Q R = true from by unfold dAsk; simp [fS])
            have StS := Lib.hid (IS.out.step SI.out askS.out)
            have p1S := StS.out.2
            have g2S : decide (4294967296 ≤ Q) = false := by simpa using gS
            have f3S : decide (4294967296 * R + v0 < Q * b) = true := by simpa using fS
            by_cases oS : 4294967296 ≤ R + a
            · have XS := Lib.hid (DInv.over SI.out StS.out.1 (by omega) oS)
              clear askS IS StS
              go_wp2_with fail
              have R2 := DIn.quo SI.out XS.out
              have hE := HEND.out (Q - 1) XS.out
              rw [sub_mod (x := V) (y := v0) (z := (Q - 1) * (a * 4294967296 + b)) R2.2.2.1 (by omega)]
              try rw [u64_wrap (x := q1 * 4294967296 + (Q - 1)) (by omega) (by omega)]
              go_ret2
              exact ⟨by (rw [hE.1, hE.2]); first | done | rfl, by (repeat' (first | (with_reducible exact Below.refl _ _) | (with_reducible assumption) | (with_reducible refine Below.alloc ?_ ?_ _) | (with_reducible refine Below.setCell ?_ ?_ _) | (with_reducible refine Below.drew ?_) | (with_reducible refine below_drewN ?_ _) | (with_reducible refine below_via ?_ (by with_reducible assumption) ?_) | omega | (simp; done) | (simp; omega)))⟩
            · go_wp2_with fail
              go_roundw
              case rel => exact ⟨Q - 1, R + a, by go_num, by go_num, by (repeat' (first | (with_reducible exact Below.refl _ _) | (with_reducible assumption) | (with_reducible refine Below.alloc ?_ ?_ _) | (with_reducible refine Below.setCell ?_ ?_ _) | (with_reducible refine Below.drew ?_) | (with_reducible refine below_drewN ?_ _) | (with_reducible refine below_via ?_ (by with_reducible assumption) ?_) | omega | (simp; done) | (simp; omega))), StS.out.1, by omega⟩
              case measure => simp [intOf]; omega
          have g2S : decide (4294967296 ≤ Q) = false := by simpa using gS
          have f2S : decide (4294967296 * R + v0 < Q * b) = false := by simpa using fS
          have XS := Lib.hid (DInv.stop SI.out IS.out (show dAsk v0 b Q R = false from by unfold dAsk; simp [gS]; omega))
          clear IS
          go_wp2_with fail
          have R2 := DIn.quo SI.out XS.out
          have hE := HEND.out Q XS.out
          rw [sub_mod (x := V) (y := v0) (z := Q * (a * 4294967296 + b)) R2.2.2.1 (by omega)]
          try rw [u64_wrap (x := q1 * 4294967296 + Q) (by omega) (by omega)]
          go_ret2
          exact ⟨by (rw [hE.1, hE.2]); first | done | rfl, by (repeat' (first | (with_reducible exact Below.refl _ _) | (with_reducible assumption) | (with_reducible refine Below.alloc ?_ ?_ _) | (with_reducible refine Below.setCell ?_ ?_ _) | (with_reducible refine Below.drew ?_) | (with_reducible refine below_drewN ?_ _) | (with_reducible refine below_via ?_ (by with_reducible assumption) ?_) | omega | (simp; done) | (simp; omega)))⟩
      · go_wp2_with fail
        go_roundw
        case rel => exact ⟨Q - 1, R + a, by go_num, by go_num, by (repeat' (first | (with_reducible exact Below.refl _ _) | (with_reducible assumption) | (with_reducible refine Below.alloc ?_ ?_ _) | (with_reducible refine Below.setCell ?_ ?_ _) | (with_reducible refine Below.drew ?_) | (with_reducible refine below_drewN ?_ _) | (with_reducible refine below_via ?_ (by with_reducible assumption) ?_) | omega | (simp; done) | (simp; omega))), StF.out.1, by omega⟩
        case measure => simp [intOf]; omega
    have g2F : decide (4294967296 ≤ Q) = false := by simpa using gF
    have f2F : decide (4294967296 * R + v1 < Q * b) = false := by simpa using fF
    have XF := Lib.hid (DInv.stop FI.out IF.out (show dAsk v1 b Q R = false from by unfold dAsk; simp [gF]; omega))
    clear IF
    go_wp2_with fail
    have R1 := DIn.quo FI.out XF.out
    rw [sub_mod (x := U) (y := v1) (z := Q * (a * 4294967296 + b)) R1.2.2.1 (by omega)]
    obtain ⟨q1, hq1⟩ : ∃ q1, q1 = Q := ⟨_, rfl⟩
    rw [← hq1] at R1 ⊢
    have FX := Lib.hid (show q1 = (U * 4294967296 + v1) / (a * 4294967296 + b) from by rw [hq1]; exact XF.out)
    clear XF hq1
    obtain ⟨V, hV⟩ : ∃ V, V = U * 4294967296 + v1 - q1 * (a * 4294967296 + b) := ⟨_, rfl⟩
    rw [← hV] at R1 ⊢
    have hsi : DIn V v0 a b := ⟨by omega, by omega, by omega, by omega, by omega, by omega, by omega, by omega⟩
    have SI := Lib.hid hsi
    have gs := guess (U := V) (a := a) (by omega) (by omega) (by omega)
    rw [gs.1, gs.2]
    have SS := Lib.hid (DInv.start hsi)
    have endOf : ∀ q0, q0 = (V * 4294967296 + v0) / (a * 4294967296 + b) → q1 * 4294967296 + q0 = (hi * 18446744073709551616 + lo) / y ∧ (V * 4294967296 + v0 - q0 * (a * 4294967296 + b)) / 2 ^ s = (hi * 18446744073709551616 + lo) % y := (by
      intro q0 h0
      rw [hV] at h0 ⊢
      exact div_end HP.out HDY.out HN.out h0 (by omega))
    have HEND := Lib.hid endOf
    clear hsi gs hV endOf
    go_loopw [16, 18] (fun r q wr => ∃ Q R, q = .int .u64 Q ∧ r = .int .u64 R ∧ Below w1.heap.size w1 wr ∧ DInv V v0 a b Q R ∧ R < 4294967296) (fun r q _ => (intOf q).toNat)
    case atStart => exact ⟨_, _, rfl, rfl, by (repeat' (first | (with_reducible exact Below.refl _ _) | (with_reducible assumption) | (with_reducible refine Below.alloc ?_ ?_ _) | (with_reducible refine Below.setCell ?_ ?_ _) | (with_reducible refine Below.drew ?_) | (with_reducible refine below_drewN ?_ _) | (with_reducible refine below_via ?_ (by with_reducible assumption) ?_) | omega | (simp; done) | (simp; omega))), SS.out.1, by have h1 := SS.out.2; omega⟩
    case round =>
      obtain ⟨Q, R, rfl, rfl, hblS, hiS, hrS⟩ := hrel
      have IS := Lib.hid hiS
      have mS := hiS.mul_le SI.out
      have n1S := hiS.r0
      have n2S := hiS.q0
      have n3S := hiS.qB
      clear hiS
      by_cases gS : 4294967296 ≤ Q
      · have askS := Lib.hid (show dAsk v0 b Q R = true from by unfold dAsk; simp [gS])
        have StS := Lib.hid (IS.out.step SI.out askS.out)
        have p1S := StS.out.2
        have g3S : decide (4294967296 ≤ Q) = true := by simpa using gS
        by_cases oS : 4294967296 ≤ R + a
        · have XS := Lib.hid (DInv.over SI.out StS.out.1 (by omega) oS)
          clear askS IS StS
          go_wp2_with fail
          have R2 := DIn.quo SI.out XS.out
          have hE := HEND.out (Q - 1) XS.out
          rw [sub_mod (x := V) (y := v0) (z := (Q - 1) * (a * 4294967296 + b)) R2.2.2.1 (by omega)]
          try rw [u64_wrap (x := q1 * 4294967296 + (Q - 1)) (by omega) (by omega)]
          go_ret2
          exact ⟨by (rw [hE.1, hE.2]); first | done | rfl, by (repeat' (first | (with_reducible exact Below.refl _ _) | (with_reducible assumption) | (with_reducible refine Below.alloc ?_ ?_ _) | (with_reducible refine Below.setCell ?_ ?_ _) | (with_reducible refine Below.drew ?_) | (with_reducible refine below_drewN ?_ _) | (with_reducible refine below_via ?_ (by with_reducible assumption) ?_) | omega | (simp; done) | (simp; omega)))⟩
        · go_wp2_with fail
          go_roundw
          case rel => exact ⟨Q - 1, R + a, by go_num, by go_num, by (repeat' (first | (with_reducible exact Below.refl _ _) | (with_reducible assumption) | (with_reducible refine Below.alloc ?_ ?_ _) | (with_reducible refine Below.setCell ?_ ?_ _) | (with_reducible refine Below.drew ?_) | (with_reducible refine below_drewN ?_ _) | (with_reducible refine below_via ?_ (by with_reducible assumption) ?_) | omega | (simp; done) | (simp; omega))), StS.out.1, by omega⟩
          case measure => simp [intOf]; omega
      by_cases fS : 4294967296 * R + v0 < Q * b
      · have askS := Lib.hid (show dAsk v0 b Q R = true from by unfold dAsk; simp [fS])
        have StS := Lib.hid (IS.out.step SI.out askS.out)
        have p1S := StS.out.2
        have g2S : decide (4294967296 ≤ Q) = false := by simpa using gS
        have f3S : decide (4294967296 * R + v0 < Q * b) = true := by simpa using fS
        by_cases oS : 4294967296 ≤ R + a
        · have XS := Lib.hid (DInv.over SI.out StS.out.1 (by omega) oS)
          clear askS IS StS
          go_wp2_with fail
          have R2 := DIn.quo SI.out XS.out
          have hE := HEND.out (Q - 1) XS.out
          rw [sub_mod (x := V) (y := v0) (z := (Q - 1) * (a * 4294967296 + b)) R2.2.2.1 (by omega)]
          try rw [u64_wrap (x := q1 * 4294967296 + (Q - 1)) (by omega) (by omega)]
          go_ret2
          exact ⟨by (rw [hE.1, hE.2]); first | done | rfl, by (repeat' (first | (with_reducible exact Below.refl _ _) | (with_reducible assumption) | (with_reducible refine Below.alloc ?_ ?_ _) | (with_reducible refine Below.setCell ?_ ?_ _) | (with_reducible refine Below.drew ?_) | (with_reducible refine below_drewN ?_ _) | (with_reducible refine below_via ?_ (by with_reducible assumption) ?_) | omega | (simp; done) | (simp; omega)))⟩
        · go_wp2_with fail
          go_roundw
          case rel => exact ⟨Q - 1, R + a, by go_num, by go_num, by (repeat' (first | (with_reducible exact Below.refl _ _) | (with_reducible assumption) | (with_reducible refine Below.alloc ?_ ?_ _) | (with_reducible refine Below.setCell ?_ ?_ _) | (with_reducible refine Below.drew ?_) | (with_reducible refine below_drewN ?_ _) | (with_reducible refine below_via ?_ (by with_reducible assumption) ?_) | omega | (simp; done) | (simp; omega))), StS.out.1, by omega⟩
          case measure => simp [intOf]; omega
      have g2S : decide (4294967296 ≤ Q) = false := by simpa using gS
      have f2S : decide (4294967296 * R + v0 < Q * b) = false := by simpa using fS
      have XS := Lib.hid (DInv.stop SI.out IS.out (show dAsk v0 b Q R = false from by unfold dAsk; simp [gS]; omega))
      clear IS
      go_wp2_with fail
      have R2 := DIn.quo SI.out XS.out
      have hE := HEND.out Q XS.out
      rw [sub_mod (x := V) (y := v0) (z := Q * (a * 4294967296 + b)) R2.2.2.1 (by omega)]
      try rw [u64_wrap (x := q1 * 4294967296 + Q) (by omega) (by omega)]
      go_ret2
      exact ⟨by (rw [hE.1, hE.2]); first | done | rfl, by (repeat' (first | (with_reducible exact Below.refl _ _) | (with_reducible assumption) | (with_reducible refine Below.alloc ?_ ?_ _) | (with_reducible refine Below.setCell ?_ ?_ _) | (with_reducible refine Below.drew ?_) | (with_reducible refine below_drewN ?_ _) | (with_reducible refine below_via ?_ (by with_reducible assumption) ?_) | omega | (simp; done) | (simp; omega)))⟩
theorem div64 (hi lo y : Int) (w : World) (h0 : 0 ≤ hi) (hhi : hi < y) (hy : y ≤ 18446744073709551615) (l0 : 0 ≤ lo) (l1 : lo ≤ 18446744073709551615) :
    Calls Try.prog 72 #[.int .u64 hi, .int .u64 lo, .int .u64 y] w fun e w' => e = .returned (.tuple #[.int .u64 ((hi * 18446744073709551616 + lo) / y), .int .u64 ((hi * 18446744073709551616 + lo) % y)]) ∧ Below w.heap.size w w' := by
  rcases (show hi = 0 ∨ 0 < hi by omega) with h | h
  · subst h
    rw [show (0 : Int) * 18446744073709551616 + lo = lo by omega]
    exact div64Low lo y w hhi hy l0 l1
  · exact div64High hi lo y w h hhi hy l0 l1
end Go.Proofs.Ytenehpcliajdnaa
