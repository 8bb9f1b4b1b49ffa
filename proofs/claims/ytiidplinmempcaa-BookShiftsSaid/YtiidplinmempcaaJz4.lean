/- Joined: Wide6, Fix2, Leg, Vec1, Vec2, Vec3. -/
import Derived.Test.YtiidplinmempcaaJz3
import Derived.Test.YtiidplinmempcaaJz1
import Derived.Test.YtiidplinmempcaaJz2
import Derived.Outline
/- Contract of wide.Add. -/
namespace Go.Proofs.Ytiidplinmempcaa
open Go.RowKit
/-- A wide number's two cells. -/
def encW (n : Int) : List Value := [.int .i64 (whi n), .int .u64 (wlo n)]
theorem sum_take_succ (l : List Int) (k : Nat) (h : k < l.length) : (l.take (k + 1)).sum = (l.take k).sum + l[k] := by
  rw [List.take_succ_eq_append_getElem h, List.sum_append]; simp
theorem sum_bound (l : List Int) (hin : ∀ n ∈ l, In128 n) : -(l.length * 170141183460469231731687303715884105728 : Int) ≤ l.sum ∧ l.sum ≤ l.length * 170141183460469231731687303715884105728 := by
  induction l with
  | nil => simp
  | cons a l ih =>
    have h1 := hin a (by simp)
    have h2 := ih (fun n hn => hin n (by simp [hn]))
    unfold In128 at h1
    simp only [List.sum_cons, List.length_cons]
    omega
set_option maxRecDepth 100000 in
set_option maxHeartbeats 1000000 in
theorem wideAddAt (l : List Int) (A : Option Addr) (c : Nat) (w : World) (hl : l.length ≤ 4503599627370496) (hin : ∀ n ∈ l, In128 n) (hr : Rd w A 2 (l.map encW)) (x y z : Int)
    (hv : ∀ (w' : World) (g : Nat), Blk w' g 172 (tot l.sum) → Calls Try.prog 128 #[.pointer (some ⟨g, 0, none⟩)] w' fun e w'' => e = .returned (.tuple #[.agg #[.int .i64 x, .int .u64 y], .int .i64 z]) ∧ Below w'.heap.size w' w'') :
    Calls Try.prog 74 #[.slice A l.length c] w fun e w' => e = .returned (.tuple #[.agg #[.int .i64 x, .int .u64 y], .int .i64 z]) ∧ Below w.heap.size w w' := by
  have Hv := Lib.hid hv
  have Hr := Lib.hid hr
  have Hin := Lib.hid hin
  clear hv hr hin
  go_enter Try.func74, Try.ntmps74
  go_wp2_with fail
  go_loopw [9] (fun i wr => ∃ k : Nat, k ≤ l.length ∧ i = .int .i64 k ∧ Blk wr (w.heap.size + 1) 172 (tot (l.take k).sum) ∧ Below (w.heap.size + 1) (w.alloc (.cells #[.int .i64 0, .int .u64 0] 28)) wr)
    (fun i _ => l.length - (intOf i).toNat)
  case atStart => exact ⟨0, Nat.zero_le _, rfl, by simp only [List.take_zero, List.sum_nil]; rw [show tot 0 = #[.int .i64 0, .int .i64 0, .int .u64 0] from by simp [tot, whi, wlo, wrap128]]; (repeat' (first | (with_reducible assumption) | (with_reducible refine Blk.drew ?_) | (with_reducible refine Blk.here ?_) | (with_reducible refine Blk.alloc ?_ _) | (with_reducible refine Blk.far ?_ ?_ _) | (with_reducible refine Blk.below ?_ (by with_reducible assumption) ?_) | omega | (simp; done) | (simp; omega))), by (repeat' (first | (with_reducible exact Below.refl _ _) | (with_reducible assumption) | (with_reducible refine Below.alloc ?_ ?_ _) | (with_reducible refine Below.setCell ?_ ?_ _) | (with_reducible refine Below.drew ?_) | (with_reducible refine below_drewN ?_ _) | (with_reducible refine below_via ?_ (by with_reducible assumption) ?_) | omega | (simp; done) | (simp; omega)))⟩
  case round =>
    obtain ⟨k, hk, rfl, hB, hbl⟩ := hrel
    have HB := Lib.hid hB
    have Hbl := Lib.hid hbl
    have hz := hbl.size
    simp at hz
    have hz2 := hB.lt
    clear hB hbl
    by_cases hlt : k < l.length
    · obtain ⟨b, o, rfl, hb, hc⟩ := Hr.out k (encW l[k]) (by simp [hlt])
      have c0 := (Hbl.out.cell (p := ⟨b, o + k * 2 + 0, none⟩) (by exact Nat.lt_succ_of_lt hb)).trans (cell_alloc hb (hc 0 _ rfl))
      have c1 := (Hbl.out.cell (p := ⟨b, o + k * 2 + 1, none⟩) (by exact Nat.lt_succ_of_lt hb)).trans (cell_alloc hb (hc 1 _ rfl))
      have sb := sum_bound (l.take k) (fun n hn => Hin.out n (List.mem_of_mem_take hn))
      have sl : (l.take k).length ≤ k := List.length_take_le _ _
      clear hc
      simp only [Nat.add_zero] at c0
      have hlk := Hin.out l[k] (List.getElem_mem hlt)
      obtain ⟨n, hn⟩ : ∃ n, n = l[k] := ⟨_, rfl⟩
      have hs := sum_take_succ l k hlt
      rw [← hn] at c0 c1 hlk hs
      have Hs := Lib.hid hs
      have Hn := Lib.hid hn
      clear hs hn
      go_wp2_with fail
      refine (totalAdd (l.take k).sum n (w.heap.size + 1) _ (by unfold InT; omega) hlk (by have hB := HB.out; (repeat' (first | (with_reducible assumption) | (with_reducible refine Blk.drew ?_) | (with_reducible refine Blk.here ?_) | (with_reducible refine Blk.alloc ?_ _) | (with_reducible refine Blk.far ?_ ?_ _) | (with_reducible refine Blk.below ?_ (by with_reducible assumption) ?_) | omega | (simp; done) | (simp; omega))))).mono ?_
      rintro e w1 ⟨rfl, hk1, ho1⟩
      obtain ⟨fc1, fg1, hc1, hf1, hz1⟩ := oget ho1
      rw [← Hs.out] at hk1
      have Hk1 := Lib.hid hk1
      have Ho1 := Lib.hid ho1
      clear hk1 ho1
      go_wp2_with fail
      go_roundw
      case rel => exact ⟨k + 1, by omega, by go_num, Hk1.out, by refine below_only ?_ Ho1.out ?_ ?_ <;> first | (simp; omega) | (have hb := Hbl.out; (repeat' (first | (with_reducible exact Below.refl _ _) | (with_reducible assumption) | (with_reducible refine Below.alloc ?_ ?_ _) | (with_reducible refine Below.setCell ?_ ?_ _) | (with_reducible refine Below.drew ?_) | (with_reducible refine below_drewN ?_ _) | (with_reducible refine below_via ?_ (by with_reducible assumption) ?_) | omega | (simp; done) | (simp; omega))))⟩
      case measure => simp [intOf]; omega
    · have hkl : k = l.length := by omega
      subst hkl
      have hB := HB.out
      rw [List.take_length] at hB
      obtain ⟨hfc, hff, hzz⟩ : (∀ b o, b < w.heap.size + 1 → wr.cell? ⟨b, o, none⟩ = (w.alloc (.cells #[.int .i64 0, .int .u64 0] 28)).cell? ⟨b, o, none⟩) ∧ (∀ b o, b < w.heap.size + 1 → wr.frozen? ⟨b, o, none⟩ = (w.alloc (.cells #[.int .i64 0, .int .u64 0] 28)).frozen? ⟨b, o, none⟩) ∧ True := ⟨fun b o h => Hbl.out.cell (p := ⟨b, o, none⟩) h, fun b o h => Hbl.out.frozen (p := ⟨b, o, none⟩) h, trivial⟩
      have r0 := hfc w.heap.size 0 (by omega)
      have r1 := hfc w.heap.size 1 (by omega)
      have z0 := hff w.heap.size 0 (by omega)
      have z1 := hff w.heap.size 1 (by omega)
      simp at r0 r1 z0 z1
      clear hfc hff
      have HBB := Lib.hid hB
      clear hB
      go_wp2_with fail
      refine (Hv.out _ _ HBB.out).mono ?_
      rintro e w1 ⟨rfl, hb1⟩
      obtain ⟨fc1, fg1, hc1, hf1, hz1⟩ := bget hb1
      go_wp2
      all_goals
        refine bodyPost_ret (by simp [*, results, Try.results74, go_sem, ↓IntWalk.iteOmega]; try rfl) rfl ⟨rfl, ?_⟩
        have hb := Hbl.out.mono (B' := w.heap.size) (by omega)
        have hb2 : Below w.heap.size w wr := ((Below.refl _ _).alloc (Nat.le_refl _) _).trans hb
        (repeat' (first | (with_reducible exact Below.refl _ _) | (with_reducible assumption) | (with_reducible refine Below.alloc ?_ ?_ _) | (with_reducible refine Below.setCell ?_ ?_ _) | (with_reducible refine Below.drew ?_) | (with_reducible refine below_drewN ?_ _) | (with_reducible refine below_via ?_ (by with_reducible assumption) ?_) | omega | (simp; done) | (simp; omega)))
theorem wideAddYes (l : List Int) (A : Option Addr) (c : Nat) (w : World) (hl : l.length ≤ 4503599627370496) (hin : ∀ n ∈ l, In128 n) (hr : Rd w A 2 (l.map encW)) (hs : In128 l.sum) :
    Calls Try.prog 74 #[.slice A l.length c] w fun e w' => e = .returned (.tuple #[(.agg #[.int .i64 (whi (l.sum)), .int .u64 (wlo (l.sum))]), .int .i64 0]) ∧ Below w.heap.size w w' :=
  wideAddAt l A c w hl hin hr _ _ _ fun _ _ hB => totalDoneYes _ _ _ hs hB
theorem wideAddNo (l : List Int) (A : Option Addr) (c : Nat) (w : World) (hl : l.length ≤ 4503599627370496) (hin : ∀ n ∈ l, In128 n) (hr : Rd w A 2 (l.map encW)) (hs : ¬ In128 l.sum) :
    Calls Try.prog 74 #[.slice A l.length c] w fun e w' => e = .returned (.tuple #[.agg #[.int .i64 0, .int .u64 0], .int .i64 7]) ∧ Below w.heap.size w w' :=
  wideAddAt l A c w hl hin hr _ _ _ fun _ _ hB => totalDoneNo _ _ _ hs hB
end Go.Proofs.Ytiidplinmempcaa

/- Contracts of fix.Sum, Product. -/
namespace Go.Proofs.Ytiidplinmempcaa
open Go.RowKit
theorem elW : Elem Try.prog 114 28 2 16 := elem_of Try.underlying114 (z := .agg #[.int .i64 0, .int .u64 0]) (by kernel_rfl) rfl (by omega)
theorem sum64_bound (l : List Int) (hin : ∀ n ∈ l, In64 n) : -(l.length * 9223372036854775808 : Int) ≤ l.sum ∧ l.sum ≤ l.length * 9223372036854775808 := by
  induction l with
  | nil => simp
  | cons a l ih =>
    have h1 := hin a (by simp)
    have h2 := ih (fun n hn => hin n (by simp [hn]))
    unfold In64 at h1
    simp only [List.sum_cons, List.length_cons]
    omega
set_option maxRecDepth 100000 in
set_option maxHeartbeats 1000000 in
theorem fixSumAt (l : List Int) (A : Option Addr) (c : Nat) (w : World) (hl : l.length ≤ 1099511627776) (hin : ∀ n ∈ l, In64 n) (hr : Rd w A 1 (l.map encI)) (p q : Int)
    (hv : ∀ w1 : World, Calls Try.prog 169 #[(.agg #[.int .i64 (whi (l.sum)), .int .u64 (wlo (l.sum))]), .int .i64 0] w1 fun e w' => e = .returned (.tuple #[.int .i64 p, .int .i64 q]) ∧ Below w1.heap.size w1 w') :
    Calls Try.prog 139 #[.slice A l.length c] w fun e w' => e = .returned (.tuple #[.int .i64 p, .int .i64 q]) ∧ Below w.heap.size w w' := by
  have Hr := Lib.hid hr
  have Hin := Lib.hid hin
  have Hv := Lib.hid hv
  clear hr hin hv
  go_enter Try.func139, Try.ntmps139
  go_wp2_with (at_make; refine wpList_mk rfl _ _ _ rfl elW w.heap.size _ _ _ l.length rfl rfl (by omega) (by omega) (by unfold maxLen; omega) (Nat.le_refl _) ?_; intro w1 hown1 hb1)
  have Hown1 := Lib.hid hown1
  have Hb1 := Lib.hid hb1
  clear hown1 hb1
  go_loopw [4, 12] (fun v i wr => ∃ k : Nat, k ≤ l.length ∧ i = .int .i64 k ∧ Own wr w.heap.size 28 2 v ((l.take k).map encW) ∧ Below w.heap.size w wr) (fun _ i _ => l.length - (intOf i).toNat)
  case atStart => exact ⟨0, Nat.zero_le _, rfl, by simpa using Hown1.out, Hb1.out⟩
  case round =>
    obtain ⟨k, hk, rfl, hown, hbl⟩ := hrel
    have Hown := Lib.hid hown
    have Hbl := Lib.hid hbl
    have hz := hbl.size
    clear hown hbl
    by_cases hlt : k < l.length
    · obtain ⟨b, o, rfl, hb, hc⟩ := Hr.out k (encI l[k]) (by simp [hlt])
      have c0 := (Hbl.out.cell (p := ⟨b, o + k * 1 + 0, none⟩) hb).trans (hc 0 _ rfl)
      simp only [Nat.add_zero, Nat.mul_one] at c0
      clear hc
      have hlk := Hin.out l[k] (List.getElem_mem hlt)
      have Hs : Hid ((l.take (k + 1)).map encW = (l.take k).map encW ++ [encW l[k]]) := by unfold Hid; rw [List.take_succ_eq_append_getElem hlt, List.map_append]; rfl
      obtain ⟨n, hn⟩ : ∃ n, n = l[k] := ⟨_, rfl⟩
      rw [← hn] at c0 hlk Hs
      clear hn
      have lk : ((l.take k).map encW).length ≤ k := by simp; omega
      go_wp2_with (first | (go_at_call 103; refine (wideOf n _ hlk).mono ?_; rintro e w2 ⟨rfl, hb2⟩; have hz2 := hb2.size; have Hb2 := Lib.hid hb2; clear hb2) | (at_builtin; refine wpList_app rfl _ _ _ rfl elW w.heap.size _ _ rfl ((Hown.out.keep Hb2.out).alloc _) (some ⟨w2.heap.size, 0, none⟩) 1 1 rfl [encW n] rfl (fun h => by cases h) rd_one (by simp [encW]; exact ⟨rfl, rfl⟩) (by unfold maxLen; omega) (by omega) (by simp; omega) ?_; intro v' w3 hown3 hb3))
      go_roundw
      case rel => exact ⟨k + 1, by omega, by go_num, by rw [Hs.out]; exact hown3, ((Hbl.out.trans (Hb2.out.mono hz)).alloc (by omega) _).trans hb3⟩
      case measure => simp [intOf]; omega
    · obtain rfl : k = l.length := by omega
      have ho := Hown.out
      rw [List.take_length] at ho
      obtain ⟨A', c', rfl, _, _, hr', _⟩ := ho.shape
      have Hr' := Lib.hid hr'
      have h128 : ∀ n ∈ l, In128 n := fun n hn => in128_of64 (Hin.out n hn)
      have hsum := sum64_bound l Hin.out
      have H128 := Lib.hid h128
      clear hr' ho h128
      simp only [List.length_map]
      go_wp2_with fail
      refine (wideAddYes l A' c' _ (by omega) H128.out Hr'.out (by unfold In128; omega)).mono ?_
      rintro e w2 ⟨rfl, hb2⟩
      have hz2 := hb2.size
      have Hb2 := Lib.hid hb2
      clear hb2
      go_wp2_with fail
      refine (Hv.out _).mono ?_
      rintro e w3 ⟨rfl, hb3⟩
      have Hb3 := Lib.hid hb3
      clear hb3
      go_wp2_with fail
      go_ret2
      exact ⟨rfl, Hbl.out.trans ((Hb2.out.mono hz).trans (Hb3.out.mono (by omega)))⟩
theorem fixSumYes (l : List Int) (A : Option Addr) (c : Nat) (w : World) (hl : l.length ≤ 1099511627776) (hin : ∀ n ∈ l, In64 n) (hr : Rd w A 1 (l.map encI)) (hs : In64 l.sum) :
    Calls Try.prog 139 #[.slice A l.length c] w fun e w' => e = .returned (.tuple #[.int .i64 l.sum, .int .i64 0]) ∧ Below w.heap.size w w' :=
  fixSumAt l A c w hl hin hr _ _ fun w1 => narrowYes _ w1 hs
theorem fixSumNo (l : List Int) (A : Option Addr) (c : Nat) (w : World) (hl : l.length ≤ 1099511627776) (hin : ∀ n ∈ l, In64 n) (hr : Rd w A 1 (l.map encI)) (hs : ¬ In64 l.sum) :
    Calls Try.prog 139 #[.slice A l.length c] w fun e w' => e = .returned (.tuple #[.int .i64 0, .int .i64 7]) ∧ Below w.heap.size w w' :=
  fixSumAt l A c w hl hin hr _ _ fun w1 => narrowNo _ w1 (by have := sum64_bound l hin; unfold In128; omega) hs
end Go.Proofs.Ytiidplinmempcaa

/- Legs: contracts of vec.Is, Get, the reference's Is, Get. -/
namespace Go.Proofs.Ytiidplinmempcaa
open Go.RowKit
structure Leg where
  inst : Int
  qty : Int
  deriving DecidableEq
def encLeg (x : Leg) : List Value := [.int .i64 x.inst, .int .i64 x.qty]
def okLeg (x : Leg) : Prop := In64 x.inst ∧ In64 x.qty
theorem rowsLeg (l : List Leg) : ∀ r ∈ l.map encLeg, r.length = 2 ∧ ∀ u ∈ r, u.oneCell' = true := by
  intro r hr
  obtain ⟨m, _, rfl⟩ := List.mem_map.1 hr
  refine ⟨rfl, ?_⟩
  simp only [encLeg, List.mem_cons, List.not_mem_nil, or_false, forall_eq_or_imp, forall_eq]
  exact ⟨rfl, rfl⟩
theorem encLeg_inj {x y : Leg} (h : encLeg x = encLeg y) : x = y := by
  unfold encLeg at h
  simp only [List.cons.injEq, Value.int.injEq, and_true, true_and] at h
  obtain ⟨h0, h1⟩ := h
  obtain ⟨xinst, xqty⟩ := x
  obtain ⟨yinst, yqty⟩ := y
  simp only at h0 h1
  subst h0 h1
  rfl
theorem neqLeg {x y : Leg} (h : x ≠ y) : ((x.inst == y.inst) = false) ∨ ((x.qty == y.qty) = false) := by
  cases h0 : (x.inst == y.inst)
  · simp
  cases h1 : (x.qty == y.qty)
  · simp
  · exfalso
    apply h
    obtain ⟨xinst, xqty⟩ := x
    obtain ⟨yinst, yqty⟩ := y
    simp_all
theorem elLeg : Elem Try.prog 23 116 2 16 := elem_of Try.underlying23 (z := .agg #[.int .i64 0, .int .i64 0]) (by kernel_rfl) rfl (by omega)
def isF : Int → List Leg → Bool
  | _, [] => true
  | a, x :: l => decide (a < x.inst) && decide (x.inst ≤ 8) && decide (x.qty ≠ 0) && isF x.inst l
def getF (i : Int) : List Leg → Int
  | [] => 0
  | x :: l => if x.inst = i then x.qty else getF i l
def isV (l : List Leg) : Bool := isF 0 l
theorem isF_yes {a : Int} {x : Leg} {l : List Leg} (h1 : a < x.inst ∧ x.inst ≤ 8) (h3 : (x.qty == 0) = false) : isF a (x :: l) = isF x.inst l := by
  have : x.qty ≠ 0 := by simpa using h3
  simp [isF, h1.1, h1.2, this]
theorem isF_no {a : Int} {x : Leg} {l : List Leg} (h1 : ¬ (a < x.inst ∧ x.inst ≤ 8)) : isF a (x :: l) = false := by
  simp only [isF, Bool.and_eq_false_iff, decide_eq_false_iff_not]
  omega
theorem isF_no0 {a : Int} {x : Leg} {l : List Leg} (h3 : (x.qty == 0) = true) : isF a (x :: l) = false := by
  have : x.qty = 0 := by simpa using h3
  simp [isF, this]
set_option maxRecDepth 100000 in
set_option maxHeartbeats 1000000 in
theorem vecIs (l : List Leg) (A : Option Addr) (c : Nat) (w : World) (hl : l.length ≤ 1099511627776) (hr : Rd w A 2 (l.map encLeg)) :
    Calls Try.prog 71 #[.slice A l.length c] w fun e w' => e = .returned (.bool (isV l)) ∧ Below w.heap.size w w' := by
  have HR := Lib.hid hr
  clear hr
  go_enter Try.func71, Try.ntmps71
  go_wp2_with fail
  go_loopw [3, 8] (fun a i wr => ∃ (k : Nat) (x : Int), k ≤ l.length ∧ i = .int .i64 k ∧ a = .int .i64 x ∧ isV l = isF x (l.drop k) ∧ Below w.heap.size w wr) (fun _ i _ => l.length - (intOf i).toNat)
  case atStart => exact ⟨0, 0, Nat.zero_le _, rfl, rfl, rfl, Below.refl _ _⟩
  case round =>
    obtain ⟨k, x, hk, rfl, rfl, hv, hbl⟩ := hrel
    have Hbl := Lib.hid hbl
    have HV := Lib.hid hv
    have hz := hbl.size
    clear hbl hv
    by_cases hlt : k < l.length
    · obtain ⟨be, oe, rfl, hbe, hqe⟩ := HR.out k (encLeg l[k]) (by simp [hlt])
      replace hqe := fun j v hv => (Hbl.out.cell (p := ⟨be, oe + k * 2 + j, none⟩) hbe).trans (hqe j v hv)
      have e0 := hqe 0 _ rfl
      have e1 := hqe 1 _ rfl
      simp only [Nat.add_zero] at e0
      clear hqe
      have HD := Lib.hid (drop_cons' hlt)
      cases hq : (l[k].qty == 0)
      · by_cases hg : x < l[k].inst ∧ l[k].inst ≤ 8
        · have HN := Lib.hid (isF_yes (l := l.drop (k + 1)) hg hq)
          go_wp2_with fail
          go_roundw
          case rel => exact ⟨k + 1, _, by omega, by go_num, rfl, by rw [HV.out, HD.out, HN.out], by have hbl := Hbl.out; (repeat' (first | (with_reducible exact Below.refl _ _) | (with_reducible assumption) | (with_reducible refine Below.alloc ?_ ?_ _) | (with_reducible refine Below.setCell ?_ ?_ _) | (with_reducible refine Below.drew ?_) | (with_reducible refine below_drewN ?_ _) | (with_reducible refine below_via ?_ (by with_reducible assumption) ?_) | omega | (simp; done) | (simp; omega)))⟩
          case measure => simp [intOf]; omega
        · have HN := Lib.hid (isF_no (l := l.drop (k + 1)) hg)
          go_wp2_with fail
          all_goals
            go_ret
            exact ⟨by rw [HV.out, HD.out, HN.out]; first | done | rfl, by (have hbl := Hbl.out; (repeat' (first | (with_reducible exact Below.refl _ _) | (with_reducible assumption) | (with_reducible refine Below.alloc ?_ ?_ _) | (with_reducible refine Below.setCell ?_ ?_ _) | (with_reducible refine Below.drew ?_) | (with_reducible refine below_drewN ?_ _) | (with_reducible refine below_via ?_ (by with_reducible assumption) ?_) | omega | (simp; done) | (simp; omega))))⟩
      · have HN := Lib.hid (isF_no0 (a := x) (l := l.drop (k + 1)) hq)
        go_wp2_with fail
        all_goals
          go_ret
          exact ⟨by rw [HV.out, HD.out, HN.out]; first | done | rfl, by (have hbl := Hbl.out; (repeat' (first | (with_reducible exact Below.refl _ _) | (with_reducible assumption) | (with_reducible refine Below.alloc ?_ ?_ _) | (with_reducible refine Below.setCell ?_ ?_ _) | (with_reducible refine Below.drew ?_) | (with_reducible refine below_drewN ?_ _) | (with_reducible refine below_via ?_ (by with_reducible assumption) ?_) | omega | (simp; done) | (simp; omega))))⟩
    · have HD := Lib.hid (drop_all (l := l) (k := k) (by omega))
      go_wp2_with fail
      go_ret
      exact ⟨by rw [HV.out, HD.out]; rfl, Hbl.out⟩
set_option maxRecDepth 100000 in
set_option maxHeartbeats 1000000 in
theorem vecGet (l : List Leg) (id : Int) (A : Option Addr) (c : Nat) (w : World) (hl : l.length ≤ 1099511627776) (hr : Rd w A 2 (l.map encLeg)) :
    Calls Try.prog 104 #[.slice A l.length c, .int .i64 id] w fun e w' => e = .returned (.int .i64 (getF id l)) ∧ Below w.heap.size w w' := by
  have HR := Lib.hid hr
  clear hr
  go_enter Try.func104, Try.ntmps104
  go_wp2_with fail
  go_loopw [9] (fun i wr => ∃ k : Nat, k ≤ l.length ∧ i = .int .i64 k ∧ getF id l = getF id (l.drop k) ∧ Below w.heap.size w wr) (fun i _ => l.length - (intOf i).toNat)
  case atStart => exact ⟨0, Nat.zero_le _, rfl, rfl, Below.refl _ _⟩
  case round =>
    obtain ⟨k, hk, rfl, hv, hbl⟩ := hrel
    have Hbl := Lib.hid hbl
    have HV := Lib.hid hv
    have hz := hbl.size
    clear hbl hv
    by_cases hlt : k < l.length
    · obtain ⟨be, oe, rfl, hbe, hqe⟩ := HR.out k (encLeg l[k]) (by simp [hlt])
      replace hqe := fun j v hv => (Hbl.out.cell (p := ⟨be, oe + k * 2 + j, none⟩) hbe).trans (hqe j v hv)
      have e0 := hqe 0 _ rfl
      have e1 := hqe 1 _ rfl
      simp only [Nat.add_zero] at e0
      clear hqe
      have HD := Lib.hid (drop_cons' hlt)
      cases hq : (l[k].inst == id)
      · have HN := Lib.hid (show getF id (l[k] :: l.drop (k + 1)) = getF id (l.drop (k + 1)) from by rw [getF, if_neg (by simpa using hq)])
        go_wp2_with fail
        go_roundw
        case rel => exact ⟨k + 1, by omega, by go_num, by rw [HV.out, HD.out, HN.out], by (have hbl := Hbl.out; (repeat' (first | (with_reducible exact Below.refl _ _) | (with_reducible assumption) | (with_reducible refine Below.alloc ?_ ?_ _) | (with_reducible refine Below.setCell ?_ ?_ _) | (with_reducible refine Below.drew ?_) | (with_reducible refine below_drewN ?_ _) | (with_reducible refine below_via ?_ (by with_reducible assumption) ?_) | omega | (simp; done) | (simp; omega))))⟩
        case measure => simp [intOf]; omega
      · have HN := Lib.hid (show getF id (l[k] :: l.drop (k + 1)) = l[k].qty from by rw [getF, if_pos (by simpa using hq)])
        go_wp2_with fail
        go_ret
        exact ⟨by rw [HV.out, HD.out, HN.out]; first | done | rfl, by (have hbl := Hbl.out; (repeat' (first | (with_reducible exact Below.refl _ _) | (with_reducible assumption) | (with_reducible refine Below.alloc ?_ ?_ _) | (with_reducible refine Below.setCell ?_ ?_ _) | (with_reducible refine Below.drew ?_) | (with_reducible refine below_drewN ?_ _) | (with_reducible refine below_via ?_ (by with_reducible assumption) ?_) | omega | (simp; done) | (simp; omega))))⟩
    · have HD := Lib.hid (drop_all (l := l) (k := k) (by omega))
      go_wp2_with fail
      go_ret
      exact ⟨by rw [HV.out, HD.out]; rfl, Hbl.out⟩
set_option maxRecDepth 100000 in
set_option maxHeartbeats 1000000 in
theorem refGet11 (l : List Leg) (id : Int) (A : Option Addr) (c : Nat) (w : World) (hl : l.length ≤ 1099511627776) (hr : Rd w A 2 (l.map encLeg)) :
    Calls Try.prog 84 #[.slice A l.length c, .int .i64 id] w fun e w' => e = .returned (.int .i64 (getF id l)) ∧ Below w.heap.size w w' := by
  have HR := Lib.hid hr
  clear hr
  go_enter Try.func84, Try.ntmps84
  go_wp2_with fail
  go_loopw [5] (fun i wr => ∃ k : Nat, k ≤ l.length ∧ i = .int .i64 k ∧ getF id l = getF id (l.drop k) ∧ Below w.heap.size w wr) (fun i _ => l.length - (intOf i).toNat)
  case atStart => exact ⟨0, Nat.zero_le _, rfl, rfl, Below.refl _ _⟩
  case round =>
    obtain ⟨k, hk, rfl, hv, hbl⟩ := hrel
    have Hbl := Lib.hid hbl
    have HV := Lib.hid hv
    have hz := hbl.size
    clear hbl hv
    by_cases hlt : k < l.length
    · obtain ⟨be, oe, rfl, hbe, hqe⟩ := HR.out k (encLeg l[k]) (by simp [hlt])
      replace hqe := fun j v hv => (Hbl.out.cell (p := ⟨be, oe + k * 2 + j, none⟩) hbe).trans (hqe j v hv)
      have e0 := hqe 0 _ rfl
      have e1 := hqe 1 _ rfl
      simp only [Nat.add_zero] at e0
      clear hqe
      have HD := Lib.hid (drop_cons' hlt)
      cases hq : (l[k].inst == id)
      · have HN := Lib.hid (show getF id (l[k] :: l.drop (k + 1)) = getF id (l.drop (k + 1)) from by rw [getF, if_neg (by simpa using hq)])
        go_wp2_with fail
        go_roundw
        case rel => exact ⟨k + 1, by omega, by go_num, by rw [HV.out, HD.out, HN.out], by (have hbl := Hbl.out; (repeat' (first | (with_reducible exact Below.refl _ _) | (with_reducible assumption) | (with_reducible refine Below.alloc ?_ ?_ _) | (with_reducible refine Below.setCell ?_ ?_ _) | (with_reducible refine Below.drew ?_) | (with_reducible refine below_drewN ?_ _) | (with_reducible refine below_via ?_ (by with_reducible assumption) ?_) | omega | (simp; done) | (simp; omega))))⟩
        case measure => simp [intOf]; omega
      · have HN := Lib.hid (show getF id (l[k] :: l.drop (k + 1)) = l[k].qty from by rw [getF, if_pos (by simpa using hq)])
        go_wp2_with fail
        go_ret
        exact ⟨by rw [HV.out, HD.out, HN.out]; first | done | rfl, by (have hbl := Hbl.out; (repeat' (first | (with_reducible exact Below.refl _ _) | (with_reducible assumption) | (with_reducible refine Below.alloc ?_ ?_ _) | (with_reducible refine Below.setCell ?_ ?_ _) | (with_reducible refine Below.drew ?_) | (with_reducible refine below_drewN ?_ _) | (with_reducible refine below_via ?_ (by with_reducible assumption) ?_) | omega | (simp; done) | (simp; omega))))⟩
    · have HD := Lib.hid (drop_all (l := l) (k := k) (by omega))
      go_wp2_with fail
      go_ret
      exact ⟨by rw [HV.out, HD.out]; rfl, Hbl.out⟩
theorem isF_bad {a : Int} {x : Leg} {l : List Leg} (h : ¬ a < x.inst ∨ 8 < x.inst ∨ (x.qty == 0) = true) : isF a (x :: l) = false := by
  rcases h with h | h | h
  · exact isF_no (by omega)
  · exact isF_no (by omega)
  · exact isF_no0 h
set_option maxRecDepth 100000 in
set_option maxHeartbeats 4000000 in
theorem refIs11 (l : List Leg) (A : Option Addr) (c : Nat) (w : World) (hl : l.length ≤ 1099511627776) (hr : Rd w A 2 (l.map encLeg)) :
    Calls Try.prog 76 #[.slice A l.length c] w fun e w' => e = .returned (.bool (isV l)) ∧ Below w.heap.size w w' := by
  have HR := Lib.hid hr
  clear hr
  go_enter Try.func76, Try.ntmps76
  go_wp2_with fail
  go_loopw [3] (fun i wr => ∃ (k : Nat) (x : Int), k ≤ l.length ∧ i = .int .i64 k ∧ isV l = isF x (l.drop k) ∧ Below w.heap.size w wr ∧ (k = 0 ∧ x = 0 ∨ 0 < k ∧ x = (l.getD (k - 1) ⟨0, 0⟩).inst ∧ 1 ≤ x)) (fun i _ => l.length - (intOf i).toNat)
  case atStart => exact ⟨0, 0, Nat.zero_le _, rfl, rfl, Below.refl _ _, .inl ⟨rfl, rfl⟩⟩
  case round =>
    obtain ⟨k, x, hk, rfl, hv, hbl, hx⟩ := hrel
    have Hbl := Lib.hid hbl
    have HV := Lib.hid hv
    have hz := hbl.size
    clear hbl hv
    by_cases hlt : k < l.length
    · obtain ⟨be, oe, rfl, hbe, hqe⟩ := HR.out k (encLeg l[k]) (by simp [hlt])
      replace hqe := fun j v hv => (Hbl.out.cell (p := ⟨be, oe + k * 2 + j, none⟩) hbe).trans (hqe j v hv)
      have e0 := hqe 0 _ rfl
      have e1 := hqe 1 _ rfl
      simp only [Nat.add_zero] at e0
      clear hqe
      have HD := Lib.hid (drop_cons' hlt)
      have WK := Lib.hid (show IntKind.i64.wrap ((k : Int) - 1) = (k : Int) - 1 from IntWalk.i64_in _ (by omega))
      have TK := Lib.hid (show ((k : Int) - 1).toNat = k - 1 from by omega)
      rcases hx with ⟨k0, hx⟩ | ⟨k0, hx, x1⟩
      · have g0 : decide (0 < k) = false := by simp; omega
        have K0 := Lib.hid k0
        have X0 := Lib.hid hx
        have x0 : 0 ≤ x ∧ x ≤ 0 := by omega
        clear k0 hx
        by_cases t0 : l[k].inst < 1
        · have d0 := decide_eq_true t0
          have HN := Lib.hid (isF_bad (a := x) (x := l[k]) (l := l.drop (k + 1)) (by first | (left; omega) | (right; left; omega) | (right; right; assumption)))
          have wk := WK.out
          have tk := TK.out
          go_wp2_with fail
          go_quiet (fail)
          clear wk tk
          go_wp2_with fail
          go_ret
          exact ⟨by rw [HV.out, HD.out, HN.out]; first | done | rfl, by (have hbl := Hbl.out; (repeat' (first | (with_reducible exact Below.refl _ _) | (with_reducible assumption) | (with_reducible refine Below.alloc ?_ ?_ _) | (with_reducible refine Below.setCell ?_ ?_ _) | (with_reducible refine Below.drew ?_) | (with_reducible refine below_drewN ?_ _) | (with_reducible refine below_via ?_ (by with_reducible assumption) ?_) | omega | (simp; done) | (simp; omega))))⟩
        have d0 := decide_eq_false t0
        by_cases t1 : 8 < l[k].inst
        · have d1 := decide_eq_true t1
          have HN := Lib.hid (isF_bad (a := x) (x := l[k]) (l := l.drop (k + 1)) (by first | (left; omega) | (right; left; omega) | (right; right; assumption)))
          have wk := WK.out
          have tk := TK.out
          go_wp2_with fail
          go_quiet (fail)
          clear wk tk
          go_wp2_with fail
          go_ret
          exact ⟨by rw [HV.out, HD.out, HN.out]; first | done | rfl, by (have hbl := Hbl.out; (repeat' (first | (with_reducible exact Below.refl _ _) | (with_reducible assumption) | (with_reducible refine Below.alloc ?_ ?_ _) | (with_reducible refine Below.setCell ?_ ?_ _) | (with_reducible refine Below.drew ?_) | (with_reducible refine below_drewN ?_ _) | (with_reducible refine below_via ?_ (by with_reducible assumption) ?_) | omega | (simp; done) | (simp; omega))))⟩
        have d1 := decide_eq_false t1
        cases t2 : (l[k].qty == 0)
        rotate_left
        · have HN := Lib.hid (isF_bad (a := x) (x := l[k]) (l := l.drop (k + 1)) (by first | (left; omega) | (right; left; omega) | (right; right; assumption)))
          have wk := WK.out
          have tk := TK.out
          go_wp2_with fail
          go_quiet (fail)
          clear wk tk
          go_wp2_with fail
          go_ret
          exact ⟨by rw [HV.out, HD.out, HN.out]; first | done | rfl, by (have hbl := Hbl.out; (repeat' (first | (with_reducible exact Below.refl _ _) | (with_reducible assumption) | (with_reducible refine Below.alloc ?_ ?_ _) | (with_reducible refine Below.setCell ?_ ?_ _) | (with_reducible refine Below.drew ?_) | (with_reducible refine below_drewN ?_ _) | (with_reducible refine below_via ?_ (by with_reducible assumption) ?_) | omega | (simp; done) | (simp; omega))))⟩
        have X1 : x < l[k].inst := by omega
        have HN := Lib.hid (isF_yes (a := x) (x := l[k]) (l := l.drop (k + 1)) ⟨by omega, by omega⟩ t2)
        have wk := WK.out
        have tk := TK.out
        go_wp2_with fail
        go_quiet (fail)
        clear wk tk
        go_wp2_with fail
        go_roundw
        case rel => exact ⟨k + 1, l[k].inst, by omega, by go_num, by rw [HV.out, HD.out, HN.out], by (have hbl := Hbl.out; (repeat' (first | (with_reducible exact Below.refl _ _) | (with_reducible assumption) | (with_reducible refine Below.alloc ?_ ?_ _) | (with_reducible refine Below.setCell ?_ ?_ _) | (with_reducible refine Below.drew ?_) | (with_reducible refine below_drewN ?_ _) | (with_reducible refine below_via ?_ (by with_reducible assumption) ?_) | omega | (simp; done) | (simp; omega)))), .inr ⟨by omega, by rw [Nat.add_sub_cancel, getD_at hlt], by omega⟩⟩
        case measure => simp [intOf]; omega
      · have g0 : decide (0 < k) = true := by simpa using k0
        have g1 : (0 : Int) ≤ (k : Int) - 1 := by omega
        have hk1 : k - 1 < l.length := by omega
        rw [getD_at hk1] at hx
        obtain ⟨b1, o1, q1, hb1, hq1⟩ := HR.out (k - 1) (encLeg l[k - 1]) (by simp [hk1])
        injection q1 with q1
        injection q1 with q1 q2 _
        subst q1 q2
        have f0 := (Hbl.out.cell (p := ⟨be, oe + (k - 1) * 2 + 0, none⟩) hbe).trans (hq1 0 _ rfl)
        simp only [Nat.add_zero] at f0
        rw [← hx] at f0
        have X0 := Lib.hid hx
        clear hq1 hx
        by_cases t0 : l[k].inst < 1
        · have d0 := decide_eq_true t0
          have HN := Lib.hid (isF_bad (a := x) (x := l[k]) (l := l.drop (k + 1)) (by first | (left; omega) | (right; left; omega) | (right; right; assumption)))
          have wk := WK.out
          have tk := TK.out
          go_wp2_with fail
          go_quiet (fail)
          clear wk tk
          go_wp2_with fail
          go_ret
          exact ⟨by rw [HV.out, HD.out, HN.out]; first | done | rfl, by (have hbl := Hbl.out; (repeat' (first | (with_reducible exact Below.refl _ _) | (with_reducible assumption) | (with_reducible refine Below.alloc ?_ ?_ _) | (with_reducible refine Below.setCell ?_ ?_ _) | (with_reducible refine Below.drew ?_) | (with_reducible refine below_drewN ?_ _) | (with_reducible refine below_via ?_ (by with_reducible assumption) ?_) | omega | (simp; done) | (simp; omega))))⟩
        have d0 := decide_eq_false t0
        by_cases t1 : 8 < l[k].inst
        · have d1 := decide_eq_true t1
          have HN := Lib.hid (isF_bad (a := x) (x := l[k]) (l := l.drop (k + 1)) (by first | (left; omega) | (right; left; omega) | (right; right; assumption)))
          have wk := WK.out
          have tk := TK.out
          go_wp2_with fail
          go_quiet (fail)
          clear wk tk
          go_wp2_with fail
          go_ret
          exact ⟨by rw [HV.out, HD.out, HN.out]; first | done | rfl, by (have hbl := Hbl.out; (repeat' (first | (with_reducible exact Below.refl _ _) | (with_reducible assumption) | (with_reducible refine Below.alloc ?_ ?_ _) | (with_reducible refine Below.setCell ?_ ?_ _) | (with_reducible refine Below.drew ?_) | (with_reducible refine below_drewN ?_ _) | (with_reducible refine below_via ?_ (by with_reducible assumption) ?_) | omega | (simp; done) | (simp; omega))))⟩
        have d1 := decide_eq_false t1
        cases t2 : (l[k].qty == 0)
        rotate_left
        · have HN := Lib.hid (isF_bad (a := x) (x := l[k]) (l := l.drop (k + 1)) (by first | (left; omega) | (right; left; omega) | (right; right; assumption)))
          have wk := WK.out
          have tk := TK.out
          go_wp2_with fail
          go_quiet (fail)
          clear wk tk
          go_wp2_with fail
          go_ret
          exact ⟨by rw [HV.out, HD.out, HN.out]; first | done | rfl, by (have hbl := Hbl.out; (repeat' (first | (with_reducible exact Below.refl _ _) | (with_reducible assumption) | (with_reducible refine Below.alloc ?_ ?_ _) | (with_reducible refine Below.setCell ?_ ?_ _) | (with_reducible refine Below.drew ?_) | (with_reducible refine below_drewN ?_ _) | (with_reducible refine below_via ?_ (by with_reducible assumption) ?_) | omega | (simp; done) | (simp; omega))))⟩
        by_cases t3 : l[k].inst ≤ x
        · have d3 := decide_eq_true t3
          have HN := Lib.hid (isF_bad (a := x) (x := l[k]) (l := l.drop (k + 1)) (by first | (left; omega) | (right; left; omega) | (right; right; assumption)))
          have wk := WK.out
          have tk := TK.out
          go_wp2_with fail
          go_quiet (fail)
          clear wk tk
          go_wp2_with fail
          go_ret
          exact ⟨by rw [HV.out, HD.out, HN.out]; first | done | rfl, by (have hbl := Hbl.out; (repeat' (first | (with_reducible exact Below.refl _ _) | (with_reducible assumption) | (with_reducible refine Below.alloc ?_ ?_ _) | (with_reducible refine Below.setCell ?_ ?_ _) | (with_reducible refine Below.drew ?_) | (with_reducible refine below_drewN ?_ _) | (with_reducible refine below_via ?_ (by with_reducible assumption) ?_) | omega | (simp; done) | (simp; omega))))⟩
        have d3 := decide_eq_false t3
        have HN := Lib.hid (isF_yes (a := x) (x := l[k]) (l := l.drop (k + 1)) ⟨by omega, by omega⟩ t2)
        have wk := WK.out
        have tk := TK.out
        go_wp2_with fail
        go_quiet (fail)
        clear wk tk
        go_wp2_with fail
        go_roundw
        case rel => exact ⟨k + 1, l[k].inst, by omega, by go_num, by rw [HV.out, HD.out, HN.out], by (have hbl := Hbl.out; (repeat' (first | (with_reducible exact Below.refl _ _) | (with_reducible assumption) | (with_reducible refine Below.alloc ?_ ?_ _) | (with_reducible refine Below.setCell ?_ ?_ _) | (with_reducible refine Below.drew ?_) | (with_reducible refine below_drewN ?_ _) | (with_reducible refine below_via ?_ (by with_reducible assumption) ?_) | omega | (simp; done) | (simp; omega)))), .inr ⟨by omega, by rw [Nat.add_sub_cancel, getD_at hlt], by omega⟩⟩
        case measure => simp [intOf]; omega
    · have HD := Lib.hid (drop_all (l := l) (k := k) (by omega))
      go_wp2_with fail
      go_ret
      exact ⟨by rw [HV.out, HD.out]; rfl, Hbl.out⟩
end Go.Proofs.Ytiidplinmempcaa

/- Contracts of vec.none, ContainsFunc of it, vec.Same. -/
namespace Go.Proofs.Ytiidplinmempcaa
open Go.RowKit
set_option maxRecDepth 100000 in
set_option maxHeartbeats 1000000 in
theorem vecNone (l : List Leg) (A : Option Addr) (c : Nat) (w : World) (hl : l.length ≤ 1099511627776) (hr : Rd w A 2 (l.map encLeg)) :
    Calls Try.prog 138 #[.slice A l.length c] w fun e w' => e = .returned (.bool (!isV l)) ∧ Below w.heap.size w w' := by
  have HR := Lib.hid hr
  clear hr
  go_enter Try.func138, Try.ntmps138
  go_wp2_with (go_at_call 71; (with_reducible refine (vecIs l A c _ hl HR.out).mono ?_); rintro e w1 ⟨rfl, hb1⟩; obtain ⟨fc1, fg1, hc1, hf1, hz1⟩ := bget hb1; try simp at hz1)
  go_ret
  exact ⟨rfl, by (repeat' (first | (with_reducible exact Below.refl _ _) | (with_reducible assumption) | (with_reducible refine Below.alloc ?_ ?_ _) | (with_reducible refine Below.setCell ?_ ?_ _) | (with_reducible refine Below.drew ?_) | (with_reducible refine below_drewN ?_ _) | (with_reducible refine below_via ?_ (by with_reducible assumption) ?_) | omega | (simp; done) | (simp; omega)))⟩
def Short (ls : List (List Leg)) : Prop := ls.length ≤ 1099511627776 ∧ ∀ l ∈ ls, l.length ≤ 1099511627776
theorem Short.pt {ls : List (List Leg)} (h : Short ls) {i : Nat} (hi : i < ls.length) : ls[i].length ≤ 1099511627776 := h.2 _ (List.getElem_mem hi)
set_option maxRecDepth 100000 in
set_option maxHeartbeats 1000000 in
theorem vecIndex (ls : List (List Leg)) (A : Option Addr) (c : Nat) (w : World) (hl : Short ls) (hr : RsS 2 encLeg w ls A c) :
    Calls Try.prog 168 #[.slice A ls.length c, .func (Fn.func 138) #[] #[]] w fun e w' => e = .returned (.int .i64 (idxOf (fun l => !isV l) ls)) ∧ Below w.heap.size w w' := by
  have HR := Lib.hid hr
  have HL := Lib.hid hl
  have hl1 := hl.1
  clear hr hl
  go_enter Try.func168, Try.ntmps168
  go_wp2_with fail
  go_loopw [8] (fun i wr => ∃ k : Nat, k ≤ ls.length ∧ i = .int .i64 k ∧ Below w.heap.size w wr ∧ ∀ j (_ : j < ls.length), j < k → (!isV ls[j]) = false) (fun i _ => ls.length - (intOf i).toNat)
  case atStart => exact ⟨0, Nat.zero_le _, rfl, Below.refl _ _, fun j _ h => absurd h (by omega)⟩
  case round =>
    obtain ⟨k, hk, rfl, hbl, hno⟩ := hrel
    have Hbl := Lib.hid hbl
    have Hno := Lib.hid hno
    have hz := hbl.size
    clear hbl hno
    by_cases hlt : k < ls.length
    · obtain ⟨b, o, B, d, rfl, hb, hq, hrk⟩ := HR.out.row hlt
      have e0 := (Hbl.out.cell (p := ⟨b, o + k, none⟩) hb).trans hq
      have HK := Lib.hid (hrk.keep Hbl.out)
      have HKL := HL.out.pt hlt
      clear hq hrk
      cases hm : (!isV ls[k])
      · have Hm := Lib.hid hm
        clear hm
        go_wp2_with (go_at_call 138; (with_reducible refine (vecNone ls[k] B d _ HKL HK.out.rd).mono ?_); rw [Hm.out]; rintro e w1 ⟨rfl, hb1⟩; have hz1 := hb1.size; have Hb1 := Lib.hid hb1; clear hb1)
        go_roundw
        case rel => exact ⟨k + 1, by omega, by go_num, Hbl.out.trans (Hb1.out.mono hz), fun j hj h => by
          rcases Nat.lt_or_ge j k with h1 | h1
          · exact Hno.out j hj h1
          · obtain rfl : j = k := by omega
            exact Hm.out⟩
        case measure => simp [intOf]; omega
      · have hi := idx_hit (p := fun l => !isV l) hlt hm Hno.out
        have Hi := Lib.hid hi
        have Hm := Lib.hid hm
        clear hm hi
        go_wp2_with (go_at_call 138; (with_reducible refine (vecNone ls[k] B d _ HKL HK.out.rd).mono ?_); rw [Hm.out]; rintro e w1 ⟨rfl, hb1⟩; have hz1 := hb1.size; have Hb1 := Lib.hid hb1; clear hb1)
        go_ret
        exact ⟨by rw [Hi.out]; rfl, Hbl.out.trans (Hb1.out.mono hz)⟩
    · have hi := idx_miss (p := fun l => !isV l) (l := ls) (fun j hj => Hno.out j hj (by omega))
      have Hi := Lib.hid hi
      clear hi
      go_wp2_with fail
      go_ret
      exact ⟨by rw [Hi.out]; rfl, Hbl.out⟩
def allV (ls : List (List Leg)) : Bool := ls.all isV
theorem idx_none (ls : List (List Leg)) : decide (0 ≤ idxOf (fun l => !isV l) ls) = !allV ls := by
  unfold idxOf allV
  cases h : ls.findIdx? (fun l => !isV l) with
  | none =>
    rw [List.findIdx?_eq_none_iff] at h
    have : ls.all isV = true := by rw [List.all_eq_true]; intro x hx; simpa using h x hx
    simp [this]
  | some k =>
    rw [List.findIdx?_eq_some_iff_getElem] at h
    obtain ⟨hk, h1, _⟩ := h
    have : ls.all isV = false := by
      rw [List.all_eq_false]; exact ⟨_, List.getElem_mem hk, by simpa using h1⟩
    simp [this]
set_option maxRecDepth 100000 in
set_option maxHeartbeats 1000000 in
theorem vecContains (ls : List (List Leg)) (A : Option Addr) (c : Nat) (w : World) (hl : Short ls) (hr : RsS 2 encLeg w ls A c) :
    Calls Try.prog 137 #[.slice A ls.length c, .func (Fn.func 138) #[] #[]] w fun e w' => e = .returned (.bool (!allV ls)) ∧ Below w.heap.size w w' := by
  have HR := Lib.hid hr
  have HL := Lib.hid hl
  have HI := Lib.hid (idx_none ls)
  clear hr hl
  go_enter Try.func137, Try.ntmps137
  go_wp2_with (go_at_call 168; (with_reducible refine (vecIndex ls A c _ HL.out HR.out).mono ?_); rintro e w1 ⟨rfl, hb1⟩; obtain ⟨fc1, fg1, hc1, hf1, hz1⟩ := bget hb1; try simp at hz1)
  go_ret
  exact ⟨by rw [← HI.out]; rfl, by (repeat' (first | (with_reducible exact Below.refl _ _) | (with_reducible assumption) | (with_reducible refine Below.alloc ?_ ?_ _) | (with_reducible refine Below.setCell ?_ ?_ _) | (with_reducible refine Below.drew ?_) | (with_reducible refine below_drewN ?_ _) | (with_reducible refine below_via ?_ (by with_reducible assumption) ?_) | omega | (simp; done) | (simp; omega)))⟩
end Go.Proofs.Ytiidplinmempcaa

/- Contract of vec.Add. -/
namespace Go.Proofs.Ytiidplinmempcaa
open Go.RowKit
def sumG (ls : List (List Leg)) (i : Int) : Int := (ls.map (getF i)).sum
/-- The legs of the instruments 1 .. n by these numbers. -/
def sumsL (f : Int → Int) : Nat → List Leg
  | 0 => []
  | n + 1 => sumsL f n ++ (if f ((n : Int) + 1) = 0 then [] else [⟨(n : Int) + 1, f ((n : Int) + 1)⟩])
def fitN (f : Int → Int) : Nat → Bool
  | 0 => true
  | n + 1 => fitN f n && in64 (f ((n : Int) + 1))
def vecC (f : Int → Int) : Int := if fitN f 8 then 0 else 7
def vecL (f : Int → Int) : List Leg := if fitN f 8 then sumsL f 8 else []
def addC (ls : List (List Leg)) : Int := if allV ls then vecC (sumG ls) else 3
def addL (ls : List (List Leg)) : List Leg := if allV ls then vecL (sumG ls) else []
theorem fit_mono {f : Int → Int} {n m : Nat} (h : n ≤ m) (hm : fitN f m = true) : fitN f n = true := by
  induction m with
  | zero => obtain rfl : n = 0 := by omega
            rfl
  | succ m ih =>
    rcases Nat.lt_or_ge n (m + 1) with h1 | h1
    · simp only [fitN, Bool.and_eq_true] at hm; exact ih (by omega) hm.1
    · obtain rfl : n = m + 1 := by omega
      exact hm
theorem fit_no {f : Int → Int} {n : Nat} (hn : n < 8) (h : in64 (f ((n : Int) + 1)) = false) : fitN f 8 = false := by
  cases h8 : fitN f 8 with
  | false => rfl
  | true =>
    have := fit_mono (show n + 1 ≤ 8 from hn) h8
    simp [fitN, h] at this
theorem sumsL_len (f : Int → Int) : ∀ n, (sumsL f n).length ≤ n
  | 0 => by simp [sumsL]
  | n + 1 => by
    have := sumsL_len f n
    simp only [sumsL, List.length_append]
    split <;> simp <;> omega
def LegsPost (w : World) (c : Int) (l : List Leg) (e : Ending) (w' : World) : Prop :=
  ∃ v, e = .returned (.tuple #[v, .int .i64 c]) ∧ Own w' w.heap.size 116 2 v (l.map encLeg) ∧ Below w.heap.size w w'
/-- Legs whose numbers are of 64 bits. -/
def Legs64 (l : List Leg) : Prop := ∀ x ∈ l, In64 x.qty
theorem get64 {l : List Leg} {i : Int} (h : Legs64 l) : In64 (getF i l) := by
  induction l with
  | nil => simp [getF, In64]
  | cons x l ih =>
    simp only [getF]
    split
    · exact h x (by simp)
    · exact ih fun y hy => h y (by simp [hy])
theorem elI : Elem Try.prog 110 2 1 8 := elem_of Try.underlying110 (z := .int .i64 0) (by kernel_rfl) rfl (by omega)
theorem rowsI (l : List Int) : ∀ r ∈ l.map encI, r.length = 1 ∧ ∀ u ∈ r, u.oneCell' = true := by
  intro r hr
  obtain ⟨m, _, rfl⟩ := List.mem_map.1 hr
  exact ⟨rfl, by simp [encI]; rfl⟩
set_option maxRecDepth 100000 in
set_option maxHeartbeats 4000000 in
theorem vecAdd (ls : List (List Leg)) (A : Option Addr) (c : Nat) (w : World) (hl : Short ls) (h64 : ∀ l ∈ ls, Legs64 l) (hr : RsS 2 encLeg w ls A c) :
    Calls Try.prog 96 #[.slice A ls.length c] w (LegsPost w (addC ls) (addL ls)) := by
  have HR := Lib.hid hr
  have HL := Lib.hid hl
  have H64 := Lib.hid h64
  have hl1 := hl.1
  clear hr hl h64
  cases ha : allV ls
  · have HC := Lib.hid (show addC ls = 3 from by unfold addC; rw [ha]; rfl)
    have HA := Lib.hid (show addL ls = [] from by unfold addL; rw [ha]; rfl)
    have C1 := Lib.hid (fun W h => ha ▸ vecContains ls A c W HL.out h)
    clear ha
    go_enter Try.func96, Try.ntmps96
    go_wp2_with (go_at_call 137; (with_reducible refine (C1.out _ HR.out).mono ?_); rintro e w1 ⟨rfl, hb1⟩; obtain ⟨fc1, fg1, hc1, hf1, hz1⟩ := bget hb1; try simp at hz1)
    go_ret2
    exact ⟨_, by rw [HC.out]; rfl, by rw [HA.out]; exact Own.nil _ _ _ _, by (repeat' (first | (with_reducible exact Below.refl _ _) | (with_reducible assumption) | (with_reducible refine Below.alloc ?_ ?_ _) | (with_reducible refine Below.setCell ?_ ?_ _) | (with_reducible refine Below.drew ?_) | (with_reducible refine below_drewN ?_ _) | (with_reducible refine below_via ?_ (by with_reducible assumption) ?_) | omega | (simp; done) | (simp; omega)))⟩
  have HC := Lib.hid (show addC ls = vecC (sumG ls) from by unfold addC; rw [ha]; rfl)
  have HA := Lib.hid (show addL ls = vecL (sumG ls) from by unfold addL; rw [ha]; rfl)
  have C1 := Lib.hid (fun W h => ha ▸ vecContains ls A c W HL.out h)
  clear ha
  go_enter Try.func96, Try.ntmps96
  go_wp2_with (go_at_call 137; (with_reducible refine (C1.out _ HR.out).mono ?_); rintro e w1 ⟨rfl, hb1⟩; obtain ⟨fc1, fg1, hc1, hf1, hz1⟩ := bget hb1; try simp at hz1)
  have Hb1 := Lib.hid hb1
  clear hc1 hf1 hb1
  go_loopw [4, 5] (fun v i wr => ∃ j : Nat, j ≤ 8 ∧ i = .int .i64 ((j : Int) + 1) ∧ fitN (sumG ls) j = true ∧ Own wr w.heap.size 116 2 v ((sumsL (sumG ls) j).map encLeg) ∧ Below w.heap.size w wr) (fun _ i _ => 9 - (intOf i).toNat)
  case atStart => exact ⟨0, Nat.zero_le _, rfl, rfl, Own.nil _ _ _ _, Hb1.out⟩
  case round =>
    obtain ⟨j, hj, rfl, hfit, hown, hbl⟩ := hrel
    have Hfit := Lib.hid hfit
    have Hown := Lib.hid hown
    have Hbl := Lib.hid hbl
    have hz := hbl.size
    have hsl := sumsL_len (sumG ls) j
    clear hfit hown hbl
    by_cases h8 : j < 8
    · have d8 : decide ((j : Int) + 1 ≤ 8) = true := by simp; omega
      obtain ⟨wo, hwo⟩ : ∃ wo : World, wo = wr := ⟨_, rfl⟩
      subst hwo
      go_wp2_with fail
      go_loopw [6, 19] (fun v i wr => ∃ k : Nat, k ≤ ls.length ∧ i = .int .i64 k ∧ Own wr wo.heap.size 2 1 v (((ls.map (getF ((j : Int) + 1))).take k).map encI) ∧ Below wo.heap.size wo wr) (fun _ i _ => ls.length - (intOf i).toNat)
      case atStart => exact ⟨0, Nat.zero_le _, rfl, Own.nil _ _ _ _, Below.refl _ _⟩
      case round =>
        obtain ⟨k, hk, rfl, hown2, hbl2⟩ := hrel
        have Hown2 := Lib.hid hown2
        have Hbl2 := Lib.hid hbl2
        have hz2 := hbl2.size
        clear hown2 hbl2
        by_cases hlt : k < ls.length
        · obtain ⟨b, o, B, d, rfl, hb, hq, hrk⟩ := HR.out.row hlt
          have hball := Hbl.out.trans (Hbl2.out.mono hz)
          have e0 := (hball.cell (p := ⟨b, o + k, none⟩) hb).trans hq
          have HK := Lib.hid (hrk.keep hball)
          have HKL := HL.out.pt hlt
          have HS : Hid (((ls.map (getF ((j : Int) + 1))).take (k + 1)).map encI = ((ls.map (getF ((j : Int) + 1))).take k).map encI ++ [encI (getF ((j : Int) + 1) ls[k])]) := by
            unfold Hid; rw [map_snoc (by simpa using hlt)]; simp
          have hlen : (((ls.map (getF ((j : Int) + 1))).take k).map encI).length ≤ k := by simp; omega
          clear hq hrk hball
          obtain ⟨g, hg⟩ : ∃ g, g = getF ((j : Int) + 1) ls[k] := ⟨_, rfl⟩
          have c3 := fun W (h : Rd W B 2 (ls[k].map encLeg)) => vecGet ls[k] ((j : Int) + 1) B d W HKL h
          rw [← hg] at HS c3
          have C3 := Lib.hid c3
          clear hg c3
          go_wp2_with (first | (go_at_call 104; (with_reducible refine (C3.out _ HK.out.rd).mono ?_); rintro e w3 ⟨rfl, hb3⟩; have hz3 := hb3.size; have Hb3 := Lib.hid hb3; clear hb3) | (at_builtin; refine wpList_app rfl _ _ _ rfl elI wo.heap.size _ _ rfl ((Hown2.out.keep Hb3.out).alloc _) (some ⟨w3.heap.size, 0, none⟩) 1 1 rfl [encI g] rfl (fun h => by cases h) rd_one (rowsI [g]) (by unfold maxLen; omega) (by omega) (by simp; omega) ?_; intro v' w4 hown4 hb4))
          go_roundw
          case rel => exact ⟨k + 1, by omega, by go_num, by rw [HS.out]; exact hown4, ((Hbl2.out.trans (Hb3.out.mono hz2)).alloc (by omega) _).trans hb4⟩
          case measure => simp [intOf]; omega
        · obtain rfl : k = ls.length := by omega
          have ho := Hown2.out
          rw [List.take_of_length_le (by simp)] at ho
          obtain ⟨A', c', rfl, _, _, hr', _⟩ := ho.shape
          obtain ⟨is, his⟩ : ∃ is, is = ls.map (getF ((j : Int) + 1)) := ⟨_, rfl⟩
          have hisl : is.length = ls.length := by rw [his, List.length_map]
          have hsum : is.sum = sumG ls ((j : Int) + 1) := by rw [his]; rfl
          have hi64 : ∀ n ∈ is, In64 n := by
            rw [his]; intro n hn; obtain ⟨l, h1, rfl⟩ := List.mem_map.1 hn; exact get64 (H64.out l h1)
          rw [← his] at hr'
          have Hr' := Lib.hid hr'
          have I64 := Lib.hid hi64
          have lis : is.length ≤ 1099511627776 := by omega
          rw [← his]
          have HSM := Lib.hid hsum
          clear hr' ho his hi64 hisl hsum
          simp only [List.length_map]
          cases h64 : in64 is.sum
          · have N64 := Lib.hid (in64_no h64)
            have HF := Lib.hid (fit_no (f := sumG ls) h8 (by rw [← HSM.out]; exact h64))
            clear h64
            go_wp2_with (go_at_call 139; (with_reducible refine (fixSumNo is A' c' _ lis I64.out Hr'.out N64.out).mono ?_); rintro e w5 ⟨rfl, hb5⟩; have Hb5 := Lib.hid hb5; clear hb5)
            go_ret2
            exact ⟨_, by rw [HC.out, vecC, HF.out]; rfl, by rw [HA.out, vecL, HF.out]; exact Own.nil _ _ _ _, Hbl.out.trans ((Hbl2.out.mono hz).trans (Hb5.out.mono (by omega)))⟩
          · have N64 := Lib.hid (in64_iff.1 h64)
            have HF := Lib.hid (show fitN (sumG ls) (j + 1) = true from by rw [fitN, Hfit.out, ← HSM.out, h64]; rfl)
            clear h64
            obtain ⟨n, hn⟩ : ∃ n, n = is.sum := ⟨_, rfl⟩
            have c5 := fun W h => fixSumYes is A' c' W lis I64.out h N64.out
            rw [← hn] at HSM c5
            have C5 := Lib.hid c5
            clear c5 hn
            cases hq : (n == 0)
            · have hne : sumsL (sumG ls) (j + 1) = sumsL (sumG ls) j ++ [⟨(j : Int) + 1, n⟩] := by
                rw [sumsL, ← HSM.out, if_neg (by simpa using hq)]
              have HNE := Lib.hid hne
              clear hne
              go_wp2_with (first | (go_at_call 139; (with_reducible refine (C5.out _ Hr'.out).mono ?_); rintro e w5 ⟨rfl, hb5⟩; have hz5 := hb5.size; have Hb5 := Lib.hid hb5; clear hb5) | (at_builtin; refine wpList_app rfl _ _ _ rfl elLeg w.heap.size _ _ rfl (((Hown.out.keep Hbl2.out).keep Hb5.out).alloc _) (some ⟨w5.heap.size, 0, none⟩) 1 1 rfl [encLeg ⟨(j : Int) + 1, n⟩] rfl (fun h => by cases h) rd_one (rowsLeg [⟨(j : Int) + 1, n⟩]) (by unfold maxLen; simp; omega) (by simp; omega) (by simp; omega) ?_; intro v' w6 hown6 hb6))
              go_roundw
              case rel => exact ⟨j + 1, by omega, by go_num, HF.out, by rw [HNE.out, List.map_append]; exact hown6, ((Hbl.out.trans ((Hbl2.out.mono hz).trans (Hb5.out.mono (by omega)))).alloc (by omega) _).trans hb6⟩
              case measure => simp [intOf]; omega
            · have hne : sumsL (sumG ls) (j + 1) = sumsL (sumG ls) j := by
                rw [sumsL, ← HSM.out, if_pos (by simpa using hq), List.append_nil]
              have HNE := Lib.hid hne
              clear hne
              go_wp2_with (go_at_call 139; (with_reducible refine (C5.out _ Hr'.out).mono ?_); rintro e w5 ⟨rfl, hb5⟩; have hz5 := hb5.size; have Hb5 := Lib.hid hb5; clear hb5)
              go_roundw
              case rel => exact ⟨j + 1, by omega, by go_num, HF.out, by rw [HNE.out]; exact (Hown.out.keep Hbl2.out).keep Hb5.out, Hbl.out.trans ((Hbl2.out.mono hz).trans (Hb5.out.mono (by omega)))⟩
              case measure => simp [intOf]; omega
    · obtain rfl : j = 8 := by omega
      go_wp2_with fail
      go_ret2
      exact ⟨_, by rw [HC.out, vecC, Hfit.out]; rfl, by rw [HA.out, vecL, Hfit.out]; exact Hown.out, Hbl.out⟩
end Go.Proofs.Ytiidplinmempcaa

/- Contracts of vec.Neg, Gross, With, Same. -/
namespace Go.Proofs.Ytiidplinmempcaa
open Go.RowKit
/-- The legs on the other side, or that one leaves 64 bits. -/
def negC (l : List Leg) : Int := if isV l then (if l.all (fun x => in64 (0 - x.qty)) then 0 else 7) else 3
def negR (l : List Leg) : List Leg := l.map fun x => ⟨x.inst, 0 - x.qty⟩
def negL (l : List Leg) : List Leg := if isV l then (if l.all (fun x => in64 (0 - x.qty)) then negR l else []) else []
set_option maxRecDepth 100000 in
set_option maxHeartbeats 4000000 in
theorem vecNeg (l : List Leg) (A : Option Addr) (c : Nat) (w : World) (hl : l.length ≤ 1099511627776) (h64 : Legs64 l) (hr : Rd w A 2 (l.map encLeg)) :
    Calls Try.prog 101 #[.slice A l.length c] w (LegsPost w (negC l) (negL l)) := by
  have HR := Lib.hid hr
  have H64 := Lib.hid h64
  have c1 := fun W (h : Rd W A 2 (l.map encLeg)) => vecNone l A c W hl h
  clear hr h64
  cases hv : isV l
  · rw [hv] at c1
    have HC := Lib.hid (show negC l = 3 from by unfold negC; rw [hv]; rfl)
    have HA := Lib.hid (show negL l = [] from by unfold negL; rw [hv]; rfl)
    have C1 := Lib.hid c1
    clear c1 hv
    go_enter Try.func101, Try.ntmps101
    go_wp2_with (go_at_call 138; (with_reducible refine (C1.out _ HR.out).mono ?_); rintro e w1 ⟨rfl, hb1⟩; obtain ⟨fc1, fg1, hc1, hf1, hz1⟩ := bget hb1; try simp at hz1)
    go_ret2
    exact ⟨_, by rw [HC.out]; rfl, by rw [HA.out]; exact Own.nil _ _ _ _, by (repeat' (first | (with_reducible exact Below.refl _ _) | (with_reducible assumption) | (with_reducible refine Below.alloc ?_ ?_ _) | (with_reducible refine Below.setCell ?_ ?_ _) | (with_reducible refine Below.drew ?_) | (with_reducible refine below_drewN ?_ _) | (with_reducible refine below_via ?_ (by with_reducible assumption) ?_) | omega | (simp; done) | (simp; omega)))⟩
  rw [hv] at c1
  have HC := Lib.hid (show negC l = if l.all (fun x => in64 (0 - x.qty)) then 0 else 7 from by unfold negC; rw [hv]; rfl)
  have HA := Lib.hid (show negL l = if l.all (fun x => in64 (0 - x.qty)) then negR l else [] from by unfold negL; rw [hv]; rfl)
  have C1 := Lib.hid c1
  clear c1 hv
  go_enter Try.func101, Try.ntmps101
  go_wp2_with (go_at_call 138; (with_reducible refine (C1.out _ HR.out).mono ?_); rintro e w1 ⟨rfl, hb1⟩; obtain ⟨fc1, fg1, hc1, hf1, hz1⟩ := bget hb1; try simp at hz1)
  have Hb1 := Lib.hid hb1
  clear hc1 hf1 hb1
  go_loopw [4, 13] (fun v i wr => ∃ k : Nat, k ≤ l.length ∧ i = .int .i64 k ∧ l.all (fun x => in64 (0 - x.qty)) = (l.drop k).all (fun x => in64 (0 - x.qty)) ∧ Own wr w.heap.size 116 2 v ((negR (l.take k)).map encLeg) ∧ Below w.heap.size w wr) (fun _ i _ => l.length - (intOf i).toNat)
  case atStart => exact ⟨0, Nat.zero_le _, rfl, rfl, Own.nil _ _ _ _, Hb1.out⟩
  case round =>
    obtain ⟨k, hk, rfl, hv, hown, hbl⟩ := hrel
    have Hown := Lib.hid hown
    clear hown
    have Hbl := Lib.hid hbl
    have HV := Lib.hid hv
    have hz := hbl.size
    clear hbl hv
    by_cases hlt : k < l.length
    · obtain ⟨be, oe, rfl, hbe, hqe⟩ := HR.out k (encLeg l[k]) (by simp [hlt])
      replace hqe := fun j v hv => (Hbl.out.cell (p := ⟨be, oe + k * 2 + j, none⟩) hbe).trans (hqe j v hv)
      have e0 := hqe 0 _ rfl
      have e1 := hqe 1 _ rfl
      simp only [Nat.add_zero] at e0
      clear hqe
      have HD := Lib.hid (drop_cons' hlt)
      have hq := H64.out l[k] (List.getElem_mem hlt)
      have HS : Hid ((negR (l.take (k + 1))).map encLeg = (negR (l.take k)).map encLeg ++ [encLeg ⟨l[k].inst, 0 - l[k].qty⟩]) := by
        unfold Hid negR; rw [map_snoc hlt]; simp
      have hlen : ((negR (l.take k)).map encLeg).length ≤ k := by unfold negR; simp; omega
      have hz64 : In64 0 := by unfold In64; omega
      cases hm : in64 (0 - l[k].qty)
      · have HM := Lib.hid (in64_no hm)
        have HN : Hid ((l[k] :: l.drop (k + 1)).all (fun x => in64 (0 - x.qty)) = false) := by unfold Hid; simp only [List.all_cons]; rw [hm]; rfl
        clear hm
        go_wp2_with (go_at_call 142; (with_reducible refine (fixSubNo 0 l[k].qty _ hz64 hq HM.out).mono ?_); rintro e w2 ⟨rfl, hb2⟩; have hz2 := hb2.size; have Hb2 := Lib.hid hb2; clear hb2)
        go_ret2
        exact ⟨_, by rw [HC.out, HV.out, HD.out, HN.out]; rfl, by rw [HA.out, HV.out, HD.out, HN.out]; exact Own.nil _ _ _ _, by (have hbl := Hbl.out; have hb2 := Hb2.out; (repeat' (first | (with_reducible exact Below.refl _ _) | (with_reducible assumption) | (with_reducible refine Below.alloc ?_ ?_ _) | (with_reducible refine Below.setCell ?_ ?_ _) | (with_reducible refine Below.drew ?_) | (with_reducible refine below_drewN ?_ _) | (with_reducible refine below_via ?_ (by with_reducible assumption) ?_) | omega | (simp; done) | (simp; omega))))⟩
      · have HM := Lib.hid (in64_iff.1 hm)
        have HN : Hid ((l[k] :: l.drop (k + 1)).all (fun x => in64 (0 - x.qty)) = (l.drop (k + 1)).all (fun x => in64 (0 - x.qty))) := by unfold Hid; simp only [List.all_cons]; rw [hm]; rfl
        clear hm
        obtain ⟨n, hn⟩ : ∃ n, n = 0 - l[k].qty := ⟨_, rfl⟩
        have c2 := fun W => fixSubYes 0 l[k].qty W hz64 hq HM.out
        rw [← hn] at HS c2
        have C2 := Lib.hid c2
        clear hn c2
        go_wp2_with (first | (go_at_call 142; (with_reducible refine (C2.out _).mono ?_); rintro e w2 ⟨rfl, hb2⟩; obtain ⟨fc2, fg2, hc2, hf2, hz2⟩ := bget hb2; (try simp at hz2); have Hb2 := Lib.hid hb2; clear hb2) | (at_builtin; refine wpList_app rfl _ _ _ rfl elLeg w.heap.size _ _ rfl (((Hown.out.alloc _).keep Hb2.out).alloc _) (some ⟨w2.heap.size, 0, none⟩) 1 1 rfl [encLeg ⟨l[k].inst, n⟩] rfl (fun h => by cases h) rd_one (rowsLeg [⟨l[k].inst, n⟩]) (by unfold maxLen; first | (simp; done) | omega | (simp; omega)) (by first | (simp; done) | omega | (simp; omega)) (by first | omega | (simp; done) | (simp; omega)) ?_; intro v' w3 hown3 hb3))
        go_roundw
        case rel => exact ⟨k + 1, by omega, by go_num, by rw [HV.out, HD.out, HN.out], by rw [HS.out]; exact hown3, by have hbl := Hbl.out; have hb2 := Hb2.out; (repeat' (first | (with_reducible exact Below.refl _ _) | (with_reducible assumption) | (with_reducible refine Below.alloc ?_ ?_ _) | (with_reducible refine Below.setCell ?_ ?_ _) | (with_reducible refine Below.drew ?_) | (with_reducible refine below_drewN ?_ _) | (with_reducible refine below_via ?_ (by with_reducible assumption) ?_) | omega | (simp; done) | (simp; omega)))⟩
        case measure => simp [intOf]; omega
    · have HD := Lib.hid (drop_all (l := l) (k := k) (by omega))
      have HT := Lib.hid (List.take_of_length_le (show l.length ≤ k by omega))
      go_wp2_with fail
      go_ret2
      exact ⟨_, by rw [HC.out, HV.out, HD.out]; rfl, by rw [HA.out, HV.out, HD.out, ← HT.out]; exact Hown.out, Hbl.out⟩
end Go.Proofs.Ytiidplinmempcaa
