/- Joined. -/
import Derived.Test.YtalgfpegaobacaaGreatDoorQz1
namespace Go.Proofs.YtalgfpegaobacaaGreatDoor
set_option linter.all false
set_option maxHeartbeats 2000000
set_option maxRecDepth 100000
open Go.RowKit
open Lib (hid)
def pw (k : Nat) : Int := 2 ^ k
theorem pw_zero : pw 0 = 1 := rfl
theorem pw_succ (k : Nat) : pw (k + 1) = 2 * pw k := by unfold pw; rw [Int.pow_succ, Int.mul_comm]
theorem pw_pos (k : Nat) : 0 < pw k := Int.pow_pos (by omega)
theorem pw_le {j k : Nat} (h : j ≤ k) : pw j ≤ pw k := by
 induction k with
 | zero =>
  have : j = 0 := by omega
  subst this; exact Int.le_refl _
 | succ k ih =>
  rcases Nat.lt_or_ge j (k + 1) with h1 | h1
  ·have := ih (by omega); have := pw_pos k; rw [pw_succ]; omega
  ·have : j = k + 1 := by omega
   subst this; exact Int.le_refl _
theorem val_nonneg : ∀ {l : List Int}, Bit l → 0 ≤ val l
 | [], _ => Int.le_refl _
 | b :: l, h => by
  have h1 := h b (by simp)
  have h2 := val_nonneg (l := l) (fun x hx => h x (by simp [hx]))
  simp only [val]; omega
theorem val_lt : ∀ {l : List Int}, Bit l → val l < pw l.length
 | [], _ => by simp [val, pw]
 | b :: l, h => by
  have h1 := h b (by simp)
  have h2 := val_lt (l := l) (fun x hx => h x (by simp [hx]))
  simp only [val, List.length_cons, pw_succ]; omega
theorem val_append : ∀ (a b : List Int), val (a ++ b) = val a + pw a.length * val b
 | [], b => by simp [val, pw]
 | x :: a, b => by
  have := val_append a b
  simp only [List.cons_append, val, this, List.length_cons, pw_succ]
  rw [Int.mul_assoc, Int.mul_add]; omega
theorem val_snoc (a : List Int) (x : Int) : val (a ++ [x]) = val a + pw a.length * x := by rw [val_append]; simp [val]
theorem bit_snoc {a : List Int} {x : Int} (h : Bit a) (h0 : 0 ≤ x) (h1 : x ≤ 1) : Bit (a ++ [x]) := by
 intro b hb
 rcases List.mem_append.1 hb with h2 | h2
 ·exact h b h2
 ·simp at h2; subst h2; exact ⟨h0, h1⟩
theorem bit_take {a : List Int} (h : Bit a) (k : Nat) : Bit (a.take k) := fun b hb => h b (List.mem_of_mem_take hb)
theorem bit_drop {a : List Int} (h : Bit a) (k : Nat) : Bit (a.drop k) := fun b hb => h b (List.mem_of_mem_drop hb)
theorem bit_get {a : List Int} (h : Bit a) (i : Nat) : 0 ≤ a.getD i 0 ∧ a.getD i 0 ≤ 1 := by
 rcases Nat.lt_or_ge i a.length with h1 | h1
 ·rw [List.getD_eq_getElem?_getD, List.getElem?_eq_getElem h1]; exact h _ (List.getElem_mem h1)
 ·rw [List.getD_eq_getElem?_getD, List.getElem?_eq_none h1]; simp
theorem take_succD (l : List Int) (i : Nat) : val (l.take (i + 1)) = val (l.take i) + pw i * l.getD i 0 := by
 rcases Nat.lt_or_ge i l.length with h1 | h1
 ·rw [List.take_succ_eq_append_getElem h1, val_snoc, List.length_take, Nat.min_eq_left (by omega), List.getD_eq_getElem?_getD, List.getElem?_eq_getElem h1]; rfl
 ·rw [List.take_of_length_le (by omega), List.take_of_length_le h1, List.getD_eq_getElem?_getD, List.getElem?_eq_none h1]; simp
theorem top_ge {l : List Int} (h : Bit l) (ht : Top l) {k : Nat} (hl : l.length = k + 1) : pw k ≤ val l := by
 have hne : l ≠ [] := by intro e; subst e; simp at hl
 have e := List.dropLast_concat_getLast hne
 have h1 := ht (l.getLast hne) (List.getLast?_eq_some_getLast hne)
 have h2 : val l = val l.dropLast + pw l.dropLast.length * l.getLast hne := by rw [← val_snoc, e]
 rw [List.length_dropLast, hl, h1] at h2
 have h3 : 0 ≤ val l.dropLast := val_nonneg (fun b hb => h b ((List.dropLast_subset _) hb))
 simp at h2
 omega
theorem top_of_ge {l : List Int} (h : Bit l) {k : Nat} (hl : l.length = k + 1) (hv : pw k ≤ val l) : Top l := by
 intro b hb
 have hne : l ≠ [] := by intro e; subst e; simp at hl
 have e := List.dropLast_concat_getLast hne
 rw [List.getLast?_eq_some_getLast hne] at hb
 injection hb with hb
 have h1 := h b (by rw [← hb]; exact List.getLast_mem hne)
 have h2 : val l = val l.dropLast + pw l.dropLast.length * b := by rw [← hb, ← val_snoc, e]
 have h3 := val_lt (l := l.dropLast) (fun b hb => h b ((List.dropLast_subset _) hb))
 rw [List.length_dropLast, hl] at h2 h3
 simp at h2 h3
 rcases (show b = 0 ∨ b = 1 from by omega) with h0 | h0
 ·subst h0; simp at h2; omega
 ·exact h0
theorem len_le {l : List Int} (h : Bit l) (ht : Top l) {k : Nat} (hv : val l < pw k) : l.length ≤ k := by
 rcases Nat.lt_or_ge k l.length with h1 | h1
 ·obtain ⟨m, hm⟩ : ∃ m, l.length = m + 1 := ⟨l.length - 1, by omega⟩
  have h2 := top_ge h ht hm
  have h3 := pw_le (j := k) (k := m) (by omega)
  omega
 ·exact h1
theorem val_zero_top {l : List Int} (h : Bit l) (ht : Top l) (hv : val l = 0) : l = [] := by
 have := len_le h ht (k := 0) (by rw [hv]; exact pw_pos 0)
 exact List.eq_nil_of_length_eq_zero (by omega)
theorem top_pos {l : List Int} (h : Bit l) (ht : Top l) (hne : l ≠ []) : 0 < val l := by
 obtain ⟨m, hm⟩ : ∃ m, l.length = m + 1 := ⟨l.length - 1, by have := List.length_pos_iff.2 hne; omega⟩
 have := top_ge h ht hm; have := pw_pos m; omega
theorem lt_of_len {a b : List Int} (ha : Bit a) (hb : Bit b) (tb : Top b) (h : a.length < b.length) : val a < val b := by
 obtain ⟨m, hm⟩ : ∃ m, b.length = m + 1 := ⟨b.length - 1, by omega⟩
 have h1 := top_ge hb tb hm
 have h2 := val_lt ha
 have h3 := pw_le (j := a.length) (k := m) (by omega)
 omega
theorem val_split (l : List Int) (i : Nat) (h : i ≤ l.length) : val l = val (l.take i) + pw i * val (l.drop i) := by
 have := val_append (l.take i) (l.drop i)
 rw [List.take_append_drop, List.length_take, Nat.min_eq_left h] at this
 exact this
theorem cmp_at {a b : List Int} (ha : Bit a) (hb : Bit b) (hl : a.length = b.length) {i : Nat} (hi : i < a.length) (hd : a.drop (i + 1) = b.drop (i + 1)) (h : a.getD i 0 < b.getD i 0) : val a < val b := by
 rw [val_split a (i + 1) (by omega), val_split b (i + 1) (by omega), hd, take_succD, take_succD]
 have h1 := val_lt (bit_take ha i)
 have h2 := val_nonneg (bit_take hb i)
 have h3 := bit_get ha i
 have h4 := bit_get hb i
 have e1 : a.getD i 0 = 0 := by omega
 have e2 : b.getD i 0 = 1 := by omega
 have h5 : (a.take i).length = i := by rw [List.length_take]; omega
 rw [h5] at h1
 rw [e1, e2]
 have := pw_pos i
 simp
 omega
theorem digit_step (P s : Int) : P * (s % 2) + 2 * P * (s / 2) = P * s := by
 have e : s % 2 + 2 * (s / 2) = s := by omega
 calc P * (s % 2) + 2 * P * (s / 2) = P * (s % 2 + 2 * (s / 2)) := by rw [Int.mul_add, Int.mul_comm 2 P, Int.mul_assoc]
  _ = P * s := by rw [e]
theorem plus_step {l : List Int} {k : Nat} {q x y va vb va' vb' : Int} (hl : l.length = k) (hv : val l + pw k * q = va + vb) (ea : va' = va + pw k * x) (eb : vb' = vb + pw k * y) :
  val (l ++ [(q + x + y) % 2]) + pw (k + 1) * ((q + x + y) / 2) = va' + vb' := by
 rw [val_snoc, hl, pw_succ, Int.add_assoc, digit_step, ea, eb, Int.mul_add, Int.mul_add]
 omega
theorem minus_step {l : List Int} {k : Nat} {q q' x y va vb va' vb' : Int} (hl : l.length = k) (hv : val l = va - vb + pw k * q) (ea : va' = va + pw k * x) (eb : vb' = vb + pw k * y) (hq : (x + 2 - (q + y)) % 2 = x - q - y + 2 * q') :
  val (l ++ [(x + 2 - (q + y)) % 2]) = va' - vb' + pw (k + 1) * q' := by
 rw [val_snoc, hl, pw_succ, hq, ea, eb, hv, Int.mul_add, Int.mul_sub, Int.mul_sub, ← Int.mul_assoc, Int.mul_comm (pw k) 2]
 omega
theorem drop_pred {a b : List Int} {k : Nat} (h0 : 0 < k) (ha : k ≤ a.length) (hb : k ≤ b.length) (hx : a.getD (k - 1) 0 = b.getD (k - 1) 0) (hd : a.drop k = b.drop k) : a.drop (k - 1) = b.drop (k - 1) := by
 rw [List.drop_eq_getElem_cons (l := a) (i := k - 1) (by omega), List.drop_eq_getElem_cons (l := b) (i := k - 1) (by omega), show k - 1 + 1 = k from by omega, hd]
 rw [List.getD_eq_getElem?_getD, List.getD_eq_getElem?_getD, List.getElem?_eq_getElem (by omega), List.getElem?_eq_getElem (by omega)] at hx
 simp at hx
 rw [hx]
theorem elB : Elem Tryz.prog 139 5 1 1 := elem_of Tryz.underlying139 (z := .int .u8 0) (by kernel_rfl) rfl (by omega)
theorem bit_cell {w wr : World} {B : Nat} {A : Option Addr} {l : List Int} {i : Nat} (hr : Rd w A 1 (l.map encB)) (hb : Below B w wr) (hB : w.heap.size ≤ B) (hi : i < l.length) :
  ∃ b o, A = some ⟨b, o, none⟩ ∧ b < w.heap.size ∧ wr.cell? ⟨b, o + i, none⟩ = some (.int .u8 (l.getD i 0)) := by
 obtain ⟨b, o, hA, hlt, hc⟩ := hr i (encB l[i]) (by simp [hi])
 refine ⟨b, o, hA, hlt, ?_⟩
 have := (hb.cell (p := ⟨b, o + i * 1 + 0, none⟩) (by exact Nat.lt_of_lt_of_le hlt hB)).trans (hc 0 _ rfl)
 simpa [List.getD_eq_getElem?_getD, List.getElem?_eq_getElem hi] using this
def PlusPost (w : World) (la lb : List Int) (e : Ending) (w' : World) : Prop :=
 ∃ v l, e = .returned v ∧ Own w' w.heap.size 5 1 v (l.map encB) ∧ Below w.heap.size w w' ∧ Bit l ∧ val l = val la + val lb ∧ (l.length = max la.length lb.length ∨ (l.length = max la.length lb.length + 1 ∧ Top l))
theorem bigPlus (la lb : List Int) (A B : Option Addr) (c d : Nat) (w : World) (hla : la.length ≤ 1048576) (hlb : lb.length ≤ 1048576) (ha : Rd w A 1 (la.map encB)) (hb : Rd w B 1 (lb.map encB)) (ba : Bit la) (bb : Bit lb) :
  Calls Tryz.prog 123 #[.slice A la.length c, .slice B lb.length d] w (PlusPost w la lb) := by
 have Ha := hid ha
 have Hb := hid hb
 have Ba := hid ba
 have Bb := hid bb
 clear ha hb ba bb
 go_enter Tryz.func123, Tryz.ntmps123
 go_wp2_with fail
 go_loopw [5, 6, 7] (fun v cc i wr => ∃ (k : Nat) (l : List Int) (q : Int), k ≤ max la.length lb.length ∧ i = .int .i64 k ∧ cc = .int .u8 q ∧ 0 ≤ q ∧ q ≤ 1 ∧ Own wr w.heap.size 5 1 v (l.map encB) ∧ Below w.heap.size w wr ∧ l.length = k ∧ Bit l ∧ val l + pw k * q = val (la.take k) + val (lb.take k))
  (fun _ _ i _ => max la.length lb.length - (intOf i).toNat)
 case atStart => exact ⟨0, [], 0, Nat.zero_le _, rfl, rfl, by omega, by omega, Own.nil _ _ _ _, Below.refl _ _, rfl, bit_nil, by simp [val]⟩
 case round =>
  obtain ⟨k, l, q, hk, rfl, rfl, q0, q1, hown, hbl, hl, hbit, hval⟩ := hrel
  have Hown := hid hown
  have Hbl := hid hbl
  have Hl := hid hl
  have Hbit := hid hbit
  have Hval := hid hval
  have hz := hbl.size
  have ga := bit_get Ba.out k
  have gb := bit_get Bb.out k
  have ea := take_succD la k
  have eb := take_succD lb k
  have Ea := hid ea
  have Eb := hid eb
  clear hown hbl hl hbit hval ea eb
  obtain ⟨x, hx⟩ : ∃ x, x = la.getD k 0 := ⟨_, rfl⟩
  obtain ⟨y, hy⟩ : ∃ y, y = lb.getD k 0 := ⟨_, rfl⟩
  by_cases h1 : k < la.length
  ·obtain ⟨b1, o1, rfl, hb1, c1⟩ := bit_cell Ha.out Hbl.out (Nat.le_refl _) h1
   rw [← hx] at ga c1 Ea
   rw [← hy] at gb Eb
   have Hx := hid hx
   clear hx
   have d1 := @dT k la.length h1
   by_cases h2 : k < lb.length
   ·obtain ⟨b2, o2, rfl, hb2, c2⟩ := bit_cell Hb.out Hbl.out (Nat.le_refl _) h2
    rw [← hy] at c2
    have Hy := hid hy
    clear hy
    go_wp2_with (at_builtin; refine wpList_app rfl _ _ _ rfl elB w.heap.size _ _ rfl (Hown.out.alloc _) (some ⟨wr.heap.size, 0, none⟩) 1 1 rfl [encB ((q + x + y) % 2)] rfl (fun h => by cases h) rd_one (by simp [encB]; rfl) (by have := Hl.out; unfold maxLen; simp; omega) (by have := Hl.out; simp; omega) (by simp; omega) ?_; intro v' w3 hown3 hb3)
    go_roundw
    case rel => exact ⟨k + 1, l ++ [(q + x + y) % 2], (q + x + y) / 2, by omega, by go_num, rfl, by omega, by omega, by simpa using hown3, (Hbl.out.alloc hz _).trans hb3, by simp [Hl.out], bit_snoc Hbit.out (by omega) (by omega), plus_step Hl.out Hval.out Ea.out Eb.out⟩
    case measure => simp [intOf]; omega
   ·have hy0 : y = 0 := by rw [hy, List.getD_eq_getElem?_getD, List.getElem?_eq_none (by omega)]; rfl
    subst hy0
    clear hy
    go_wp2_with (at_builtin; refine wpList_app rfl _ _ _ rfl elB w.heap.size _ _ rfl (Hown.out.alloc _) (some ⟨wr.heap.size, 0, none⟩) 1 1 rfl [encB ((q + x) % 2)] rfl (fun h => by cases h) rd_one (by simp [encB]; rfl) (by have := Hl.out; unfold maxLen; simp; omega) (by have := Hl.out; simp; omega) (by simp; omega) ?_; intro v' w3 hown3 hb3)
    go_roundw
    case rel => exact ⟨k + 1, l ++ [(q + x + 0) % 2], (q + x + 0) / 2, by omega, by go_num, by simp, by omega, by omega, by simpa using hown3, (Hbl.out.alloc hz _).trans hb3, by simp [Hl.out], bit_snoc Hbit.out (by omega) (by omega), plus_step Hl.out Hval.out Ea.out Eb.out⟩
    case measure => simp [intOf]; omega
  ·have hx0 : x = 0 := by rw [hx, List.getD_eq_getElem?_getD, List.getElem?_eq_none (by omega)]; rfl
   rw [← hx, hx0] at Ea
   rw [← hy] at gb Eb
   clear hx hx0 ga
   have d1 := @dF k la.length h1
   by_cases h2 : k < lb.length
   ·obtain ⟨b2, o2, rfl, hb2, c2⟩ := bit_cell Hb.out Hbl.out (Nat.le_refl _) h2
    rw [← hy] at c2
    have Hy := hid hy
    clear hy
    have d2 := @dT k lb.length h2
    go_wp2_with (at_builtin; refine wpList_app rfl _ _ _ rfl elB w.heap.size _ _ rfl (Hown.out.alloc _) (some ⟨wr.heap.size, 0, none⟩) 1 1 rfl [encB ((q + y) % 2)] rfl (fun h => by cases h) rd_one (by simp [encB]; rfl) (by have := Hl.out; unfold maxLen; simp; omega) (by have := Hl.out; simp; omega) (by simp; omega) ?_; intro v' w3 hown3 hb3)
    go_roundw
    case rel => exact ⟨k + 1, l ++ [(q + 0 + y) % 2], (q + 0 + y) / 2, by omega, by go_num, by simp, by omega, by omega, by simpa using hown3, (Hbl.out.alloc hz _).trans hb3, by simp [Hl.out], bit_snoc Hbit.out (by omega) (by omega), plus_step Hl.out Hval.out Ea.out Eb.out⟩
    case measure => simp [intOf]; omega
   ·have d2 := @dF k lb.length h2
    clear hy gb
    have hkm : k = max la.length lb.length := by omega
    have hv := Hval.out
    rw [List.take_of_length_le (by omega), List.take_of_length_le (by omega)] at hv
    have HV := hid hv
    have HK := hid hkm
    clear hv hkm
    rcases (show q = 0 ∨ q = 1 from by omega) with h0 | h0
    ·subst h0
     go_wp2_with fail
     go_ret
     exact ⟨u5, l, rfl, Hown.out, Hbl.out, Hbit.out, by have := HV.out; simpa using this, .inl (by rw [Hl.out, HK.out])⟩
    ·subst h0
     go_wp2_with (at_builtin; refine wpList_app rfl _ _ _ rfl elB w.heap.size _ _ rfl (Hown.out.alloc _) (some ⟨wr.heap.size, 0, none⟩) 1 1 rfl [encB 1] rfl (fun h => by cases h) rd_one (by simp [encB]; rfl) (by have := Hl.out; unfold maxLen; simp; omega) (by have := Hl.out; simp; omega) (by simp; omega) ?_; intro v' w3 hown3 hb3)
     go_ret
     exact ⟨v', l ++ [1], rfl, by simpa using hown3, (Hbl.out.alloc hz _).trans hb3, bit_snoc Hbit.out (by omega) (by omega), by rw [val_snoc, Hl.out]; exact HV.out, .inr ⟨by simp [Hl.out, ← HK.out], fun b hb => by simpa using hb.symm⟩⟩
theorem val_cons (b : Int) (l : List Int) : val (b :: l) = b + 2 * val l := rfl
theorem bit_cons {b : Int} {l : List Int} (h : Bit l) (h0 : 0 ≤ b) (h1 : b ≤ 1) : Bit (b :: l) := by
 intro x hx
 rcases List.mem_cons.1 hx with e | e
 ·subst e; exact ⟨h0, h1⟩
 ·exact h x e
theorem top_cons {b : Int} {l : List Int} (h : Top l) (hne : l ≠ []) : Top (b :: l) := by
 intro x hx
 rw [List.getLast?_cons_of_ne_nil hne] at hx
 exact h x hx
theorem row_next {R la : List Int} {i : Nat} (h : val R = pw i * val la) : val (0 :: R) = pw (i + 1) * val la := by
 rw [val_cons, h, pw_succ, Int.mul_assoc]; omega
theorem sum_one {S S' R la lb : List Int} {i : Nat} (hS : val S = val la * val (lb.take i)) (hR : val R = pw i * val la) (hb : lb.getD i 0 = 1) (hS' : val S' = val S + val R) : val S' = val la * val (lb.take (i + 1)) := by
 rw [hS', hS, hR, take_succD, hb, Int.mul_add, Int.mul_one, Int.mul_comm (pw i)]
theorem sum_none {S la lb : List Int} {i : Nat} (hS : val S = val la * val (lb.take i)) (hb : lb.getD i 0 = 0) : val S = val la * val (lb.take (i + 1)) := by
 rw [hS, take_succD, hb, Int.mul_zero, Int.add_zero]
theorem quo_step {q : List Int} {r r' d bit x v v' : Int} (hq : val q * d + r = v) (hx : v' = x + 2 * v) (hr : 2 * r + x = bit * d + r') : val (bit :: q) * d + r' = v' := by
 rw [val_cons, Int.add_mul, Int.mul_assoc]; omega
theorem run_append_none {P : Program} {w : World} (base : Nat) (t ty e : TypeId) (i : TypeInfo) (size : Nat) (ht : P.underlying t = some (.slice e)) (hi : P.info? e = some i)
  (v : Value) (n c : Nat) (xs : List Value) (hown : w.ownsRow base e size v n xs) :
  (Builtin.append_ #[t, t] ty #[v, .slice none 0 c]).run P w = .ok v w := by
 rcases hown.2 with ⟨rfl, rfl⟩ | ⟨g, cap, cur, rfl, _, _, hnc, _⟩
 ·simp [Builtin.append_, run_underlying ht, sizeOf, typeInfo, hi, Builtin.lenOf, Builtin.firstCells]
 ·simp [Builtin.append_, run_underlying ht, sizeOf, typeInfo, hi, Builtin.lenOf, Builtin.firstCells, hnc, storeCells]
theorem wpList_any {P : Program} {ops : Array Oper} {rest : List Oper} {o : Oper} {a : Act} {Q : Exit → Act → World → Prop} {w : World} (hgd : o.guard = none) (s x : Operand) (T : TypeId)
  (ho : o.op = .call { callee := .builtin .append, args := #[s, x], argTypes := #[T, T] }) {E k bytes : Nat} (el : Elem P T E k bytes)
  (base : Nat) (v : Value) (rows : List (List Value)) (hs : a.eval s = v) (hown : Own w base E k v rows)
  (A : Option Addr) (m c : Nat) (hx : a.eval x = .slice A m c) (news : List (List Value)) (hm : news.length = m) (hr : Rd w A k news) (hk : ∀ r ∈ news, r.length = k ∧ ∀ u ∈ r, u.oneCell' = true)
  (h63 : rows.length + m ≤ maxLen) (hbytes : (rows.length + m) * bytes ≤ 140737488355328) (hbase : base ≤ w.heap.size)
  (h : ∀ v' w', Own w' base E k v' (rows ++ news) → Below base w w' → wpList P ops Q rest (a.put o.dst v') w') : wpList P ops Q (o :: rest) a w := by
 rcases A with _ | ad
 ·have hn : news = [] := by
   rcases news with _ | ⟨r, news⟩
   ·rfl
   ·obtain ⟨b, o, hA, _⟩ := hr 0 r rfl
    cases hA
  subst hn
  simp at hm
  subst hm
  refine wpList_plain hgd fun _ hK => ?_
  obtain ⟨i, z, hi, hz, hsize, hby, hzs⟩ := el.info
  have hrun := run_append_none (P := P) (w := w) base T o.type E i k el.ty hi v rows.length c rows.flatten hown.2
  unfold Oper.wp
  simp [execOp, ho, resolve, invoke, builtin, hs, hx, hrun, Result.andThen]
  exact hK _ _ (h v w (by simpa using hown) (Below.refl _ _))
 ·exact wpList_app hgd s x T ho el base v rows hs hown (some ad) m c hx news hm (fun h => by cases h) hr hk h63 hbytes hbase h
def mkA (ds : List (Nat × Nat)) (a0 : Act) (f : Nat → Value) : Act := ds.foldl (fun a p => a.put (some p.2) (f p.1)) a0
theorem put_put_self (a : Act) (s : Nat) (u v : Value) : (a.put (some s) u).put (some s) v = a.put (some s) v := by
 simp [Act.put, Array.setIfInBounds_setIfInBounds]
theorem mkA_put : ∀ (ds : List (Nat × Nat)) (a : Act) (f : Nat → Value) (s : Nat) (v : Value), (∀ p ∈ ds, p.2 ≠ s) → (mkA ds a f).put (some s) v = mkA ds (a.put (some s) v) f
 | [], _, _, _, _, _ => rfl
 | p :: ds, a, f, s, v, h => by
  show (mkA ds (a.put (some p.2) (f p.1)) f).put (some s) v = mkA ds ((a.put (some s) v).put (some p.2) (f p.1)) f
  rw [mkA_put ds _ f s v (fun q hq => h q (by simp [hq])), Act.put_comm a (x := some p.2) (y := some s) _ _ (fun d hd => by
   injection hd with hd
   subst hd
   intro e
   injection e with e
   exact h p (by simp) e.symm)]
theorem mkA_congr : ∀ (ds : List (Nat × Nat)) (a : Act) (f g : Nat → Value), (∀ p ∈ ds, f p.1 = g p.1) → mkA ds a f = mkA ds a g
 | [], _, _, _, _ => rfl
 | p :: ds, a, f, g, h => by
  show mkA ds (a.put (some p.2) (f p.1)) f = mkA ds (a.put (some p.2) (g p.1)) g
  rw [h p (by simp), mkA_congr ds _ f g (fun q hq => h q (by simp [hq]))]
def updF (f : Nat → Value) (i : Nat) (v : Value) : Nat → Value := fun j => if j = i then v else f j
theorem updF_same (f : Nat → Value) (i : Nat) (v : Value) : updF f i v i = v := if_pos rfl
theorem updF_other (f : Nat → Value) {i j : Nat} (v : Value) (h : j ≠ i) : updF f i v j = f j := if_neg h
theorem mkA_upd : ∀ (ds : List (Nat × Nat)) (a : Act) (f : Nat → Value) (p : Nat × Nat) (v : Value), (ds.map (·.1)).Nodup → (ds.map (·.2)).Nodup → p ∈ ds → (mkA ds a f).put (some p.2) v = mkA ds a (updF f p.1 v)
 | [], _, _, _, _, _, _, h => by cases h
 | q :: ds, a, f, p, v, h1, h2, h => by
  rw [List.map_cons, List.nodup_cons] at h1 h2
  show (mkA ds (a.put (some q.2) (f q.1)) f).put (some p.2) v = mkA ds (a.put (some q.2) (updF f p.1 v q.1)) (updF f p.1 v)
  rcases List.mem_cons.1 h with rfl | h
  ·rw [mkA_put ds _ f p.2 v (fun r hr e => h2.1 (List.mem_map.2 ⟨r, hr, e⟩)), put_put_self, updF_same]
   exact mkA_congr ds _ _ _ (fun r hr => (updF_other f v (fun e => h1.1 (List.mem_map.2 ⟨r, hr, e⟩))).symm)
  ·rw [mkA_upd ds _ f p v h1.2 h2.2 h, updF_other f v (fun e => h1.1 (List.mem_map.2 ⟨p, h, e.symm⟩))]
theorem put_own (a : Act) (s : Nat) : a.put (some s) (a.tmps.getD s undef) = a := by
 obtain ⟨t, d⟩ := a
 simp only [Act.put]
 congr 1
 apply Array.ext_getElem?
 intro j
 rw [Array.getElem?_setIfInBounds]
 split
 ·rename_i e
  subst e
  split
  ·rename_i hlt; simp
  ·rename_i hlt; simp [Array.getElem?_eq_none (by omega : t.size ≤ s)]
 ·rfl
theorem mkA_self : ∀ (ds : List (Nat × Nat)) (a : Act) (f : Nat → Value), (∀ p ∈ ds, f p.1 = a.tmps.getD p.2 undef) → mkA ds a f = a
 | [], _, _, _ => rfl
 | p :: ds, a, f, h => by
  show mkA ds (a.put (some p.2) (f p.1)) f = a
  rw [h p (by simp), put_own]
  exact mkA_self ds a f (fun q hq => h q (by simp [hq]))
theorem mkA_start : ∀ (ds : List (Nat × Nat)) (a : Act), (ds.map (·.1)).Nodup → ∃ f, mkA ds a f = a := by
 intro ds a hn
 suffices h : ∃ f : Nat → Value, ∀ p ∈ ds, f p.1 = a.tmps.getD p.2 undef by
  obtain ⟨f, hf⟩ := h
  exact ⟨f, mkA_self ds a f hf⟩
 induction ds with
 | nil => exact ⟨fun _ => undef, fun p hp => by cases hp⟩
 | cons q ds ih =>
  rw [List.map_cons, List.nodup_cons] at hn
  obtain ⟨f, hf⟩ := ih hn.2
  refine ⟨updF f q.1 (a.tmps.getD q.2 undef), fun p hp => ?_⟩
  rcases List.mem_cons.1 hp with rfl | hp
  ·exact updF_same _ _ _
  ·rw [updF_other _ _ (fun e => hn.1 (List.mem_map.2 ⟨p, hp, e⟩))]
   exact hf p hp
def waitsT (md : Region.Mode) (ops : Array Oper) (i : Nat) : List Nat := match ops[i]? with | none => [] | some o => (o.after.toList.filter (Region.binds md)).map (·.on)
theorem countP_drop (l : List Nat) (p q : Nat → Bool) (i : Nat) (hn : l.Nodup) (hi : i ∈ l) (hp : p i = true) (hq : q i = false) (ho : ∀ j, j ≠ i → q j = p j) : l.countP p = l.countP q + 1 := by
 induction l with
 | nil => cases hi
 | cons a l ih =>
  rw [List.nodup_cons] at hn
  rw [List.countP_cons, List.countP_cons]
  rcases List.mem_cons.1 hi with rfl | hi
  ·have : l.countP p = l.countP q := List.countP_congr (fun j hj => by rw [ho j (fun e => hn.1 (e ▸ hj))])
   simp [hp, hq, this]
  ·have hne : a ≠ i := fun e => hn.1 (e ▸ hi)
   rw [ih hn.2 hi, ho a hne]
   omega
theorem getD_setT {l : Array Bool} {i j : Nat} (h : l.getD i true = false) : (l.setIfInBounds i true).getD j true = if j = i then true else l.getD j true := by
 have hlt : i < l.size := by
  rcases Nat.lt_or_ge i l.size with h1 | h1
  ·exact h1
  ·simp [Array.getD_eq_getD_getElem?, Array.getElem?_eq_none h1] at h
 rw [Array.getD_eq_getD_getElem?, Array.getD_eq_getD_getElem?, Array.getElem?_setIfInBounds]
 split
 ·rename_i e; subst e; simp
 ·rename_i e; rw [if_neg (fun h => e h.symm)]
def setAll (T : List Nat) (l : Array Bool) : Array Bool := T.foldl (fun l i => l.setIfInBounds i true) l
theorem setAll_get : ∀ (T : List Nat) (l : Array Bool) (j : Nat), (setAll T l)[j]? = if j ∈ T ∧ j < l.size then some true else l[j]?
 | [], l, j => by simp [setAll]
 | i :: T, l, j => by
  show (setAll T (l.setIfInBounds i true))[j]? = _
  rw [setAll_get T, Array.size_setIfInBounds, Array.getElem?_setIfInBounds]
  by_cases h1 : j ∈ T ∧ j < l.size
  ·rw [if_pos h1, if_pos ⟨by simp [h1.1], h1.2⟩]
  ·rw [if_neg h1]
   by_cases h2 : i = j
   ·subst h2
    rw [if_pos rfl]
    by_cases h3 : i < l.size
    ·rw [if_pos h3, if_pos ⟨by simp, h3⟩]
    ·rw [if_neg h3, if_neg (fun h => h3 h.2), Array.getElem?_eq_none (by omega)]
   ·rw [if_neg h2, if_neg (fun h => h1 ⟨by
     rcases List.mem_cons.1 h.1 with e | e
     ·exact absurd e.symm h2
     ·exact e, h.2⟩)]
section
variable {P : Program} {ops : Array Oper} {Q : Exit → Act → World → Prop} {md : Region.Mode} {S : World → Prop}
end
def nextU (md : Region.Mode) (ops : Array Oper) (us : List Nat) (l : Array Bool) : Option Nat := us.find? (fun i => (Region.ready md ops l).contains i && Region.free md ops l i)
def closesU (md : Region.Mode) (ops : Array Oper) (T us : List Nat) : Nat → Array Bool → Bool
 | 0, _ => true
 | n + 1, l => match nextU md ops us l with
  | some i => closesU md ops T us n (l.setIfInBounds i true)
  | none => !(Region.ready md ops l).isEmpty && (Region.ready md ops l).all (fun i => T.contains i && closesU md ops T us n (l.setIfInBounds i true))
def succU (md : Region.Mode) (ops : Array Oper) (T us : List Nat) (l : Array Bool) : Option (List (Array Bool)) := match nextU md ops us l with
 | some i => some [l.setIfInBounds i true]
 | none => if (!(Region.ready md ops l).isEmpty && (Region.ready md ops l).all (fun i => T.contains i)) = true then some ((Region.ready md ops l).map (fun i => l.setIfInBounds i true)) else none
def closesF (md : Region.Mode) (ops : Array Oper) (T us : List Nat) : Nat → List (Array Bool) → Bool
 | 0, _ => true
 | n + 1, fr => fr.all (fun l => (succU md ops T us l).isSome) && closesF md ops T us n ((fr.flatMap (fun l => (succU md ops T us l).getD [])).eraseDups)
theorem closes_of {md : Region.Mode} {ops : Array Oper} {T us : List Nat} : ∀ {n : Nat} {fr : List (Array Bool)} (_ : closesF md ops T us n fr = true), ∀ l ∈ fr, closesU md ops T us n l = true
 | 0, _, _, _, _ => rfl
 | n + 1, fr, h, l, hl => by
  rw [closesF, Bool.and_eq_true] at h
  have h1 := List.all_eq_true.1 h.1 l hl
  have ih := closes_of h.2
  have hin : ∀ q ∈ (succU md ops T us l).getD [], closesU md ops T us n q = true := fun q hq => ih q (by
   rw [List.mem_eraseDups]
   exact List.mem_flatMap.2 ⟨l, hl, hq⟩)
  unfold succU at h1 hin
  unfold closesU
  cases hn : nextU md ops us l with
  | some i =>
   rw [hn] at hin
   exact hin _ (by simp)
  | none =>
   rw [hn] at h1 hin
   dsimp only at h1 hin ⊢
   split at h1
   ·rename_i hc
    rw [if_pos hc] at hin
    rw [Bool.and_eq_true] at hc ⊢
    refine ⟨hc.1, List.all_eq_true.2 fun i hi => ?_⟩
    rw [Bool.and_eq_true]
    exact ⟨List.all_eq_true.1 hc.2 i hi, hin _ (by simpa using ⟨i, hi, rfl⟩)⟩
   ·cases h1
section
variable {P : Program} {ops : Array Oper} {Q : Exit → Act → World → Prop} {md : Region.Mode} {S : World → Prop}
theorem wpAnyH_mergeU (ds : List (Nat × Nat)) (us : List Nat) (vU : Nat → Value) (R : Nat → Value → World → Prop) (deps : Nat → List Nat) {k : Nat} {listed0 : Array Bool} {a0 : Act} {w0 : World}
  (hn1 : (ds.map (·.1)).Nodup) (hn2 : (ds.map (·.2)).Nodup)
  (hun : (ds.map (·.1)).all (fun i => listed0.getD i true == false) = true)
  (hclF : closesF md ops (ds.map (·.1)) us ds.length [listed0] = true)
  (hdeps : ds.all (fun p => (deps p.1).all (fun j => (ds.map (·.1)).contains j && (waitsT md ops p.1).contains j)) = true)
  (hus : us.all (fun i => ds.any (fun p => p.1 == i)) = true)
  (hdst : ds.all (fun p => !us.contains p.1 || (match ops[p.1]? with | some o => o.dst == some p.2 | none => false)) = true)
  (hsel : Region.noSelect ops = true) (hQ : ∀ (s : Nat) v c a w, Q (.panic c) (a.put (some s) v) w → Q (.panic c) a w)
  (hyU : ∀ i ∈ us, ∀ f o, ops[i]? = some o → YieldsIf P ops S o (vU i) (mkA ds a0 f))
  (hRU : ∀ i ∈ us, ∀ w, R i (vU i) w)
  (hext : ∀ i v w w', R i v w → Below w.heap.size w w' → R i v w')
  (hSx : ∀ w w', S w → Below w.heap.size w w' → S w')
  (hstep : ∀ p ∈ ds, ∀ f w, S w → Below w0.heap.size w0 w → (∀ j ∈ deps p.1, R j (f j) w) → ∀ o, ops[p.1]? = some o →
   ∀ K' : Act → World → Prop, Shut (∀ v w', R p.1 v w' → Below w.heap.size w w' → K' ((mkA ds a0 f).put (some p.2) v) w') →
   if Region.wanted o (yielded ops (mkA ds a0 f).tmps) = true then Oper.wp P o (mkA ds a0 f) w K' Q else K' ((mkA ds a0 f).put o.dst undef) w)
  (hS : S w0)
  (hexit : ∀ f w, S w → Below w0.heap.size w0 w → (∀ p ∈ ds, R p.1 (f p.1) w) → wpAnyH P md ops Q S k (setAll (ds.map (·.1)) listed0) (mkA ds a0 f) w) :
  wpAnyH P md ops Q S (k + ds.length) listed0 a0 w0 := by
 have hcl := closes_of hclF listed0 (List.mem_singleton.2 rfl)
 obtain ⟨f0, hf0⟩ := mkA_start ds a0 hn1
 suffices H : ∀ (m : Nat) (listed : Array Bool) (f : Nat → Value) (w : World), (ds.map (·.1)).countP (fun i => !listed.getD i true) = m → listed.size = listed0.size → (∀ j, j ∉ ds.map (·.1) → listed[j]? = listed0[j]?) →
   closesU md ops (ds.map (·.1)) us m listed = true → S w → Below w0.heap.size w0 w → (∀ p ∈ ds, listed.getD p.1 false = true → R p.1 (f p.1) w) → wpAnyH P md ops Q S (k + m) listed (mkA ds a0 f) w by
  have hall : ∀ i ∈ ds.map (·.1), listed0.getD i true = false := fun i hi => by
   have := List.all_eq_true.1 hun i hi
   simpa using this
  have hm : (ds.map (·.1)).countP (fun i => !listed0.getD i true) = ds.length := by
   rw [List.countP_eq_length.2 (fun i hi => by simp [hall i hi]), List.length_map]
  have := H ds.length listed0 f0 w0 hm rfl (fun _ _ => rfl) hcl hS (Below.refl _ _) (fun p hp hl => by
   have h1 := hall p.1 (List.mem_map.2 ⟨p, hp, rfl⟩)
   exfalso
   rw [Array.getD_eq_getD_getElem?] at h1 hl
   cases e : listed0[p.1]? with
   | none => rw [e] at h1; simp at h1
   | some b => rw [e] at h1 hl; simp at h1 hl; rw [h1] at hl; cases hl)
  rw [hf0] at this
  exact this
 intro m
 induction m with
 | zero =>
  intro listed f w hc hsz hoth _ hSw hbl hR
  have hlisted : listed = setAll (ds.map (·.1)) listed0 := by
   apply Array.ext_getElem?
   intro j
   rw [setAll_get]
   by_cases hj : j ∈ ds.map (·.1)
   ·have h1 : listed0.getD j true = false := by
     have := List.all_eq_true.1 hun j hj
     simpa using this
    have hlt : j < listed0.size := by
     rcases Nat.lt_or_ge j listed0.size with h2 | h2
     ·exact h2
     ·rw [Array.getD_eq_getD_getElem?, Array.getElem?_eq_none h2] at h1; simp at h1
    rw [if_pos ⟨hj, hlt⟩]
    have h3 := (List.countP_eq_zero.1 hc) j hj
    simp only [Bool.not_eq_true', Bool.not_eq_false] at h3
    rw [Array.getD_eq_getD_getElem?, Array.getElem?_eq_getElem (by omega)] at h3
    rw [Array.getElem?_eq_getElem (by omega)]
    simpa using h3
   ·rw [if_neg (fun h => hj h.1)]
    exact hoth j hj
  rw [hlisted]
  refine hexit f w hSw hbl (fun p hp => hR p hp ?_)
  have h3 := (List.countP_eq_zero.1 hc) p.1 (List.mem_map.2 ⟨p, hp, rfl⟩)
  simp only [Bool.not_eq_true', Bool.not_eq_false] at h3
  have h1 : listed0.getD p.1 true = false := by
   have := List.all_eq_true.1 hun p.1 (List.mem_map.2 ⟨p, hp, rfl⟩)
   simpa using this
  rw [Array.getD_eq_getD_getElem?] at h3 h1 ⊢
  cases e : listed[p.1]? with
  | none =>
   have : listed0[p.1]? = none := by rw [Array.getElem?_eq_none_iff] at e ⊢; omega
   rw [this] at h1; simp at h1
  | some b => rw [e] at h3; simpa using h3
 | succ m ih =>
  intro listed f w hc hsz hoth hcl hSw hbl hR
  -- what follows, once operation p of T has come up with the value v
  have next : ∀ p ∈ ds, listed.getD p.1 true = false → closesU md ops (ds.map (·.1)) us m (listed.setIfInBounds p.1 true) = true → ∀ v w', R p.1 v w' → Below w.heap.size w w' → wpAnyH P md ops Q S (k + m) (listed.setIfInBounds p.1 true) ((mkA ds a0 f).put (some p.2) v) w' := by
   intro p hp hunl hcl' v w' hv hb
   have hiT : p.1 ∈ ds.map (·.1) := List.mem_map.2 ⟨p, hp, rfl⟩
   rw [mkA_upd ds a0 f p v hn1 hn2 hp]
   refine ih (listed.setIfInBounds p.1 true) (updF f p.1 v) w' ?_ (by rw [Array.size_setIfInBounds]; exact hsz) ?_ hcl' (hSx w w' hSw hb) (hbl.trans (hb.mono hbl.size)) ?_
   ·have := countP_drop (ds.map (·.1)) (fun i => !listed.getD i true) (fun i => !(listed.setIfInBounds p.1 true).getD i true) p.1 hn1 hiT (by simp only [hunl]; rfl) (by simp only [getD_setT hunl, if_pos]; rfl) (fun j hj => by simp only [getD_setT hunl, if_neg hj])
    omega
   ·intro j hj
    rw [Array.getElem?_setIfInBounds, if_neg (show ¬ p.1 = j from fun e => hj (e ▸ hiT))]
    exact hoth j hj
   ·intro q hq hl
    by_cases e : q.1 = p.1
    ·rw [e, updF_same]; exact hv
    ·rw [updF_other _ _ e]
     refine hext _ _ _ _ (hR q hq ?_) hb
     rw [Array.getD_eq_getD_getElem?, Array.getElem?_setIfInBounds, if_neg (fun h => e h.symm)] at hl
     rw [Array.getD_eq_getD_getElem?]
     exact hl
  unfold closesU at hcl
  cases hnx : nextU md ops us listed with
  | some i =>
   rw [hnx] at hcl
   unfold nextU at hnx
   have h1 := List.find?_some hnx
   have hmem := List.mem_of_find?_eq_some hnx
   rw [Bool.and_eq_true] at h1
   have h2 := List.all_eq_true.1 hus i hmem
   obtain ⟨p, hp, hpi⟩ := List.any_eq_true.1 h2
   have hpi : p.1 = i := by simpa using hpi
   subst hpi
   have hrd : p.1 ∈ Region.ready md ops listed := by simpa using h1.1
   obtain ⟨hunl, o, ho, _⟩ := mem_ready.1 hrd
   have h3 := List.all_eq_true.1 hdst p hp
   rw [ho] at h3
   have hd : o.dst = some p.2 := by
    have h4 : us.contains p.1 = true := by simpa using hmem
    rw [h4] at h3
    simpa using h3
   refine wpAnyH_take (v := vU p.1) ho hsel h1.2 h1.1 (fun c a w h => hQ p.2 _ c a w (by rw [hd] at h; exact h)) (hyU p.1 hmem f o ho) hSw ?_
   rw [hd]
   exact next p hp hunl hcl _ w (hRU p.1 hmem w) (Below.refl _ _)
  | none =>
   rw [hnx] at hcl
   rw [Bool.and_eq_true] at hcl
   refine ⟨fun h => by rw [h] at hcl; simp at hcl, fun i hi => ?_⟩
   have h1 := List.all_eq_true.1 hcl.2 i hi
   rw [Bool.and_eq_true] at h1
   have hiT : i ∈ ds.map (·.1) := by simpa using h1.1
   obtain ⟨p, hp, rfl⟩ := List.mem_map.1 hiT
   obtain ⟨hunl, o, ho, hall⟩ := mem_ready.1 hi
   refine wpOp_step ho (fun K' hK => ?_)
   refine hstep p hp f w hSw hbl ?_ o ho K' ?_
   ·intro j hj
    have h2 := List.all_eq_true.1 (List.all_eq_true.1 hdeps p hp) j hj
    rw [Bool.and_eq_true] at h2
    have hjT : j ∈ ds.map (·.1) := by simpa using h2.1
    obtain ⟨q, hq, rfl⟩ := List.mem_map.1 hjT
    refine hR q hq ?_
    have h3 : q.1 ∈ waitsT md ops p.1 := by simpa using h2.2
    unfold waitsT at h3
    rw [ho] at h3
    obtain ⟨e, he, heq⟩ := List.mem_map.1 h3
    rw [List.mem_filter] at he
    rw [← heq]
    exact hall e (by simpa using he.1) he.2
   ·intro v w' hv hb
    exact hK _ _ ⟨hSx w w' hSw hb, next p hp hunl h1.2 v w' hv hb⟩
end
end Go.Proofs.YtalgfpegaobacaaGreatDoor
