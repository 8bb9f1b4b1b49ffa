/- Contracts of fix.Sum, Product. -/
import Derived.Test.YtenehpcliajdnaaFix1
import Derived.Test.YtenehpcliajdnaaWide6
namespace Go.Proofs.Ytenehpcliajdnaa
open Go.RowKit
theorem elW : Elem Try.prog 109 79 2 16 := elem_of Try.underlying109 (z := .agg #[.int .i64 0, .int .u64 0]) (by kernel_rfl) rfl (by omega)
theorem sum64_bound (l : List Int) (hin : ∀ n ∈ l, In64 n) : -(l.length * 9223372036854775808 : Int) ≤ l.sum ∧ l.sum ≤ l.length * 9223372036854775808 := by
  induction l with
  | nil => simp
  | cons a l ih =>
    have h1 := hin a (by simp)
    have h2 := ih (fun n hn => hin n (by simp [hn]))
    unfold In64 at h1
    simp only [List.sum_cons, List.length_cons]
    omega
set_option maxRecDepth 100000 in
set_option maxHeartbeats 1000000 in
theorem fixSumAt (l : List Int) (A : Option Addr) (c : Nat) (w : World) (hl : l.length ≤ 1099511627776) (hin : ∀ n ∈ l, In64 n) (hr : Rd w A 1 (l.map encI)) (p q : Int)
    (hv : ∀ w1 : World, Calls Try.prog 80 #[(.agg #[.int .i64 (whi (l.sum)), .int .u64 (wlo (l.sum))]), .int .i64 0] w1 fun e w' => e = .returned (.tuple #[.int .i64 p, .int .i64 q]) ∧ Below w1.heap.size w1 w') :
    Calls Try.prog 57 #[.slice A l.length c] w fun e w' => e = .returned (.tuple #[.int .i64 p, .int .i64 q]) ∧ Below w.heap.size w w' := by
  have Hr := Lib.hid hr
  have Hin := Lib.hid hin
  have Hv := Lib.hid hv
  clear hr hin hv
  go_enter Try.func57, Try.ntmps57
  go_wp2_with (at_make; refine wpList_mk rfl _ _ _ rfl elW w.heap.size _ _ _ l.length rfl rfl (by omega) (by omega) (by unfold maxLen; omega) (Nat.le_refl _) ?_; intro w1 hown1 hb1)
  have Hown1 := Lib.hid hown1
  have Hb1 := Lib.hid hb1
  clear hown1 hb1
  go_loopw [4, 12] (fun v i wr => ∃ k : Nat, k ≤ l.length ∧ i = .int .i64 k ∧ Own wr w.heap.size 79 2 v ((l.take k).map encW) ∧ Below w.heap.size w wr) (fun _ i _ => l.length - (intOf i).toNat)
  case atStart => exact ⟨0, Nat.zero_le _, rfl, by simpa using Hown1.out, Hb1.out⟩
  case round =>
    obtain ⟨k, hk, rfl, hown, hbl⟩ := hrel
    have Hown := Lib.hid hown
    have Hbl := Lib.hid hbl
    have hz := hbl.size
    clear hown hbl
    by_cases hlt : k < l.length
    · obtain ⟨b, o, rfl, hb, hc⟩ := Hr.out k (encI l[k]) (by simp [hlt])
      have c0 := (Hbl.out.cell (p := ⟨b, o + k * 1 + 0, none⟩) hb).trans (hc 0 _ rfl)
      simp only [Nat.add_zero, Nat.mul_one] at c0
      clear hc
      have hlk := Hin.out l[k] (List.getElem_mem hlt)
      have Hs : Hid ((l.take (k + 1)).map encW = (l.take k).map encW ++ [encW l[k]]) := by unfold Hid; rw [List.take_succ_eq_append_getElem hlt, List.map_append]; rfl
      obtain ⟨n, hn⟩ : ∃ n, n = l[k] := ⟨_, rfl⟩
      rw [← hn] at c0 hlk Hs
      clear hn
      have lk : ((l.take k).map encW).length ≤ k := by simp; omega
      go_wp2_with (first | (go_at_call 76; refine (wideOf n _ hlk).mono ?_; rintro e w2 ⟨rfl, hb2⟩; have hz2 := hb2.size; have Hb2 := Lib.hid hb2; clear hb2) | (at_builtin; refine wpList_app rfl _ _ _ rfl elW w.heap.size _ _ rfl ((Hown.out.keep Hb2.out).alloc _) (some ⟨w2.heap.size, 0, none⟩) 1 1 rfl [encW n] rfl (fun h => by cases h) rd_one (by simp [encW]; exact ⟨rfl, rfl⟩) (by unfold maxLen; omega) (by omega) (by simp; omega) ?_; intro v' w3 hown3 hb3))
      go_roundw
      case rel => exact ⟨k + 1, by omega, by go_num, by rw [Hs.out]; exact hown3, ((Hbl.out.trans (Hb2.out.mono hz)).alloc (by omega) _).trans hb3⟩
      case measure => simp [intOf]; omega
    · obtain rfl : k = l.length := by omega
      have ho := Hown.out
      rw [List.take_length] at ho
      obtain ⟨A', c', rfl, _, _, hr', _⟩ := ho.shape
      have Hr' := Lib.hid hr'
      have h128 : ∀ n ∈ l, In128 n := fun n hn => in128_of64 (Hin.out n hn)
      have hsum := sum64_bound l Hin.out
      have H128 := Lib.hid h128
      clear hr' ho h128
      simp only [List.length_map]
      go_wp2_with fail
      refine (wideAddYes l A' c' _ (by omega) H128.out Hr'.out (by unfold In128; omega)).mono ?_
      rintro e w2 ⟨rfl, hb2⟩
      have hz2 := hb2.size
      have Hb2 := Lib.hid hb2
      clear hb2
      go_wp2_with fail
      refine (Hv.out _).mono ?_
      rintro e w3 ⟨rfl, hb3⟩
      have Hb3 := Lib.hid hb3
      clear hb3
      go_wp2_with fail
      go_ret2
      exact ⟨rfl, Hbl.out.trans ((Hb2.out.mono hz).trans (Hb3.out.mono (by omega)))⟩
theorem fixSumYes (l : List Int) (A : Option Addr) (c : Nat) (w : World) (hl : l.length ≤ 1099511627776) (hin : ∀ n ∈ l, In64 n) (hr : Rd w A 1 (l.map encI)) (hs : In64 l.sum) :
    Calls Try.prog 57 #[.slice A l.length c] w fun e w' => e = .returned (.tuple #[.int .i64 l.sum, .int .i64 0]) ∧ Below w.heap.size w w' :=
  fixSumAt l A c w hl hin hr _ _ fun w1 => narrowYes _ w1 hs
theorem fixSumNo (l : List Int) (A : Option Addr) (c : Nat) (w : World) (hl : l.length ≤ 1099511627776) (hin : ∀ n ∈ l, In64 n) (hr : Rd w A 1 (l.map encI)) (hs : ¬ In64 l.sum) :
    Calls Try.prog 57 #[.slice A l.length c] w fun e w' => e = .returned (.tuple #[.int .i64 0, .int .i64 7]) ∧ Below w.heap.size w w' :=
  fixSumAt l A c w hl hin hr _ _ fun w1 => narrowNo _ w1 (by have := sum64_bound l hin; unfold In128; omega) hs
end Go.Proofs.Ytenehpcliajdnaa
