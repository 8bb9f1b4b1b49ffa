/- Contract of wide.Add. -/
import Derived.Test.YtenehpcliajdnaaWide4
namespace Go.Proofs.Ytenehpcliajdnaa
open Go.RowKit
/-- A wide number's two cells. -/
def encW (n : Int) : List Value := [.int .i64 (whi n), .int .u64 (wlo n)]
theorem sum_take_succ (l : List Int) (k : Nat) (h : k < l.length) : (l.take (k + 1)).sum = (l.take k).sum + l[k] := by
  rw [List.take_succ_eq_append_getElem h, List.sum_append]; simp
theorem sum_bound (l : List Int) (hin : ∀ n ∈ l, In128 n) : -(l.length * 170141183460469231731687303715884105728 : Int) ≤ l.sum ∧ l.sum ≤ l.length * 170141183460469231731687303715884105728 := by
  induction l with
  | nil => simp
  | cons a l ih =>
    have h1 := hin a (by simp)
    have h2 := ih (fun n hn => hin n (by simp [hn]))
    unfold In128 at h1
    simp only [List.sum_cons, List.length_cons]
    omega
set_option maxRecDepth 100000 in
set_option maxHeartbeats 1000000 in
theorem wideAddAt (l : List Int) (A : Option Addr) (c : Nat) (w : World) (hl : l.length ≤ 4503599627370496) (hin : ∀ n ∈ l, In128 n) (hr : Rd w A 2 (l.map encW)) (x y z : Int)
    (hv : ∀ (w' : World) (g : Nat), Blk w' g 139 (tot l.sum) → Calls Try.prog 92 #[.pointer (some ⟨g, 0, none⟩)] w' fun e w'' => e = .returned (.tuple #[.agg #[.int .i64 x, .int .u64 y], .int .i64 z]) ∧ Below w'.heap.size w' w'') :
    Calls Try.prog 70 #[.slice A l.length c] w fun e w' => e = .returned (.tuple #[.agg #[.int .i64 x, .int .u64 y], .int .i64 z]) ∧ Below w.heap.size w w' := by
  have Hv := Lib.hid hv
  have Hr := Lib.hid hr
  have Hin := Lib.hid hin
  clear hv hr hin
  go_enter Try.func70, Try.ntmps70
  go_wp2_with fail
  go_loopw [9] (fun i wr => ∃ k : Nat, k ≤ l.length ∧ i = .int .i64 k ∧ Blk wr (w.heap.size + 1) 139 (tot (l.take k).sum) ∧ Below (w.heap.size + 1) (w.alloc (.cells #[.int .i64 0, .int .u64 0] 79)) wr)
    (fun i _ => l.length - (intOf i).toNat)
  case atStart => exact ⟨0, Nat.zero_le _, rfl, by simp only [List.take_zero, List.sum_nil]; rw [show tot 0 = #[.int .i64 0, .int .i64 0, .int .u64 0] from by simp [tot, whi, wlo, wrap128]]; (repeat' (first | (with_reducible assumption) | (with_reducible refine Blk.drew ?_) | (with_reducible refine Blk.here ?_) | (with_reducible refine Blk.alloc ?_ _) | (with_reducible refine Blk.far ?_ ?_ _) | (with_reducible refine Blk.below ?_ (by with_reducible assumption) ?_) | omega | (simp; done) | (simp; omega))), by (repeat' (first | (with_reducible exact Below.refl _ _) | (with_reducible assumption) | (with_reducible refine Below.alloc ?_ ?_ _) | (with_reducible refine Below.setCell ?_ ?_ _) | (with_reducible refine Below.drew ?_) | (with_reducible refine below_drewN ?_ _) | (with_reducible refine below_via ?_ (by with_reducible assumption) ?_) | omega | (simp; done) | (simp; omega)))⟩
  case round =>
    obtain ⟨k, hk, rfl, hB, hbl⟩ := hrel
    have HB := Lib.hid hB
    have Hbl := Lib.hid hbl
    have hz := hbl.size
    simp at hz
    have hz2 := hB.lt
    clear hB hbl
    by_cases hlt : k < l.length
    · obtain ⟨b, o, rfl, hb, hc⟩ := Hr.out k (encW l[k]) (by simp [hlt])
      have c0 := (Hbl.out.cell (p := ⟨b, o + k * 2 + 0, none⟩) (by exact Nat.lt_succ_of_lt hb)).trans (cell_alloc hb (hc 0 _ rfl))
      have c1 := (Hbl.out.cell (p := ⟨b, o + k * 2 + 1, none⟩) (by exact Nat.lt_succ_of_lt hb)).trans (cell_alloc hb (hc 1 _ rfl))
      have sb := sum_bound (l.take k) (fun n hn => Hin.out n (List.mem_of_mem_take hn))
      have sl : (l.take k).length ≤ k := List.length_take_le _ _
      clear hc
      simp only [Nat.add_zero] at c0
      have hlk := Hin.out l[k] (List.getElem_mem hlt)
      obtain ⟨n, hn⟩ : ∃ n, n = l[k] := ⟨_, rfl⟩
      have hs := sum_take_succ l k hlt
      rw [← hn] at c0 c1 hlk hs
      have Hs := Lib.hid hs
      have Hn := Lib.hid hn
      clear hs hn
      go_wp2_with fail
      refine (totalAdd (l.take k).sum n (w.heap.size + 1) _ (by unfold InT; omega) hlk (by have hB := HB.out; (repeat' (first | (with_reducible assumption) | (with_reducible refine Blk.drew ?_) | (with_reducible refine Blk.here ?_) | (with_reducible refine Blk.alloc ?_ _) | (with_reducible refine Blk.far ?_ ?_ _) | (with_reducible refine Blk.below ?_ (by with_reducible assumption) ?_) | omega | (simp; done) | (simp; omega))))).mono ?_
      rintro e w1 ⟨rfl, hk1, ho1⟩
      obtain ⟨fc1, fg1, hc1, hf1, hz1⟩ := oget ho1
      rw [← Hs.out] at hk1
      have Hk1 := Lib.hid hk1
      have Ho1 := Lib.hid ho1
      clear hk1 ho1
      go_wp2_with fail
      go_roundw
      case rel => exact ⟨k + 1, by omega, by go_num, Hk1.out, by refine below_only ?_ Ho1.out ?_ ?_ <;> first | (simp; omega) | (have hb := Hbl.out; (repeat' (first | (with_reducible exact Below.refl _ _) | (with_reducible assumption) | (with_reducible refine Below.alloc ?_ ?_ _) | (with_reducible refine Below.setCell ?_ ?_ _) | (with_reducible refine Below.drew ?_) | (with_reducible refine below_drewN ?_ _) | (with_reducible refine below_via ?_ (by with_reducible assumption) ?_) | omega | (simp; done) | (simp; omega))))⟩
      case measure => simp [intOf]; omega
    · have hkl : k = l.length := by omega
      subst hkl
      have hB := HB.out
      rw [List.take_length] at hB
      obtain ⟨hfc, hff, hzz⟩ : (∀ b o, b < w.heap.size + 1 → wr.cell? ⟨b, o, none⟩ = (w.alloc (.cells #[.int .i64 0, .int .u64 0] 79)).cell? ⟨b, o, none⟩) ∧ (∀ b o, b < w.heap.size + 1 → wr.frozen? ⟨b, o, none⟩ = (w.alloc (.cells #[.int .i64 0, .int .u64 0] 79)).frozen? ⟨b, o, none⟩) ∧ True := ⟨fun b o h => Hbl.out.cell (p := ⟨b, o, none⟩) h, fun b o h => Hbl.out.frozen (p := ⟨b, o, none⟩) h, trivial⟩
      have r0 := hfc w.heap.size 0 (by omega)
      have r1 := hfc w.heap.size 1 (by omega)
      have z0 := hff w.heap.size 0 (by omega)
      have z1 := hff w.heap.size 1 (by omega)
      simp at r0 r1 z0 z1
      clear hfc hff
      have HBB := Lib.hid hB
      clear hB
      go_wp2_with fail
      refine (Hv.out _ _ HBB.out).mono ?_
      rintro e w1 ⟨rfl, hb1⟩
      obtain ⟨fc1, fg1, hc1, hf1, hz1⟩ := bget hb1
      go_wp2
      all_goals
        refine bodyPost_ret (by simp [*, results, Try.results70, go_sem, ↓IntWalk.iteOmega]; try rfl) rfl ⟨rfl, ?_⟩
        have hb := Hbl.out.mono (B' := w.heap.size) (by omega)
        have hb2 : Below w.heap.size w wr := ((Below.refl _ _).alloc (Nat.le_refl _) _).trans hb
        (repeat' (first | (with_reducible exact Below.refl _ _) | (with_reducible assumption) | (with_reducible refine Below.alloc ?_ ?_ _) | (with_reducible refine Below.setCell ?_ ?_ _) | (with_reducible refine Below.drew ?_) | (with_reducible refine below_drewN ?_ _) | (with_reducible refine below_via ?_ (by with_reducible assumption) ?_) | omega | (simp; done) | (simp; omega)))
theorem wideAddYes (l : List Int) (A : Option Addr) (c : Nat) (w : World) (hl : l.length ≤ 4503599627370496) (hin : ∀ n ∈ l, In128 n) (hr : Rd w A 2 (l.map encW)) (hs : In128 l.sum) :
    Calls Try.prog 70 #[.slice A l.length c] w fun e w' => e = .returned (.tuple #[(.agg #[.int .i64 (whi (l.sum)), .int .u64 (wlo (l.sum))]), .int .i64 0]) ∧ Below w.heap.size w w' :=
  wideAddAt l A c w hl hin hr _ _ _ fun _ _ hB => totalDoneYes _ _ _ hs hB
theorem wideAddNo (l : List Int) (A : Option Addr) (c : Nat) (w : World) (hl : l.length ≤ 4503599627370496) (hin : ∀ n ∈ l, In128 n) (hr : Rd w A 2 (l.map encW)) (hs : ¬ In128 l.sum) :
    Calls Try.prog 70 #[.slice A l.length c] w fun e w' => e = .returned (.tuple #[.agg #[.int .i64 0, .int .u64 0], .int .i64 7]) ∧ Below w.heap.size w w' :=
  wideAddAt l A c w hl hin hr _ _ _ fun _ _ hB => totalDoneNo _ _ _ hs hB
end Go.Proofs.Ytenehpcliajdnaa
