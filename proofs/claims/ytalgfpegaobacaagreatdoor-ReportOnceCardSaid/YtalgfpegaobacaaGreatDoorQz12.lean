/- Joined. -/
import Derived.Test.YtalgfpegaobacaaGreatDoorQz7
namespace Go.Proofs.YtalgfpegaobacaaGreatDoor
set_option linter.all false
set_option maxHeartbeats 4000000
set_option maxRecDepth 100000
open Go.RowKit
open Lib (hid)
/- Members: contracts of the reference's Is, Find, Put, Table. -/
theorem ret_boolB {p : Prop} [Decidable p] {q : Prop} [Decidable q] (h : p ↔ q) : Ending.returned (.bool (decide p)) = Ending.returned (.bool (decide q)) := by
 by_cases hp : p
 ·rw [decide_eq_true hp, decide_eq_true (h.1 hp)]
 ·rw [decide_eq_false hp, decide_eq_false (fun hq => hp (h.2 hq))]
theorem ref14Is (x : Mb) (w : World) : Calls Tryz.prog 49 #[.agg #[.int .i64 x.id, .int .i64 x.cap, .int .i64 x.phase, .int .i64 x.til]] w fun e w' => e = .returned (.bool (decide (okMbr x))) ∧ Below w.heap.size w w' := by
 obtain ⟨c, hc⟩ : ∃ c, c = decide (okMbr x) := ⟨_, rfl⟩
 have HD := hid hc
 rw [← hc]
 clear hc
 go_enter Tryz.func49, Tryz.ntmps49
 go_wp2_with fail
 all_goals
  go_ret
  refine ⟨?_, tB⟩
  rw [HD.out]
  first
   | (rw [decide_eq_false (p := okMbr x) (fun hk => by unfold okMbr at hk; omega)]; rfl)
   | (rw [decide_eq_true (p := okMbr x) (by unfold okMbr; omega)]; rfl)
   | (refine Eq.trans (b := Ending.returned (.bool (decide (x.til ≤ 2097152)))) rfl ?_; refine ret_boolB ?_; unfold okMbr; omega)
   | (refine Eq.trans (b := Ending.returned (.bool (decide (x.til < 2097153)))) rfl ?_; refine ret_boolB ?_; unfold okMbr; omega)
   | fail
theorem ref14Find (l : List Mb) (id : Int) (A : Option Addr) (c : Nat) (w : World) (hl : l.length ≤ 1099511627776) (hr : Rd w A 4 (l.map encMb)) :
  Calls Tryz.prog 40 #[.slice A l.length c, .int .i64 id] w fun e w' => e = .returned (.tuple #[.agg #[.int .i64 (findMb l id).1.id, .int .i64 (findMb l id).1.cap, .int .i64 (findMb l id).1.phase, .int .i64 (findMb l id).1.til], .bool (findMb l id).2]) ∧ Below w.heap.size w w' := by
 have Hr := hid hr
 clear hr
 go_enter Tryz.func40, Tryz.ntmps40
 go_wp2_with fail
 go_loopw [6] (fun i wr => ∃ k : Nat, k ≤ l.length ∧ i = .int .i64 k ∧ Below w.heap.size w wr ∧ (wr.cell? ⟨w.heap.size, 0, none⟩ = some (.int .i64 0) ∧ wr.cell? ⟨w.heap.size, 1, none⟩ = some (.int .i64 0) ∧ wr.cell? ⟨w.heap.size, 2, none⟩ = some (.int .i64 0) ∧ wr.cell? ⟨w.heap.size, 3, none⟩ = some (.int .i64 0) ∧ wr.frozen? ⟨w.heap.size, 0, none⟩ = false ∧ wr.frozen? ⟨w.heap.size, 1, none⟩ = false ∧ wr.frozen? ⟨w.heap.size, 2, none⟩ = false ∧ wr.frozen? ⟨w.heap.size, 3, none⟩ = false) ∧ ∀ j (_ : j < l.length), j < k → (l[j].id == id) = false) (fun i _ => l.length - (intOf i).toNat)
 case atStart => exact ⟨0, Nat.zero_le _, rfl, tB, by simp [go_sem], fun j _ h => absurd h (by omega)⟩
 case round =>
  obtain ⟨k, hk, rfl, hbl, ⟨g0, g1, g2, g3, f0, f1, f2, f3⟩, hno⟩ := hrel
  have Hbl := hid hbl
  have Hno := hid hno
  have hz := hbl.size
  clear hbl hno
  by_cases hlt : k < l.length
  ·obtain ⟨b, o, rfl, hb, hc⟩ := Hr.out k (encMb l[k]) (by simp [hlt])
   have c0 := tC Hbl hb (hc 0 _ rfl)
   have c1 := tC Hbl hb (hc 1 _ rfl)
   have c2 := tC Hbl hb (hc 2 _ rfl)
   have c3 := tC Hbl hb (hc 3 _ rfl)
   simp only [Nat.add_zero] at c0
   clear hc
   cases hm : (l[k].id == id)
   ·have Hm := hid hm
    go_wp2_with fail
    go_roundw
    case rel => exact ⟨k + 1, by omega, by go_num, Hbl.out, ⟨g0, g1, g2, g3, f0, f1, f2, f3⟩, fun j hj h => by
     rcases Nat.lt_or_ge j k with h1 | h1
     ·exact Hno.out j hj h1
     ·obtain rfl : j = k := by omega
      exact Hm.out⟩
    case measure => simp [intOf]; omega
   ·have hi := findMb_hit hlt hm Hno.out
    have Hi := hid hi
    clear hi
    go_wp2_with fail
    rw [Hi.out]
    have hbl := Hbl.out
    refine bodyPost_ret (by simp [results, Tryz.results40, go_sem, g0, g1, g2, g3]; try rfl) rfl ⟨rfl, ?_⟩
    exact tB
  ·have hi := findMb_miss (l := l) (fun j hj => Hno.out j hj (by omega))
   have Hi := hid hi
   clear hi
   go_wp2_with fail
   rw [Hi.out]
   have hbl := Hbl.out
   refine bodyPost_ret (by simp [results, Tryz.results40, go_sem, g0, g1, g2, g3]; try rfl) rfl ⟨rfl, ?_⟩
   exact tB
end Go.Proofs.YtalgfpegaobacaaGreatDoor
