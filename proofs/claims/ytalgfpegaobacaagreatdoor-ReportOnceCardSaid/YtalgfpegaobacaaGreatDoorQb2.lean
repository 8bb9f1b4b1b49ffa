/- Joined. -/
import Derived.Test.YtalgfpegaobacaaGreatDoorQz11
import Derived.Test.YtalgfpegaobacaaGreatDoorQb1
namespace Go.Proofs.YtalgfpegaobacaaGreatDoor
set_option linter.all false
set_option maxHeartbeats 8000000
set_option maxRecDepth 100000
open Go.RowKit
open Lib (hid)
theorem ref15Has (x : Acct) (u : Un) (A : Option Addr) (c : Nat) (w : World) (hl : x.clients.length ≤ 1000000) (hr : Rd w A 1 (x.clients.map encI)) :
  Calls Tryz.prog 90 #[.agg #[.int .i64 x.id, .int .i64 x.member, .int .i64 x.kind, .slice A x.clients.length c], .agg #[.int .i64 u.acc, .int .i64 u.cli]] w fun e w' => e = .returned (.bool (hasA x u)) ∧ Below w.heap.size w w' := by
 have HR := hid hr
 have hul := units_len x
 have C1 := hid (fun W h => ref15Units x A c W (by omega) h)
 have HU : hasA x u = decide (u ∈ unitsA x) := rfl
 rw [HU]
 clear hr HU
 generalize unitsA x = l at *
 go_enter Tryz.func90, Tryz.ntmps90
 go_wp2_with (first | (go_at_call 34; (with_reducible refine (C1.out _ (HR.out.keep tB)).mono ?_); rintro e w1 ⟨_, rfl, ⟨A1, c1, rfl, hrs1⟩, hb1⟩; have HS1 := hid hrs1.rd; clear hrs1; obtain ⟨fc1, fg1, hc1, hf1, hz1⟩ := bget hb1; (try simp at hz1)) | fail)
 have k0 : w1.cell? ⟨w.heap.size + 1, 0, none⟩ = some (.int .i64 u.acc) := by simp [hc1, go_sem, ↓IntWalk.iteOmega]
 have k1 : w1.cell? ⟨w.heap.size + 1, 1, none⟩ = some (.int .i64 u.cli) := by simp [hc1, go_sem, ↓IntWalk.iteOmega]
 have hb0 : Below w.heap.size w w1 := by exact tB
 have Hb0 := hid hb0
 clear hb0 hb1 hc1 hf1
 go_loopw [6] (fun i wr => ∃ k : Nat, k ≤ l.length ∧ i = .int .i64 k ∧ (∃ n, wr = w1.drewN n) ∧ ∀ j (_ : j < l.length), j < k → ¬ l[j] = u) (fun i _ => l.length - (intOf i).toNat)
 case atStart => exact ⟨0, Nat.zero_le _, rfl, ⟨0, rfl⟩, fun j _ h => absurd h (by omega)⟩
 case round =>
  obtain ⟨k, hk, rfl, ⟨nn, rfl⟩, hno⟩ := hrel
  have Hno := hid hno
  clear hno
  by_cases hlt : k < l.length
  ·have kl : (k : Int) < (l.length : Int) := by omega
   have dl := @dT k l.length hlt
   obtain ⟨b, o, rfl, hb, hc⟩ := HS1.out k (encUn l[k]) (by simp [hlt])
   have c0 := hc 0 _ rfl
   have c1 := hc 1 _ rfl
   simp only [Nat.add_zero] at c0
   clear hc
   rcases un_test (x := l[k]) (u := u) with he | he | he
   ·have HM := hid (decide_eq_true (show u ∈ l from by rw [← he]; exact List.getElem_mem hlt))
    rw [he] at c0 c1
    clear he
    go_wp2_with fail
    go_quiet (fail)
    go_wp2_with fail
    go_ret
    exact ⟨by rw [HM.out]; rfl, by have hbl := Hb0.out; exact tB⟩
   all_goals
    have Hm := hid (show ¬ l[k] = u from by intro e; rw [e] at he; simp at he)
    go_wp2_with fail
    go_quiet (fail)
    go_wp2_with fail
    go_roundw
    case rel => exact ⟨k + 1, by omega, by go_num, ⟨_, rfl⟩, fun j hj h => by
     rcases Nat.lt_or_ge j k with h1 | h1
     ·exact Hno.out j hj h1
     ·obtain rfl : j = k := by omega
      exact Hm.out⟩
    case measure => simp [intOf]; omega
  ·have dl := @dF k l.length hlt
   have HM := hid (decide_eq_false (show ¬ u ∈ l from fun hu => by
    obtain ⟨j, hj, e⟩ := List.mem_iff_getElem.1 hu
    exact Hno.out j hj (by omega) e))
   go_wp2_with fail
   go_ret
   exact ⟨by rw [HM.out]; rfl, by have hbl := Hb0.out; exact tB⟩
theorem ref15HasV (x : AcctV) (u : Un) (w : World) (hl : x.clients.val.length ≤ 1000000) (hg : GoodA w x) :
  Calls Tryz.prog 90 #[.agg #[.int .i64 x.id, .int .i64 x.member, .int .i64 x.kind, .slice x.clients.A x.clients.val.length x.clients.c], .agg #[.int .i64 u.acc, .int .i64 u.cli]] w fun e w' => e = .returned (.bool (hasA (lgA x) u)) ∧ Below w.heap.size w w' :=
 ref15Has (lgA x) u x.clients.A x.clients.c w hl hg.rd
end Go.Proofs.YtalgfpegaobacaaGreatDoor
