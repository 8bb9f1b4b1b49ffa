/- Joined. -/
import Derived.Test.YtalgfpegaobacaaGreatDoorQz10
namespace Go.Proofs.YtalgfpegaobacaaGreatDoor
set_option linter.all false
set_option maxHeartbeats 4000000
set_option maxRecDepth 100000
open Go.RowKit
open Lib (hid)
theorem refGet11 (l : List Leg) (id : Int) (A : Option Addr) (c : Nat) (w : World) (hl : l.length ≤ 1099511627776) (hr : Rd w A 2 (l.map encLeg)) :
  Calls Tryz.prog 177 #[.slice A l.length c, .int .i64 id] w fun e w' => e = .returned (.int .i64 (getF id l)) ∧ Below w.heap.size w w' := by
 have HR := hid hr
 clear hr
 go_enter Tryz.func177, Tryz.ntmps177
 go_wp2_with fail
 go_loopw [5] (fun i wr => ∃ k : Nat, k ≤ l.length ∧ i = .int .i64 k ∧ getF id l = getF id (l.drop k) ∧ Below w.heap.size w wr) (fun i _ => l.length - (intOf i).toNat)
 case atStart => exact ⟨0, Nat.zero_le _, rfl, rfl, Below.refl _ _⟩
 case round =>
  obtain ⟨k, hk, rfl, hv, hbl⟩ := hrel
  have Hbl := hid hbl
  have HV := hid hv
  have hz := hbl.size
  clear hbl hv
  by_cases hlt : k < l.length
  ·obtain ⟨be, oe, rfl, hbe, hqe⟩ := HR.out k (encLeg l[k]) (by simp [hlt])
   replace hqe := fun j v hv => (Hbl.out.cell (p := ⟨be, oe + k * 2 + j, none⟩) hbe).trans (hqe j v hv)
   have e0 := hqe 0 _ rfl
   have e1 := hqe 1 _ rfl
   simp only [Nat.add_zero] at e0
   clear hqe
   have HD := hid (drop_cons' hlt)
   cases hq : (l[k].inst == id)
   ·have HN := hid (show getF id (l[k] :: l.drop (k + 1)) = getF id (l.drop (k + 1)) from by rw [getF, if_neg (by simpa using hq)])
    go_wp2_with fail
    go_roundw
    case rel => exact ⟨k + 1, by omega, by go_num, by rw [HV.out, HD.out, HN.out], by (have hbl := Hbl.out; exact tB)⟩
    case measure => simp [intOf]; omega
   ·have HN := hid (show getF id (l[k] :: l.drop (k + 1)) = l[k].qty from by rw [getF, if_pos (by simpa using hq)])
    go_wp2_with fail
    go_ret
    exact ⟨by rw [HV.out, HD.out, HN.out]; first | done | rfl, by (have hbl := Hbl.out; exact tB)⟩
  ·have HD := hid (drop_all (l := l) (k := k) (by omega))
   go_wp2_with fail
   go_ret
   exact ⟨by rw [HV.out, HD.out]; rfl, Hbl.out⟩
end Go.Proofs.YtalgfpegaobacaaGreatDoor
