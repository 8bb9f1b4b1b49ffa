/- Contracts of vec.Neg, Gross, With, Same. -/
import Derived.Test.YtffmljkpbgohkaaVec2
import Derived.Outline
namespace Go.Proofs.Ytffmljkpbgohkaa
open Go.RowKit
/-- The legs on the other side, or that one leaves 64 bits. -/
def negC (l : List Leg) : Int := if isV l then (if l.all (fun x => in64 (0 - x.qty)) then 0 else 7) else 3
def negR (l : List Leg) : List Leg := l.map fun x => ⟨x.inst, 0 - x.qty⟩
def negL (l : List Leg) : List Leg := if isV l then (if l.all (fun x => in64 (0 - x.qty)) then negR l else []) else []
set_option maxRecDepth 100000 in
set_option maxHeartbeats 4000000 in
theorem vecNeg (l : List Leg) (A : Option Addr) (c : Nat) (w : World) (hl : l.length ≤ 1099511627776) (h64 : Legs64 l) (hr : Rd w A 2 (l.map encLeg)) :
    Calls Try.prog 38 #[.slice A l.length c] w (LegsPost w (negC l) (negL l)) := by
  have HR := Lib.hid hr
  have H64 := Lib.hid h64
  have c1 := fun W (h : Rd W A 2 (l.map encLeg)) => vecNone l A c W hl h
  clear hr h64
  cases hv : isV l
  · rw [hv] at c1
    have HC := Lib.hid (show negC l = 3 from by unfold negC; rw [hv]; rfl)
    have HA := Lib.hid (show negL l = [] from by unfold negL; rw [hv]; rfl)
    have C1 := Lib.hid c1
    clear c1 hv
    go_enter Try.func38, Try.ntmps38
    go_wp2_with (go_at_call 59; (with_reducible refine (C1.out _ HR.out).mono ?_); rintro e w1 ⟨rfl, hb1⟩; obtain ⟨fc1, fg1, hc1, hf1, hz1⟩ := bget hb1; try simp at hz1)
    go_ret2
    exact ⟨_, by rw [HC.out]; rfl, by rw [HA.out]; exact Own.nil _ _ _ _, by (repeat' (first | (with_reducible exact Below.refl _ _) | (with_reducible assumption) | (with_reducible refine Below.alloc ?_ ?_ _) | (with_reducible refine Below.setCell ?_ ?_ _) | (with_reducible refine Below.drew ?_) | (with_reducible refine below_drewN ?_ _) | (with_reducible refine below_via ?_ (by with_reducible assumption) ?_) | omega | (simp; done) | (simp; omega)))⟩
  rw [hv] at c1
  have HC := Lib.hid (show negC l = if l.all (fun x => in64 (0 - x.qty)) then 0 else 7 from by unfold negC; rw [hv]; rfl)
  have HA := Lib.hid (show negL l = if l.all (fun x => in64 (0 - x.qty)) then negR l else [] from by unfold negL; rw [hv]; rfl)
  have C1 := Lib.hid c1
  clear c1 hv
  go_enter Try.func38, Try.ntmps38
  go_wp2_with (go_at_call 59; (with_reducible refine (C1.out _ HR.out).mono ?_); rintro e w1 ⟨rfl, hb1⟩; obtain ⟨fc1, fg1, hc1, hf1, hz1⟩ := bget hb1; try simp at hz1)
  have Hb1 := Lib.hid hb1
  clear hc1 hf1 hb1
  go_loopw [4, 13] (fun v i wr => ∃ k : Nat, k ≤ l.length ∧ i = .int .i64 k ∧ l.all (fun x => in64 (0 - x.qty)) = (l.drop k).all (fun x => in64 (0 - x.qty)) ∧ Own wr w.heap.size 56 2 v ((negR (l.take k)).map encLeg) ∧ Below w.heap.size w wr) (fun _ i _ => l.length - (intOf i).toNat)
  case atStart => exact ⟨0, Nat.zero_le _, rfl, rfl, Own.nil _ _ _ _, Hb1.out⟩
  case round =>
    obtain ⟨k, hk, rfl, hv, hown, hbl⟩ := hrel
    have Hown := Lib.hid hown
    clear hown
    have Hbl := Lib.hid hbl
    have HV := Lib.hid hv
    have hz := hbl.size
    clear hbl hv
    by_cases hlt : k < l.length
    · obtain ⟨be, oe, rfl, hbe, hqe⟩ := HR.out k (encLeg l[k]) (by simp [hlt])
      replace hqe := fun j v hv => (Hbl.out.cell (p := ⟨be, oe + k * 2 + j, none⟩) hbe).trans (hqe j v hv)
      have e0 := hqe 0 _ rfl
      have e1 := hqe 1 _ rfl
      simp only [Nat.add_zero] at e0
      clear hqe
      have HD := Lib.hid (drop_cons' hlt)
      have hq := H64.out l[k] (List.getElem_mem hlt)
      have HS : Hid ((negR (l.take (k + 1))).map encLeg = (negR (l.take k)).map encLeg ++ [encLeg ⟨l[k].inst, 0 - l[k].qty⟩]) := by
        unfold Hid negR; rw [map_snoc hlt]; simp
      have hlen : ((negR (l.take k)).map encLeg).length ≤ k := by unfold negR; simp; omega
      have hz64 : In64 0 := by unfold In64; omega
      cases hm : in64 (0 - l[k].qty)
      · have HM := Lib.hid (in64_no hm)
        have HN : Hid ((l[k] :: l.drop (k + 1)).all (fun x => in64 (0 - x.qty)) = false) := by unfold Hid; simp only [List.all_cons]; rw [hm]; rfl
        clear hm
        go_wp2_with (go_at_call 69; (with_reducible refine (fixSubNo 0 l[k].qty _ hz64 hq HM.out).mono ?_); rintro e w2 ⟨rfl, hb2⟩; have hz2 := hb2.size; have Hb2 := Lib.hid hb2; clear hb2)
        go_ret2
        exact ⟨_, by rw [HC.out, HV.out, HD.out, HN.out]; rfl, by rw [HA.out, HV.out, HD.out, HN.out]; exact Own.nil _ _ _ _, by (have hbl := Hbl.out; have hb2 := Hb2.out; (repeat' (first | (with_reducible exact Below.refl _ _) | (with_reducible assumption) | (with_reducible refine Below.alloc ?_ ?_ _) | (with_reducible refine Below.setCell ?_ ?_ _) | (with_reducible refine Below.drew ?_) | (with_reducible refine below_drewN ?_ _) | (with_reducible refine below_via ?_ (by with_reducible assumption) ?_) | omega | (simp; done) | (simp; omega))))⟩
      · have HM := Lib.hid (in64_iff.1 hm)
        have HN : Hid ((l[k] :: l.drop (k + 1)).all (fun x => in64 (0 - x.qty)) = (l.drop (k + 1)).all (fun x => in64 (0 - x.qty))) := by unfold Hid; simp only [List.all_cons]; rw [hm]; rfl
        clear hm
        obtain ⟨n, hn⟩ : ∃ n, n = 0 - l[k].qty := ⟨_, rfl⟩
        have c2 := fun W => fixSubYes 0 l[k].qty W hz64 hq HM.out
        rw [← hn] at HS c2
        have C2 := Lib.hid c2
        clear hn c2
        go_wp2_with (first | (go_at_call 69; (with_reducible refine (C2.out _).mono ?_); rintro e w2 ⟨rfl, hb2⟩; obtain ⟨fc2, fg2, hc2, hf2, hz2⟩ := bget hb2; (try simp at hz2); have Hb2 := Lib.hid hb2; clear hb2) | (at_builtin; refine wpList_app rfl _ _ _ rfl elLeg w.heap.size _ _ rfl (((Hown.out.alloc _).keep Hb2.out).alloc _) (some ⟨w2.heap.size, 0, none⟩) 1 1 rfl [encLeg ⟨l[k].inst, n⟩] rfl (fun h => by cases h) rd_one (rowsLeg [⟨l[k].inst, n⟩]) (by unfold maxLen; first | (simp; done) | omega | (simp; omega)) (by first | (simp; done) | omega | (simp; omega)) (by first | omega | (simp; done) | (simp; omega)) ?_; intro v' w3 hown3 hb3))
        go_roundw
        case rel => exact ⟨k + 1, by omega, by go_num, by rw [HV.out, HD.out, HN.out], by rw [HS.out]; exact hown3, by have hbl := Hbl.out; have hb2 := Hb2.out; (repeat' (first | (with_reducible exact Below.refl _ _) | (with_reducible assumption) | (with_reducible refine Below.alloc ?_ ?_ _) | (with_reducible refine Below.setCell ?_ ?_ _) | (with_reducible refine Below.drew ?_) | (with_reducible refine below_drewN ?_ _) | (with_reducible refine below_via ?_ (by with_reducible assumption) ?_) | omega | (simp; done) | (simp; omega)))⟩
        case measure => simp [intOf]; omega
    · have HD := Lib.hid (drop_all (l := l) (k := k) (by omega))
      have HT := Lib.hid (List.take_of_length_le (show l.length ≤ k by omega))
      go_wp2_with fail
      go_ret2
      exact ⟨_, by rw [HC.out, HV.out, HD.out]; rfl, by rw [HA.out, HV.out, HD.out, ← HT.out]; exact Hown.out, Hbl.out⟩
end Go.Proofs.Ytffmljkpbgohkaa
