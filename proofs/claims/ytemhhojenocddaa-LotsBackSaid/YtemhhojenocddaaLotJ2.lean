/- Lots: contracts of lots.Join and of the reference's Join. -/
import Derived.Test.YtemhhojenocddaaLotJ1
import Derived.Test.YtemhhojenocddaaLotL2
namespace Go.Proofs.Ytemhhojenocddaa
open Go.RowKit
/-- One lot put behind the other; the first that cannot be put tells why. -/
def joinF : List Lot → List Lot → List Lot × Int
  | out, [] => (out, 0)
  | out, x :: t => if putLC out x = 0 then joinF (putLL out x) t else ([], putLC out x)
theorem putLL_in {l : List Lot} {x : Lot} (h : ∀ y ∈ l, In64 y.qty) (hx : In64 x.qty) : ∀ y ∈ putLL l x, In64 y.qty := by
  unfold putLL
  split
  · rename_i h0
    split
    · rename_i ht
      intro y hy
      rcases List.mem_or_eq_of_mem_set hy with hy | rfl
      · exact h y hy
      · unfold putLC at h0
        rw [ht] at h0
        simp only [if_true] at h0
        split at h0
        · split at h0
          · rename_i h64; exact in64_iff.1 h64
          · simp at h0
        · rename_i hc; exact absurd h0 hc
    · intro y hy
      rcases List.mem_append.1 hy with hy | hy
      · exact h y (List.mem_of_mem_take hy)
      · rcases List.mem_cons.1 hy with rfl | hy
        · exact hx
        · exact h y (List.mem_of_mem_drop hy)
  · simp
set_option maxRecDepth 100000 in
set_option maxHeartbeats 8000000 in
theorem lotJoin (ls : List (List Lot)) (A : Option Addr) (c : Nat) (w : World) (hl : ls.length ≤ 1048576) (hn : ls.flatten.length ≤ 400000) (hin : ∀ y ∈ ls.flatten, In64 y.qty) (hr : RsS 3 encLot w ls A c) :
    Calls Try.prog 54 #[.slice A ls.length c] w (LotsPost w (joinF [] ls.flatten).1 (joinF [] ls.flatten).2) := by
  have HR := Lib.hid hr
  have CC := Lib.hid (fun W (h : Below w.heap.size w W) => lotConcat ls A c W hl (by omega) (hr.keep h))
  clear hr
  generalize ls.flatten = m at *
  have HN := Lib.hid hn
  have HIN := Lib.hid hin
  clear hn hin
  go_enter Try.func54, Try.ntmps54
  go_wp2_with (first | (go_at_call 88; (with_reducible refine (CC.out _ (by (repeat' (first | (with_reducible exact Below.refl _ _) | (with_reducible assumption) | (with_reducible refine Below.alloc ?_ ?_ _) | (with_reducible refine Below.setCell ?_ ?_ _) | (with_reducible refine Below.drew ?_) | (with_reducible refine below_drewN ?_ _) | (with_reducible refine below_via ?_ (by with_reducible assumption) ?_) | omega | (simp; done) | (simp; omega))))).mono ?_); rintro e w1 ⟨v1, rfl, hown1, hb1⟩; have HO1 := Lib.hid hown1; clear hown1; obtain ⟨fc1, fg1, hc1, hf1, hz1⟩ := bget hb1; (try simp at hz1); obtain ⟨A1, c1, hv1, hrs1, _⟩ := HO1.out.rs; rw [List.length_map] at hv1; subst hv1; have HR1 := Lib.hid hrs1; clear hrs1) | fail)
  have Hb1 := Lib.hid (show Below w.heap.size w w1 from by (repeat' (first | (with_reducible exact Below.refl _ _) | (with_reducible assumption) | (with_reducible refine Below.alloc ?_ ?_ _) | (with_reducible refine Below.setCell ?_ ?_ _) | (with_reducible refine Below.drew ?_) | (with_reducible refine below_drewN ?_ _) | (with_reducible refine below_via ?_ (by with_reducible assumption) ?_) | omega | (simp; done) | (simp; omega))))
  go_loopw [4, 12] (fun s i wr => ∃ (k : Nat) (out : List Lot), k ≤ m.length ∧ i = .int .i64 k ∧ out.length ≤ k ∧ (∀ y ∈ out, In64 y.qty) ∧ joinF [] m = joinF out (m.drop k) ∧ Own wr w.heap.size 58 3 s (out.map encLot) ∧ Below w1.heap.size w1 wr) (fun _ i _ => m.length - (intOf i).toNat)
  case atStart => exact ⟨0, [], Nat.zero_le _, rfl, Nat.le_refl _, by simp, rfl, Own.nil _ _ _ _, Below.refl _ _⟩
  case round =>
    obtain ⟨k, out, hk, rfl, hol, hoi, hj, hown, hbl⟩ := hrel
    have Hbl := Lib.hid hbl
    have hz := hbl.size
    have hz1 := Hb1.out.size
    have HJ := Lib.hid hj
    have hn := HN.out
    have hln : out.length ≤ 400000 := by omega
    obtain ⟨A2, c2, hv2, hrs2, _⟩ := hown.rs
    rw [List.length_map] at hv2
    subst hv2
    have HRS := Lib.hid hrs2
    have HOW := Lib.hid hown
    clear hbl hj hrs2 hown
    by_cases hlt : k < m.length
    · have kl : (k : Int) < (m.length : Int) := by omega
      have dl : decide ((k : Int) < (m.length : Int)) = true := by simpa using hlt
      have HX := HIN.out m[k] (List.getElem_mem hlt)
      have CP := Lib.hid (fun W A c (h : Rs W 3 (out.map encLot) A c) => lotPut out m[k] A c W (by omega) hoi HX h)
      have hd := drop_cons' hlt
      have HJ2 := HJ.out
      rw [hd] at HJ2
      have hpl := putLL_len out m[k]
      have hpi := putLL_in (l := out) (x := m[k]) hoi HX
      obtain ⟨b, o, rfl, hb, hc⟩ := HR1.out.rd k (encLot m[k]) (by simp [hlt])
      have e0 := (Hbl.out.cell (p := ⟨b, o + k * 3 + 0, none⟩) hb).trans (hc 0 _ rfl)
      have e1 := (Hbl.out.cell (p := ⟨b, o + k * 3 + 1, none⟩) hb).trans (hc 1 _ rfl)
      have e2 := (Hbl.out.cell (p := ⟨b, o + k * 3 + 2, none⟩) hb).trans (hc 2 _ rfl)
      simp only [Nat.add_zero] at e0
      clear hc hd
      have hbw : b < wr.heap.size := by omega
      cases hq : decide (putLC out m[k] = 0)
      · have hne : ¬ putLC out m[k] = 0 := of_decide_eq_false hq
        have HJ3 := Lib.hid (show joinF [] m = ([], putLC out m[k]) from by rw [HJ2]; unfold joinF; rw [if_neg hne])
        clear HJ2 hpl hpi hq
        generalize putLL out m[k] = pl at *
        generalize putLC out m[k] = pc at *
        go_wp2_with (first | (go_at_call 46; (with_reducible refine (CP.out _ _ _ (HRS.out.keep (by (repeat' (first | (with_reducible exact Below.refl _ _) | (with_reducible assumption) | (with_reducible refine Below.alloc ?_ ?_ _) | (with_reducible refine Below.setCell ?_ ?_ _) | (with_reducible refine Below.drew ?_) | (with_reducible refine below_drewN ?_ _) | (with_reducible refine below_via ?_ (by with_reducible assumption) ?_) | omega | (simp; done) | (simp; omega)))))).mono ?_); intro e w5 hp; obtain ⟨v5, rfl, hown5, hb5⟩ := hp; have HO5 := Lib.hid hown5; clear hown5; obtain ⟨fc5, fg5, hc5, hf5, hz5⟩ := bget hb5; (try simp at hz5)) | fail)
        go_ret2
        exact ⟨_, by rw [HJ3.out]; rfl, by rw [HJ3.out]; exact Own.nil _ _ _ _, by have h1 := Hb1.out; have h2 := Hbl.out; (repeat' (first | (with_reducible exact Below.refl _ _) | (with_reducible assumption) | (with_reducible refine Below.alloc ?_ ?_ _) | (with_reducible refine Below.setCell ?_ ?_ _) | (with_reducible refine Below.drew ?_) | (with_reducible refine below_drewN ?_ _) | (with_reducible refine below_via ?_ (by with_reducible assumption) ?_) | omega | (simp; done) | (simp; omega)))⟩
      · have h0 : putLC out m[k] = 0 := of_decide_eq_true hq
        have HJ3 := Lib.hid (show joinF [] m = joinF (putLL out m[k]) (m.drop (k + 1)) from by rw [HJ2]; conv => lhs; unfold joinF; rw [if_pos h0])
        have HPI := Lib.hid hpi
        rw [h0] at CP
        clear HJ2 hq h0 hpi
        generalize putLL out m[k] = pl at *
        go_wp2_with (first | (go_at_call 46; (with_reducible refine (CP.out _ _ _ (HRS.out.keep (by (repeat' (first | (with_reducible exact Below.refl _ _) | (with_reducible assumption) | (with_reducible refine Below.alloc ?_ ?_ _) | (with_reducible refine Below.setCell ?_ ?_ _) | (with_reducible refine Below.drew ?_) | (with_reducible refine below_drewN ?_ _) | (with_reducible refine below_via ?_ (by with_reducible assumption) ?_) | omega | (simp; done) | (simp; omega)))))).mono ?_); intro e w5 hp; obtain ⟨v5, rfl, hown5, hb5⟩ := hp; have HO5 := Lib.hid hown5; clear hown5; obtain ⟨fc5, fg5, hc5, hf5, hz5⟩ := bget hb5; (try simp at hz5)) | fail)
        go_roundw
        case rel => exact ⟨k + 1, pl, by omega, by go_num, by omega, HPI.out, HJ3.out, HO5.out.mono (by first | omega | (simp; omega)), by have h2 := Hbl.out; (repeat' (first | (with_reducible exact Below.refl _ _) | (with_reducible assumption) | (with_reducible refine Below.alloc ?_ ?_ _) | (with_reducible refine Below.setCell ?_ ?_ _) | (with_reducible refine Below.drew ?_) | (with_reducible refine below_drewN ?_ _) | (with_reducible refine below_via ?_ (by with_reducible assumption) ?_) | omega | (simp; done) | (simp; omega)))⟩
        case measure => simp [intOf]; omega
    · have dl : decide ((k : Int) < (m.length : Int)) = false := by simpa using hlt
      have HJ3 := Lib.hid (show joinF [] m = (out, 0) from by rw [HJ.out, List.drop_eq_nil_of_le (by omega)]; rfl)
      go_wp2_with fail
      go_ret2
      exact ⟨_, by rw [HJ3.out]; rfl, by rw [HJ3.out]; exact HOW.out, by have h1 := Hb1.out; have h2 := Hbl.out; (repeat' (first | (with_reducible exact Below.refl _ _) | (with_reducible assumption) | (with_reducible refine Below.alloc ?_ ?_ _) | (with_reducible refine Below.setCell ?_ ?_ _) | (with_reducible refine Below.drew ?_) | (with_reducible refine below_drewN ?_ _) | (with_reducible refine below_via ?_ (by with_reducible assumption) ?_) | omega | (simp; done) | (simp; omega)))⟩
set_option maxRecDepth 100000 in
set_option maxHeartbeats 8000000 in
theorem ref18Join (ls : List (List Lot)) (A : Option Addr) (c : Nat) (w : World) (hl : ls.length ≤ 1048576) (hn : ls.flatten.length ≤ 400000) (hin : ∀ y ∈ ls.flatten, In64 y.qty) (hr : RsS 3 encLot w ls A c) :
    Calls Try.prog 55 #[.slice A ls.length c] w (LotsPost w (joinF [] ls.flatten).1 (joinF [] ls.flatten).2) := by
  have HR := Lib.hid hr
  have HN := Lib.hid hn
  have HIN := Lib.hid hin
  have HL := Lib.hid hl
  clear hr hn hin hl
  go_enter Try.func55, Try.ntmps55
  go_wp2_with fail
  go_loopw [4, 5] (fun s i wr => ∃ (k : Nat) (out : List Lot), k ≤ ls.length ∧ i = .int .i64 k ∧ out.length + (ls.drop k).flatten.length ≤ 400000 ∧ (∀ y ∈ out, In64 y.qty) ∧ joinF [] ls.flatten = joinF out (ls.drop k).flatten ∧ Own wr w.heap.size 58 3 s (out.map encLot) ∧ Below w.heap.size w wr) (fun _ i _ => ls.length - (intOf i).toNat)
  case atStart => exact ⟨0, [], Nat.zero_le _, rfl, by have := HN.out; simp only [List.length_nil, List.drop_zero]; omega, by simp, rfl, Own.nil _ _ _ _, Below.refl _ _⟩
  case round =>
    obtain ⟨k, out, hk, rfl, hol, hoi, hj, hown, hbl⟩ := hrel
    have HOI := Lib.hid hoi
    have Hbl := Lib.hid hbl
    have hz := hbl.size
    have HJ := Lib.hid hj
    have HOW := Lib.hid hown
    have hl := HL.out
    clear hbl hj hown hoi
    by_cases hlt : k < ls.length
    · have kl : (k : Int) < (ls.length : Int) := by omega
      have dl : decide ((k : Int) < (ls.length : Int)) = true := by simpa using hlt
      have hdf : (ls.drop k).flatten = ls[k] ++ (ls.drop (k + 1)).flatten := by rw [drop_cons' hlt, List.flatten_cons]
      have HDF := Lib.hid hdf
      have hll : out.length + (ls[k].length + (ls.drop (k + 1)).flatten.length) ≤ 400000 := by rw [hdf, List.length_append] at hol; exact hol
      have HMI := Lib.hid (fun y (hy : y ∈ ls[k]) => HIN.out y (List.mem_flatten.2 ⟨_, List.getElem_mem hlt, hy⟩))
      obtain ⟨b0, o0, B, d, rfl, hb0, hq0, hrk⟩ := HR.out.row hlt
      have HQ := Lib.hid hq0
      have HRK := Lib.hid hrk
      have HJK := Lib.hid (show joinF [] ls.flatten = joinF out (ls[k] ++ (ls.drop (k + 1)).flatten) from by rw [← HDF.out]; exact HJ.out)
      clear hdf hol hq0 hrk
      generalize hrest : (ls.drop (k + 1)).flatten = rest at *
      have HDR := Lib.hid hrest
      clear hrest
      generalize ls[k] = m at *
      go_wp2_with fail
      go_loopw [4, 6] (fun s i wr => ∃ (j : Nat) (out : List Lot), j ≤ m.length ∧ i = .int .i64 j ∧ out.length + ((m.drop j).length + rest.length) ≤ 400000 ∧ (∀ y ∈ out, In64 y.qty) ∧ joinF [] ls.flatten = joinF out (m.drop j ++ rest) ∧ Own wr w.heap.size 58 3 s (out.map encLot) ∧ Below w.heap.size w wr) (fun _ i _ => m.length - (intOf i).toNat)
      case atStart => exact ⟨0, out, Nat.zero_le _, rfl, by rw [List.drop_zero]; exact hll, HOI.out, by rw [List.drop_zero]; exact HJK.out, HOW.out, Hbl.out⟩
      case round =>
        obtain ⟨j, out, hj, rfl, hol, hoi, hjj, hown, hbl2⟩ := hrel
        have Hbl2 := Lib.hid hbl2
        have hz2 := hbl2.size
        have HJJ := Lib.hid hjj
        obtain ⟨A2, c2, hv2, hrs2, _⟩ := hown.rs
        rw [List.length_map] at hv2
        subst hv2
        have HRS := Lib.hid hrs2
        have HOW2 := Lib.hid hown
        have q0 := (Hbl2.out.cell (p := ⟨b0, o0 + k, none⟩) hb0).trans HQ.out
        have hbw0 : b0 < wr.heap.size := by omega
        clear hbl2 hjj hrs2 hown
        by_cases hlj : j < m.length
        · have jl : (j : Int) < (m.length : Int) := by omega
          have dj : decide ((j : Int) < (m.length : Int)) = true := by simpa using hlj
          have hd := drop_cons' hlj
          have HX := HMI.out m[j] (List.getElem_mem hlj)
          have hdl : (m.drop j).length = (m.drop (j + 1)).length + 1 := by rw [hd, List.length_cons]
          have CP := Lib.hid (fun W A c (h : Rs W 3 (out.map encLot) A c) => ref18Put out m[j] A c W (by omega) hoi HX h.rd)
          have HJ2 := HJJ.out
          rw [hd, List.cons_append] at HJ2
          have hpl := putLL_len out m[j]
          have hpi := putLL_in (l := out) (x := m[j]) hoi HX
          obtain ⟨b, o, rfl, hb, hc⟩ := HRK.out.rd j (encLot m[j]) (by simp [hlj])
          have e0 := (Hbl2.out.cell (p := ⟨b, o + j * 3 + 0, none⟩) hb).trans (hc 0 _ rfl)
          have e1 := (Hbl2.out.cell (p := ⟨b, o + j * 3 + 1, none⟩) hb).trans (hc 1 _ rfl)
          have e2 := (Hbl2.out.cell (p := ⟨b, o + j * 3 + 2, none⟩) hb).trans (hc 2 _ rfl)
          simp only [Nat.add_zero] at e0
          have hol2 : out.length + 1 + ((m.drop (j + 1)).length + rest.length) ≤ 400000 := by omega
          clear hc hd hdl hol
          have hbw : b < wr.heap.size := by omega
          cases hq : decide (putLC out m[j] = 0)
          · have hne : ¬ putLC out m[j] = 0 := of_decide_eq_false hq
            have HJ3 := Lib.hid (show joinF [] ls.flatten = ([], putLC out m[j]) from by rw [HJ2]; conv => lhs; unfold joinF; rw [if_neg hne])
            clear HJ2 hpl hpi hq hol2
            generalize putLL out m[j] = pl at *
            generalize putLC out m[j] = pc at *
            go_wp2_with (first | (go_at_call 47; (with_reducible refine (CP.out _ _ _ (HRS.out.keep (by (repeat' (first | (with_reducible exact Below.refl _ _) | (with_reducible assumption) | (with_reducible refine Below.alloc ?_ ?_ _) | (with_reducible refine Below.setCell ?_ ?_ _) | (with_reducible refine Below.drew ?_) | (with_reducible refine below_drewN ?_ _) | (with_reducible refine below_via ?_ (by with_reducible assumption) ?_) | omega | (simp; done) | (simp; omega)))))).mono ?_); intro e w5 hp; obtain ⟨v5, rfl, hown5, hb5⟩ := hp; have HO5 := Lib.hid hown5; clear hown5; obtain ⟨fc5, fg5, hc5, hf5, hz5⟩ := bget hb5; (try simp at hz5)) | fail)
            go_ret2
            exact ⟨_, by rw [HJ3.out]; rfl, by rw [HJ3.out]; exact Own.nil _ _ _ _, by have h2 := Hbl2.out; (repeat' (first | (with_reducible exact Below.refl _ _) | (with_reducible assumption) | (with_reducible refine Below.alloc ?_ ?_ _) | (with_reducible refine Below.setCell ?_ ?_ _) | (with_reducible refine Below.drew ?_) | (with_reducible refine below_drewN ?_ _) | (with_reducible refine below_via ?_ (by with_reducible assumption) ?_) | omega | (simp; done) | (simp; omega)))⟩
          · have h0 : putLC out m[j] = 0 := of_decide_eq_true hq
            have HJ3 := Lib.hid (show joinF [] ls.flatten = joinF (putLL out m[j]) (m.drop (j + 1) ++ rest) from by rw [HJ2]; conv => lhs; unfold joinF; rw [if_pos h0])
            have HPI := Lib.hid hpi
            have HLE := Lib.hid (show (putLL out m[j]).length + ((m.drop (j + 1)).length + rest.length) ≤ 400000 from by omega)
            rw [h0] at CP
            clear HJ2 hq h0 hpi hpl hol2
            generalize putLL out m[j] = pl at *
            go_wp2_with (first | (go_at_call 47; (with_reducible refine (CP.out _ _ _ (HRS.out.keep (by (repeat' (first | (with_reducible exact Below.refl _ _) | (with_reducible assumption) | (with_reducible refine Below.alloc ?_ ?_ _) | (with_reducible refine Below.setCell ?_ ?_ _) | (with_reducible refine Below.drew ?_) | (with_reducible refine below_drewN ?_ _) | (with_reducible refine below_via ?_ (by with_reducible assumption) ?_) | omega | (simp; done) | (simp; omega)))))).mono ?_); intro e w5 hp; obtain ⟨v5, rfl, hown5, hb5⟩ := hp; have HO5 := Lib.hid hown5; clear hown5; obtain ⟨fc5, fg5, hc5, hf5, hz5⟩ := bget hb5; (try simp at hz5)) | fail)
            go_roundw
            case rel => exact ⟨j + 1, pl, by omega, by go_num, HLE.out, HPI.out, HJ3.out, HO5.out.mono (by first | omega | (simp; omega)), by have h2 := Hbl2.out; (repeat' (first | (with_reducible exact Below.refl _ _) | (with_reducible assumption) | (with_reducible refine Below.alloc ?_ ?_ _) | (with_reducible refine Below.setCell ?_ ?_ _) | (with_reducible refine Below.drew ?_) | (with_reducible refine below_drewN ?_ _) | (with_reducible refine below_via ?_ (by with_reducible assumption) ?_) | omega | (simp; done) | (simp; omega)))⟩
            case measure => simp [intOf]; omega
        · have dj : decide ((j : Int) < (m.length : Int)) = false := by simpa using hlj
          have hmd : m.drop j = [] := List.drop_eq_nil_of_le (by omega)
          have HJ3 := Lib.hid (show joinF [] ls.flatten = joinF out rest from by rw [HJJ.out, hmd, List.nil_append])
          have hol2 : out.length + rest.length ≤ 400000 := by omega
          have HOI2 := Lib.hid hoi
          clear hmd hoi
          go_wp2_with fail
          go_roundw
          case rel => exact ⟨k + 1, out, by omega, by go_num, by rw [HDR.out]; exact hol2, HOI2.out, by rw [HDR.out]; exact HJ3.out, HOW2.out, Hbl2.out⟩
          case measure => simp [intOf]; omega
    · have dl : decide ((k : Int) < (ls.length : Int)) = false := by simpa using hlt
      have HJ3 := Lib.hid (show joinF [] ls.flatten = (out, 0) from by rw [HJ.out, List.drop_eq_nil_of_le (by omega)]; rfl)
      go_wp2_with fail
      go_ret2
      exact ⟨_, by rw [HJ3.out]; rfl, by rw [HJ3.out]; exact HOW.out, by have h2 := Hbl.out; (repeat' (first | (with_reducible exact Below.refl _ _) | (with_reducible assumption) | (with_reducible refine Below.alloc ?_ ?_ _) | (with_reducible refine Below.setCell ?_ ?_ _) | (with_reducible refine Below.drew ?_) | (with_reducible refine below_drewN ?_ _) | (with_reducible refine below_via ?_ (by with_reducible assumption) ?_) | omega | (simp; done) | (simp; omega)))⟩
end Go.Proofs.Ytemhhojenocddaa
