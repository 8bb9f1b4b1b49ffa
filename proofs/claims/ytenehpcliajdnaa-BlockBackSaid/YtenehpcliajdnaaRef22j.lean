/- Groups: contract of the reference's Table. -/
import Derived.Test.YtenehpcliajdnaaRef22i
namespace Go.Proofs.Ytenehpcliajdnaa
open Go.RowKit
theorem good_bound {l : List Group} (h : GoodG l) : l.length ≤ 1000 ∧ (∀ x ∈ l, 0 ≤ x.id ∧ x.id ≤ 1000) ∧ ∀ g ∈ l, In64 g.left := by
  refine ⟨by have := h.1; omega, fun x hx => ?_, fun g hg => ?_⟩
  · obtain ⟨k, hk, rfl⟩ := List.getElem_of_mem hx
    have := h.2.1 k hk
    have := h.1
    omega
  · have := h.2.2 g hg
    unfold In64; omega
theorem tblG_step {out l : List Group} {k : Nat} (h : k < l.length) : tblG out (l.drop k) = tblG (if opC out l[k] = 0 then opL out l[k] else out) (l.drop (k + 1)) := by
  rw [drop_cons' h]; rfl
set_option maxRecDepth 100000 in
set_option maxHeartbeats 8000000 in
theorem ref22Table (l : List Group) (A : Option Addr) (c : Nat) (w : World) (hr : Rd w A 6 (l.map encGroup)) (hlm : l.length ≤ maxLen) :
    Calls Try.prog 22 #[.slice A l.length c] w fun e w' => ∃ v, e = .returned v ∧ Own w' w.heap.size 51 6 v ((tableG l).map encGroup) ∧ Below w.heap.size w w' := by
  have hml : (l.length : Int) ≤ 9223372036854775807 := by unfold maxLen at hlm; omega
  have HR := Lib.hid hr
  clear hr hlm
  go_enter Try.func22, Try.ntmps22
  go_wp2_with fail
  go_loopw [3, 4] (fun s i wr => ∃ (k : Nat) (out : List Group), k ≤ 70 ∧ k ≤ l.length ∧ i = .int .i64 k ∧ GoodG out ∧ tableG l = tblG out ((l.take 70).drop k) ∧ Own wr w.heap.size 51 6 s (out.map encGroup) ∧ Below w.heap.size w wr) (fun _ i _ => 70 - (intOf i).toNat)
  case atStart => exact ⟨0, [], by omega, Nat.zero_le _, rfl, good_nil, rfl, Own.nil _ _ _ _, Below.refl _ _⟩
  case round =>
    obtain ⟨k, out, hk70, hk, rfl, hg, ht, hown, hbl⟩ := hrel
    have Hbl := Lib.hid hbl
    have hz := hbl.size
    have HT := Lib.hid ht
    have HG := Lib.hid hg
    obtain ⟨A2, c2, hv2, hrs2, _⟩ := hown.rs
    rw [List.length_map] at hv2
    subst hv2
    have HRS := Lib.hid hrs2
    have HOW := Lib.hid hown
    obtain ⟨g1, g2, g3⟩ := good_bound hg
    have hol := hg.1
    clear hbl ht hg hrs2 hown g3
    by_cases hgo : k < l.length ∧ k < 70
    · obtain ⟨hlt, h70⟩ := hgo
      have kl : (k : Int) < (l.length : Int) := by omega
      have dl : decide ((k : Int) < (l.length : Int)) = true := by simpa using hlt
      have d70 : decide ((k : Int) < 70) = true := by simp; omega
      obtain ⟨b, o, rfl, hb, hc⟩ := HR.out k (encGroup l[k]) (by simp [hlt])
      have e0 := (Hbl.out.cell (p := ⟨b, o + k * 6 + 0, none⟩) hb).trans (hc 0 _ rfl)
      have e1 := (Hbl.out.cell (p := ⟨b, o + k * 6 + 1, none⟩) hb).trans (hc 1 _ rfl)
      have e2 := (Hbl.out.cell (p := ⟨b, o + k * 6 + 2, none⟩) hb).trans (hc 2 _ rfl)
      have e3 := (Hbl.out.cell (p := ⟨b, o + k * 6 + 3, none⟩) hb).trans (hc 3 _ rfl)
      have e4 := (Hbl.out.cell (p := ⟨b, o + k * 6 + 4, none⟩) hb).trans (hc 4 _ rfl)
      have e5 := (Hbl.out.cell (p := ⟨b, o + k * 6 + 5, none⟩) hb).trans (hc 5 _ rfl)
      simp only [Nat.add_zero] at e0
      have hbw : b < wr.heap.size := by omega
      have CP := Lib.hid (fun W A c h => ref22Open out l[k] A c W g1 g2 h)
      have hlk : k < (l.take 70).length := by rw [List.length_take]; omega
      have HT2 := Lib.hid (show tableG l = tblG (if opC out l[k] = 0 then opL out l[k] else out) ((l.take 70).drop (k + 1)) from by
        rw [HT.out, tblG_step hlk, List.getElem_take])
      clear hc g1 g2 hlk
      by_cases h0 : opC out l[k] = 0
      · have HN := Lib.hid (show GoodG (opL out l[k]) from (op_good HG.out h0).1)
        have HT3 := Lib.hid (show tableG l = tblG (opL out l[k]) ((l.take 70).drop (k + 1)) from by rw [HT2.out, if_pos h0])
        have CP2 := Lib.hid (fun W A c (h : Rs W 6 (out.map encGroup) A c) => show Calls Try.prog 29 #[.slice A out.length c, .agg #[.int .i64 l[k].id, .int .i64 l[k].unit.acc, .int .i64 l[k].unit.cli, .int .i64 l[k].inst, .int .i64 l[k].price, .int .i64 l[k].left]] W (fun e w' => ∃ v, e = .returned (.tuple #[v, .int .i64 (opN out l[k]), .int .i64 0]) ∧ Own w' W.heap.size 51 6 v ((opL out l[k]).map encGroup) ∧ Below W.heap.size W w') from by have := CP.out W A c h; unfold OpenPost at this; rw [h0] at this; exact this)
        clear CP HT2 h0
        have CP := CP2
        clear CP2
        generalize opL out l[k] = ol at *
        generalize opN out l[k] = on at *
        go_wp2_with (first | (go_at_call 29; (with_reducible refine (CP.out _ _ _ (HRS.out.keep (by (repeat' (first | (with_reducible exact Below.refl _ _) | (with_reducible assumption) | (with_reducible refine Below.alloc ?_ ?_ _) | (with_reducible refine Below.setCell ?_ ?_ _) | (with_reducible refine Below.drew ?_) | (with_reducible refine below_drewN ?_ _) | (with_reducible refine below_via ?_ (by with_reducible assumption) ?_) | omega | (simp; done) | (simp; omega)))))).mono ?_); intro e w5 hp; obtain ⟨v5, rfl, hown5, hb5⟩ := hp; have HO5 := Lib.hid hown5; clear hown5; obtain ⟨fc5, fg5, hc5, hf5, hz5⟩ := bget hb5; (try simp at hz5)) | fail)
        go_roundw
        case rel => exact ⟨k + 1, ol, by omega, by omega, by go_num, HN.out, HT3.out, HO5.out.mono (by first | omega | (simp; omega)), by have hbl := Hbl.out; (repeat' (first | (with_reducible exact Below.refl _ _) | (with_reducible assumption) | (with_reducible refine Below.alloc ?_ ?_ _) | (with_reducible refine Below.setCell ?_ ?_ _) | (with_reducible refine Below.drew ?_) | (with_reducible refine below_drewN ?_ _) | (with_reducible refine below_via ?_ (by with_reducible assumption) ?_) | omega | (simp; done) | (simp; omega)))⟩
        case measure => simp [intOf]; omega
      · have HT3 := Lib.hid (show tableG l = tblG out ((l.take 70).drop (k + 1)) from by rw [HT2.out, if_neg h0])
        have dn : (opC out l[k] == 0) = false := by simpa using h0
        clear HT2 h0
        have CP2 := Lib.hid (fun W A c (h : Rs W 6 (out.map encGroup) A c) => show Calls Try.prog 29 #[.slice A out.length c, .agg #[.int .i64 l[k].id, .int .i64 l[k].unit.acc, .int .i64 l[k].unit.cli, .int .i64 l[k].inst, .int .i64 l[k].price, .int .i64 l[k].left]] W (fun e w' => ∃ v, e = .returned (.tuple #[v, .int .i64 (opN out l[k]), .int .i64 (opC out l[k])]) ∧ Own w' W.heap.size 51 6 v ((opL out l[k]).map encGroup) ∧ Below W.heap.size W w') from CP.out W A c h)
        clear CP
        have CP := CP2
        clear CP2
        generalize opL out l[k] = ol at *
        generalize opN out l[k] = on at *
        generalize opC out l[k] = oc at *
        go_wp2_with (first | (go_at_call 29; (with_reducible refine (CP.out _ _ _ (HRS.out.keep (by (repeat' (first | (with_reducible exact Below.refl _ _) | (with_reducible assumption) | (with_reducible refine Below.alloc ?_ ?_ _) | (with_reducible refine Below.setCell ?_ ?_ _) | (with_reducible refine Below.drew ?_) | (with_reducible refine below_drewN ?_ _) | (with_reducible refine below_via ?_ (by with_reducible assumption) ?_) | omega | (simp; done) | (simp; omega)))))).mono ?_); intro e w5 hp; obtain ⟨v5, rfl, hown5, hb5⟩ := hp; have HO5 := Lib.hid hown5; clear hown5; obtain ⟨fc5, fg5, hc5, hf5, hz5⟩ := bget hb5; (try simp at hz5)) | fail)
        go_roundw
        case rel => exact ⟨k + 1, out, by omega, by omega, by go_num, HG.out, HT3.out, HOW.out.keep (by (repeat' (first | (with_reducible exact Below.refl _ _) | (with_reducible assumption) | (with_reducible refine Below.alloc ?_ ?_ _) | (with_reducible refine Below.setCell ?_ ?_ _) | (with_reducible refine Below.drew ?_) | (with_reducible refine below_drewN ?_ _) | (with_reducible refine below_via ?_ (by with_reducible assumption) ?_) | omega | (simp; done) | (simp; omega)))), by have hbl := Hbl.out; (repeat' (first | (with_reducible exact Below.refl _ _) | (with_reducible assumption) | (with_reducible refine Below.alloc ?_ ?_ _) | (with_reducible refine Below.setCell ?_ ?_ _) | (with_reducible refine Below.drew ?_) | (with_reducible refine below_drewN ?_ _) | (with_reducible refine below_via ?_ (by with_reducible assumption) ?_) | omega | (simp; done) | (simp; omega)))⟩
        case measure => simp [intOf]; omega
    · have HE := Lib.hid (show tableG l = out from by
        rw [HT.out, List.drop_eq_nil_of_le (by rw [List.length_take]; omega)]; rfl)
      by_cases hlt : k < l.length
      · have dl : decide ((k : Int) < (l.length : Int)) = true := by simpa using hlt
        have d70 : decide ((k : Int) < 70) = false := by simp; omega
        go_wp2_with fail
        go_ret
        exact ⟨_, rfl, by rw [HE.out]; exact HOW.out, Hbl.out⟩
      · have dl : decide ((k : Int) < (l.length : Int)) = false := by simpa using hlt
        go_wp2_with fail
        go_ret
        exact ⟨_, rfl, by rw [HE.out]; exact HOW.out, Hbl.out⟩
end Go.Proofs.Ytenehpcliajdnaa
