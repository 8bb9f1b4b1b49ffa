/- Groups: contracts of the reference's Find, set, Alloc, Back, Same. -/
import Derived.Test.YtenehpcliajdnaaGrp2
import Derived.Test.YtenehpcliajdnaaBig6
import Derived.Test.YtenehpcliajdnaaBig7
namespace Go.Proofs.Ytenehpcliajdnaa
open Go.RowKit
set_option maxRecDepth 100000 in
set_option maxHeartbeats 2000000 in
theorem ref22Find (l : List Group) (id : Int) (A : Option Addr) (c : Nat) (w : World) (hl : l.length ≤ 1099511627776) (hr : Rd w A 6 (l.map encGroup)) :
    Calls Try.prog 23 #[.slice A l.length c, .int .i64 id] w fun e w' => e = .returned (.tuple #[.agg #[.int .i64 (findGroup l id).1.id, .int .i64 (findGroup l id).1.unit.acc, .int .i64 (findGroup l id).1.unit.cli, .int .i64 (findGroup l id).1.inst, .int .i64 (findGroup l id).1.price, .int .i64 (findGroup l id).1.left], .bool (findGroup l id).2]) ∧ Below w.heap.size w w' := by
  have Hr := Lib.hid hr
  clear hr
  go_enter Try.func23, Try.ntmps23
  go_wp2_with fail
  go_loopw [6] (fun i wr => ∃ k : Nat, k ≤ l.length ∧ i = .int .i64 k ∧ Below w.heap.size w wr ∧ (wr.cell? ⟨w.heap.size, 0, none⟩ = some (.int .i64 0) ∧ wr.cell? ⟨w.heap.size, 1, none⟩ = some (.int .i64 0) ∧ wr.cell? ⟨w.heap.size, 2, none⟩ = some (.int .i64 0) ∧ wr.cell? ⟨w.heap.size, 3, none⟩ = some (.int .i64 0) ∧ wr.cell? ⟨w.heap.size, 4, none⟩ = some (.int .i64 0) ∧ wr.cell? ⟨w.heap.size, 5, none⟩ = some (.int .i64 0) ∧ wr.frozen? ⟨w.heap.size, 0, none⟩ = false ∧ wr.frozen? ⟨w.heap.size, 1, none⟩ = false ∧ wr.frozen? ⟨w.heap.size, 2, none⟩ = false ∧ wr.frozen? ⟨w.heap.size, 3, none⟩ = false ∧ wr.frozen? ⟨w.heap.size, 4, none⟩ = false ∧ wr.frozen? ⟨w.heap.size, 5, none⟩ = false) ∧ ∀ j (_ : j < l.length), j < k → (l[j].id == id) = false) (fun i _ => l.length - (intOf i).toNat)
  case atStart => exact ⟨0, Nat.zero_le _, rfl, by (repeat' (first | (with_reducible exact Below.refl _ _) | (with_reducible assumption) | (with_reducible refine Below.alloc ?_ ?_ _) | (with_reducible refine Below.setCell ?_ ?_ _) | (with_reducible refine Below.drew ?_) | (with_reducible refine below_drewN ?_ _) | (with_reducible refine below_via ?_ (by with_reducible assumption) ?_) | omega | (simp; done) | (simp; omega))), by simp [go_sem], fun j _ h => absurd h (by omega)⟩
  case round =>
    obtain ⟨k, hk, rfl, hbl, ⟨g0, g1, g2, g3, g4, g5, f0, f1, f2, f3, f4, f5⟩, hno⟩ := hrel
    have Hbl := Lib.hid hbl
    have Hno := Lib.hid hno
    have hz := hbl.size
    clear hbl hno
    by_cases hlt : k < l.length
    · obtain ⟨b, o, rfl, hb, hc⟩ := Hr.out k (encGroup l[k]) (by simp [hlt])
      have c0 := (Hbl.out.cell (p := ⟨b, o + k * 6 + 0, none⟩) hb).trans (hc 0 _ rfl)
      have c1 := (Hbl.out.cell (p := ⟨b, o + k * 6 + 1, none⟩) hb).trans (hc 1 _ rfl)
      have c2 := (Hbl.out.cell (p := ⟨b, o + k * 6 + 2, none⟩) hb).trans (hc 2 _ rfl)
      have c3 := (Hbl.out.cell (p := ⟨b, o + k * 6 + 3, none⟩) hb).trans (hc 3 _ rfl)
      have c4 := (Hbl.out.cell (p := ⟨b, o + k * 6 + 4, none⟩) hb).trans (hc 4 _ rfl)
      have c5 := (Hbl.out.cell (p := ⟨b, o + k * 6 + 5, none⟩) hb).trans (hc 5 _ rfl)
      simp only [Nat.add_zero] at c0
      clear hc
      cases hm : (l[k].id == id)
      · have Hm := Lib.hid hm
        go_wp2_with fail
        go_roundw
        case rel => exact ⟨k + 1, by omega, by go_num, Hbl.out, ⟨g0, g1, g2, g3, g4, g5, f0, f1, f2, f3, f4, f5⟩, fun j hj h => by
          rcases Nat.lt_or_ge j k with h1 | h1
          · exact Hno.out j hj h1
          · obtain rfl : j = k := by omega
            exact Hm.out⟩
        case measure => simp [intOf]; omega
      · have hi := findGroup_hit hlt hm Hno.out
        have Hi := Lib.hid hi
        clear hi
        go_wp2_with fail
        rw [Hi.out]
        have hbl := Hbl.out
        refine bodyPost_ret (by simp [results, Try.results23, go_sem, g0, g1, g2, g3, g4, g5]; try rfl) rfl ⟨rfl, ?_⟩
        (repeat' (first | (with_reducible exact Below.refl _ _) | (with_reducible assumption) | (with_reducible refine Below.alloc ?_ ?_ _) | (with_reducible refine Below.setCell ?_ ?_ _) | (with_reducible refine Below.drew ?_) | (with_reducible refine below_drewN ?_ _) | (with_reducible refine below_via ?_ (by with_reducible assumption) ?_) | omega | (simp; done) | (simp; omega)))
    · have hi := findGroup_miss (l := l) (fun j hj => Hno.out j hj (by omega))
      have Hi := Lib.hid hi
      clear hi
      go_wp2_with fail
      rw [Hi.out]
      have hbl := Hbl.out
      refine bodyPost_ret (by simp [results, Try.results23, go_sem, g0, g1, g2, g3, g4, g5]; try rfl) rfl ⟨rfl, ?_⟩
      (repeat' (first | (with_reducible exact Below.refl _ _) | (with_reducible assumption) | (with_reducible refine Below.alloc ?_ ?_ _) | (with_reducible refine Below.setCell ?_ ?_ _) | (with_reducible refine Below.drew ?_) | (with_reducible refine below_drewN ?_ _) | (with_reducible refine below_via ?_ (by with_reducible assumption) ?_) | omega | (simp; done) | (simp; omega)))
set_option maxRecDepth 100000 in
set_option maxHeartbeats 1000000 in
theorem ref22Same (l : List Group) (A B : Option Addr) (c d : Nat) (w : World) (hl : l.length ≤ 1099511627776) (ha : Rd w A 6 (l.map encGroup)) (hb : Rd w B 6 (l.map encGroup)) :
    Calls Try.prog 27 #[.slice A l.length c, .slice B l.length d] w fun e w' => e = .returned (.bool true) ∧ Below w.heap.size w w' := by
  have HA := Lib.hid ha
  have HB := Lib.hid hb
  clear ha hb
  go_enter Try.func27, Try.ntmps27
  go_wp2_with fail
  go_loopw [5] (fun i wr => ∃ k : Nat, k ≤ l.length ∧ i = .int .i64 k ∧ ∃ n, wr = w.drewN n) (fun i _ => l.length - (intOf i).toNat)
  case atStart => exact ⟨0, Nat.zero_le _, rfl, 0, rfl⟩
  case round =>
    obtain ⟨k, hk, rfl, nn, rfl⟩ := hrel
    by_cases hlt : k < l.length
    · have kl : (k : Int) < (l.length : Int) := by omega
      obtain ⟨b1, o1, rfl, hb1, hc1⟩ := HA.out k (encGroup l[k]) (by simp [hlt])
      obtain ⟨b2, o2, rfl, hb2, hc2⟩ := HB.out k (encGroup l[k]) (by simp [hlt])
      have e0 := hc1 0 _ rfl
      have e1 := hc1 1 _ rfl
      have e2 := hc1 2 _ rfl
      have e3 := hc1 3 _ rfl
      have e4 := hc1 4 _ rfl
      have e5 := hc1 5 _ rfl
      have f0 := hc2 0 _ rfl
      have f1 := hc2 1 _ rfl
      have f2 := hc2 2 _ rfl
      have f3 := hc2 3 _ rfl
      have f4 := hc2 4 _ rfl
      have f5 := hc2 5 _ rfl
      simp only [Nat.add_zero] at e0 f0
      clear hc1 hc2
      go_wp2_with fail
      go_quiet (fail)
      go_wp2_with fail
      go_roundw
      case rel => exact ⟨k + 1, by omega, by go_num, _, rfl⟩
      case measure => simp [intOf]; omega
    · go_wp2_with fail
      go_ret
      exact ⟨rfl, by (repeat' (first | (with_reducible exact Below.refl _ _) | (with_reducible assumption) | (with_reducible refine Below.alloc ?_ ?_ _) | (with_reducible refine Below.setCell ?_ ?_ _) | (with_reducible refine Below.drew ?_) | (with_reducible refine below_drewN ?_ _) | (with_reducible refine below_via ?_ (by with_reducible assumption) ?_) | omega | (simp; done) | (simp; omega)))⟩
theorem own_ne' {w : World} {base E k : Nat} {v : Value} {rows : List (List Value)} (h : Own w base E k v rows) : v.ownBlock ≠ some w.heap.size := fun e => by
  have := (h.block _ e).2; omega
set_option maxRecDepth 100000 in
set_option maxHeartbeats 8000000 in
theorem ref22set (l : List Group) (id q : Int) (A : Option Addr) (c : Nat) (w : World) (hl : l.length ≤ 1000000) (hr : Rd w A 6 (l.map encGroup)) :
    Calls Try.prog 60 #[.slice A l.length c, .int .i64 id, .int .i64 q] w fun e w' => ∃ v, e = .returned v ∧ Own w' w.heap.size 51 6 v ((setL id q l).map encGroup) ∧ Below w.heap.size w w' := by
  have HR := Lib.hid hr
  clear hr
  go_enter Try.func60, Try.ntmps60
  go_wp2_with fail
  go_loopw [7, 8, 9] (fun v d i wr => ∃ (k : Nat) (done : Bool) (out : List Group), k ≤ l.length ∧ i = .int .i64 k ∧ d = .bool done ∧ out.length = k ∧ Own wr w.heap.size 51 6 v (out.map encGroup) ∧ Below w.heap.size w wr ∧ (done = true → setL id q l = out ++ l.drop k) ∧ (done = false → setL id q l = out ++ setL id q (l.drop k))) (fun _ _ i _ => l.length - (intOf i).toNat)
  case atStart => exact ⟨0, false, [], Nat.zero_le _, rfl, rfl, rfl, Own.nil _ _ _ _, Below.refl _ _, (fun h => by cases h), (fun _ => rfl)⟩
  case round =>
    obtain ⟨k, done, out, hk, rfl, rfl, hol, hown, hbl, h1, h2⟩ := hrel
    have Hown := Lib.hid hown
    have Hbl := Lib.hid hbl
    have hz := hbl.size
    have hlo : (out.map encGroup).length ≤ 1000000 := by rw [List.length_map]; omega
    clear hown hbl
    by_cases hlt : k < l.length
    · have kl : (k : Int) < (l.length : Int) := by omega
      have dl : decide ((k : Int) < (l.length : Int)) = true := by simpa using hlt
      obtain ⟨b, o, rfl, hb, hc⟩ := HR.out k (encGroup l[k]) (by simp [hlt])
      have e0 := (Hbl.out.cell (p := ⟨b, o + k * 6 + 0, none⟩) hb).trans (hc 0 _ rfl)
      have e1 := (Hbl.out.cell (p := ⟨b, o + k * 6 + 1, none⟩) hb).trans (hc 1 _ rfl)
      have e2 := (Hbl.out.cell (p := ⟨b, o + k * 6 + 2, none⟩) hb).trans (hc 2 _ rfl)
      have e3 := (Hbl.out.cell (p := ⟨b, o + k * 6 + 3, none⟩) hb).trans (hc 3 _ rfl)
      have e4 := (Hbl.out.cell (p := ⟨b, o + k * 6 + 4, none⟩) hb).trans (hc 4 _ rfl)
      have e5 := (Hbl.out.cell (p := ⟨b, o + k * 6 + 5, none⟩) hb).trans (hc 5 _ rfl)
      simp only [Nat.add_zero] at e0
      have hbw : b < wr.heap.size := by omega
      have HX := Lib.hid (drop_cons' hlt)
      clear hc
      cases hm : (l[k].id == id)
      · cases done
        · have HD1 := Lib.hid (show false = true → setL id q l = (out ++ [l[k]]) ++ l.drop (k + 1) from fun h => by cases h)
          have HD2 := Lib.hid (show false = false → setL id q l = (out ++ [l[k]]) ++ setL id q (l.drop (k + 1)) from fun h => by
            rw [h2 rfl, HX.out, List.append_assoc]
            conv => lhs; unfold setL
            rw [hm]; rfl)
          clear h1 h2 HX
          go_wp2_with (first | (at_builtin; refine wpList_app rfl _ _ _ rfl elGroup w.heap.size _ (out.map encGroup) rfl ?_ (some ⟨_, 0, none⟩) 1 1 rfl [encGroup (l[k])] rfl (fun h => by cases h) (rd_oneN (by simp)) (rowsG1 _) (by unfold maxLen; first | (simp; done) | omega | (simp; omega)) (by first | (simp; done) | omega | (simp; omega)) (by first | omega | (simp; done) | (simp; omega)) ?_; (focus (first | exact (Hown.out.alloc _).alloc _ | exact ((Hown.out.alloc _).far (own_ne' Hown.out) _).alloc _)); intro v4 w4 hown4 hb4; have HO4 := Lib.hid hown4; clear hown4; obtain ⟨fc4, fg4, hc4, hf4, hz4⟩ := bget hb4; (try simp at hz4)) | fail)
          go_roundw
          case rel => exact ⟨k + 1, false, out ++ [l[k]], by omega, by go_num, rfl, by simp; omega, by rw [List.map_append]; exact HO4.out, by have hbl := Hbl.out; (repeat' (first | (with_reducible exact Below.refl _ _) | (with_reducible assumption) | (with_reducible refine Below.alloc ?_ ?_ _) | (with_reducible refine Below.setCell ?_ ?_ _) | (with_reducible refine Below.drew ?_) | (with_reducible refine below_drewN ?_ _) | (with_reducible refine below_via ?_ (by with_reducible assumption) ?_) | omega | (simp; done) | (simp; omega))), HD1.out, HD2.out⟩
          case measure => simp [intOf]; omega
        · have HD1 := Lib.hid (show true = true → setL id q l = (out ++ [l[k]]) ++ l.drop (k + 1) from fun h => by rw [h1 rfl, HX.out, List.append_assoc]; rfl)
          have HD2 := Lib.hid (show true = false → setL id q l = (out ++ [l[k]]) ++ setL id q (l.drop (k + 1)) from fun h => by cases h)
          clear h1 h2 HX
          go_wp2_with (first | (at_builtin; refine wpList_app rfl _ _ _ rfl elGroup w.heap.size _ (out.map encGroup) rfl ?_ (some ⟨_, 0, none⟩) 1 1 rfl [encGroup (l[k])] rfl (fun h => by cases h) (rd_oneN (by simp)) (rowsG1 _) (by unfold maxLen; first | (simp; done) | omega | (simp; omega)) (by first | (simp; done) | omega | (simp; omega)) (by first | omega | (simp; done) | (simp; omega)) ?_; (focus (first | exact (Hown.out.alloc _).alloc _ | exact ((Hown.out.alloc _).far (own_ne' Hown.out) _).alloc _)); intro v4 w4 hown4 hb4; have HO4 := Lib.hid hown4; clear hown4; obtain ⟨fc4, fg4, hc4, hf4, hz4⟩ := bget hb4; (try simp at hz4)) | fail)
          go_roundw
          case rel => exact ⟨k + 1, true, out ++ [l[k]], by omega, by go_num, rfl, by simp; omega, by rw [List.map_append]; exact HO4.out, by have hbl := Hbl.out; (repeat' (first | (with_reducible exact Below.refl _ _) | (with_reducible assumption) | (with_reducible refine Below.alloc ?_ ?_ _) | (with_reducible refine Below.setCell ?_ ?_ _) | (with_reducible refine Below.drew ?_) | (with_reducible refine below_drewN ?_ _) | (with_reducible refine below_via ?_ (by with_reducible assumption) ?_) | omega | (simp; done) | (simp; omega))), HD1.out, HD2.out⟩
          case measure => simp [intOf]; omega
      · cases done
        · have HD1 := Lib.hid (show true = true → setL id q l = (out ++ [withLeft l[k] q]) ++ l.drop (k + 1) from fun h => by
            rw [h2 rfl, HX.out, List.append_assoc]
            conv => lhs; unfold setL
            rw [hm]; rfl)
          have HD2 := Lib.hid (show true = false → setL id q l = (out ++ [withLeft l[k] q]) ++ setL id q (l.drop (k + 1)) from fun h => by cases h)
          clear h1 h2 HX
          go_wp2_with (first | (at_builtin; refine wpList_app rfl _ _ _ rfl elGroup w.heap.size _ (out.map encGroup) rfl ?_ (some ⟨_, 0, none⟩) 1 1 rfl [encGroup (withLeft l[k] q)] rfl (fun h => by cases h) (rd_oneN (by simp)) (rowsG1 _) (by unfold maxLen; first | (simp; done) | omega | (simp; omega)) (by first | (simp; done) | omega | (simp; omega)) (by first | omega | (simp; done) | (simp; omega)) ?_; (focus (first | exact (Hown.out.alloc _).alloc _ | exact ((Hown.out.alloc _).far (own_ne' Hown.out) _).alloc _)); intro v4 w4 hown4 hb4; have HO4 := Lib.hid hown4; clear hown4; obtain ⟨fc4, fg4, hc4, hf4, hz4⟩ := bget hb4; (try simp at hz4)) | fail)
          go_roundw
          case rel => exact ⟨k + 1, true, out ++ [withLeft l[k] q], by omega, by go_num, rfl, by simp; omega, by rw [List.map_append]; exact HO4.out, by have hbl := Hbl.out; (repeat' (first | (with_reducible exact Below.refl _ _) | (with_reducible assumption) | (with_reducible refine Below.alloc ?_ ?_ _) | (with_reducible refine Below.setCell ?_ ?_ _) | (with_reducible refine Below.drew ?_) | (with_reducible refine below_drewN ?_ _) | (with_reducible refine below_via ?_ (by with_reducible assumption) ?_) | omega | (simp; done) | (simp; omega))), HD1.out, HD2.out⟩
          case measure => simp [intOf]; omega
        · have HD1 := Lib.hid (show true = true → setL id q l = (out ++ [l[k]]) ++ l.drop (k + 1) from fun h => by rw [h1 rfl, HX.out, List.append_assoc]; rfl)
          have HD2 := Lib.hid (show true = false → setL id q l = (out ++ [l[k]]) ++ setL id q (l.drop (k + 1)) from fun h => by cases h)
          clear h1 h2 HX
          go_wp2_with (first | (at_builtin; refine wpList_app rfl _ _ _ rfl elGroup w.heap.size _ (out.map encGroup) rfl ?_ (some ⟨_, 0, none⟩) 1 1 rfl [encGroup (l[k])] rfl (fun h => by cases h) (rd_oneN (by simp)) (rowsG1 _) (by unfold maxLen; first | (simp; done) | omega | (simp; omega)) (by first | (simp; done) | omega | (simp; omega)) (by first | omega | (simp; done) | (simp; omega)) ?_; (focus (first | exact (Hown.out.alloc _).alloc _ | exact ((Hown.out.alloc _).far (own_ne' Hown.out) _).alloc _)); intro v4 w4 hown4 hb4; have HO4 := Lib.hid hown4; clear hown4; obtain ⟨fc4, fg4, hc4, hf4, hz4⟩ := bget hb4; (try simp at hz4)) | fail)
          go_roundw
          case rel => exact ⟨k + 1, true, out ++ [l[k]], by omega, by go_num, rfl, by simp; omega, by rw [List.map_append]; exact HO4.out, by have hbl := Hbl.out; (repeat' (first | (with_reducible exact Below.refl _ _) | (with_reducible assumption) | (with_reducible refine Below.alloc ?_ ?_ _) | (with_reducible refine Below.setCell ?_ ?_ _) | (with_reducible refine Below.drew ?_) | (with_reducible refine below_drewN ?_ _) | (with_reducible refine below_via ?_ (by with_reducible assumption) ?_) | omega | (simp; done) | (simp; omega))), HD1.out, HD2.out⟩
          case measure => simp [intOf]; omega
    · have dl : decide ((k : Int) < (l.length : Int)) = false := by simpa using hlt
      have HE := Lib.hid (show setL id q l = out from by
        have hd : l.drop k = [] := List.drop_eq_nil_of_le (by omega)
        cases done
        · rw [h2 rfl, hd]; simp [setL]
        · rw [h1 rfl, hd]; simp)
      clear h1 h2
      go_wp2_with fail
      go_ret
      exact ⟨_, rfl, by rw [HE.out]; exact Hown.out, Hbl.out⟩
end Go.Proofs.Ytenehpcliajdnaa
