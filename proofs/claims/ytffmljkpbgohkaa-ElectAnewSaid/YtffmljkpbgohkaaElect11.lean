/- Choices: contracts of the reference's Drop, set. -/
import Derived.Test.YtffmljkpbgohkaaElect8
import Derived.Test.YtffmljkpbgohkaaElect9
namespace Go.Proofs.Ytffmljkpbgohkaa
open Go.RowKit
theorem dropL_same {l : List Choice} {u : Un} {k : Nat} (h : k < l.length) (he : l[k].frm = u) : dropL (l.take (k + 1)) u = dropL (l.take k) u := by
  unfold dropL
  rw [List.take_succ_eq_append_getElem h, List.filter_append]
  simp [he]
theorem dropL_snoc {l : List Choice} {u : Un} {k : Nat} (h : k < l.length) (he : ¬ l[k].frm = u) : dropL (l.take (k + 1)) u = dropL (l.take k) u ++ [l[k]] := by
  unfold dropL
  rw [List.take_succ_eq_append_getElem h, List.filter_append]
  simp [he]
theorem dropL_short {l : List Choice} {u : Un} (k : Nat) : (dropL (l.take k) u).length ≤ k := by
  have := dropL_len (l.take k) u
  rw [List.length_take] at this
  omega
set_option maxRecDepth 100000 in
set_option maxHeartbeats 4000000 in
theorem ref16Drop (l : List Choice) (u : Un) (A : Option Addr) (c : Nat) (w : World) (hl : l.length ≤ 1048576) (hr : Rd w A 5 (l.map encChoice)) :
    Calls Try.prog 48 #[.slice A l.length c, .agg #[.int .i64 u.acc, .int .i64 u.cli]] w (ChoPost w (dropL l u)) := by
  have HR := Lib.hid hr
  clear hr
  go_enter Try.func48, Try.ntmps48
  go_wp2_with fail
  go_loopw [5, 6] (fun v i wr => ∃ k : Nat, k ≤ l.length ∧ i = .int .i64 k ∧ Own wr (w.heap.size + 1) 76 5 v ((dropL (l.take k) u).map encChoice) ∧ Below w.heap.size w wr ∧ Blk wr w.heap.size 66 #[.int .i64 u.acc, .int .i64 u.cli]) (fun _ i _ => l.length - (intOf i).toNat)
  case atStart => exact ⟨0, Nat.zero_le _, rfl, Own.nil _ _ _ _, by (repeat' (first | (with_reducible exact Below.refl _ _) | (with_reducible assumption) | (with_reducible refine Below.alloc ?_ ?_ _) | (with_reducible refine Below.setCell ?_ ?_ _) | (with_reducible refine Below.drew ?_) | (with_reducible refine below_drewN ?_ _) | (with_reducible refine below_via ?_ (by with_reducible assumption) ?_) | omega | (simp; done) | (simp; omega))), by (repeat' (first | (with_reducible assumption) | (with_reducible refine Blk.drew ?_) | (with_reducible refine Blk.here ?_) | (with_reducible refine Blk.alloc ?_ _) | (with_reducible refine Blk.far ?_ ?_ _) | (with_reducible refine Blk.below ?_ (by with_reducible assumption) ?_) | omega | (simp; done) | (simp; omega)))⟩
  case round =>
    obtain ⟨k, hk, rfl, hown, hbl, hbk⟩ := hrel
    have Hown := Lib.hid hown
    have Hbl := Lib.hid hbl
    have Hbk := Lib.hid hbk
    have hz := hbl.size
    have u0 := hbk.cell 0
    have u1 := hbk.cell 1
    have ug := hbk.lt
    simp at u0 u1
    have hsh := dropL_short (l := l) (u := u) k
    clear hown hbl hbk
    by_cases hlt : k < l.length
    · have kl : (k : Int) < (l.length : Int) := by omega
      obtain ⟨be, oe, rfl, hbe, hqe⟩ := HR.out k (encChoice l[k]) (by simp [hlt])
      replace hqe := fun j v hv => (Hbl.out.cell (p := ⟨be, oe + k * 5 + j, none⟩) hbe).trans (hqe j v hv)
      have e0 := hqe 0 _ rfl
      have e1 := hqe 1 _ rfl
      have e2 := hqe 2 _ rfl
      have e3 := hqe 3 _ rfl
      have e4 := hqe 4 _ rfl
      simp only [Nat.add_zero] at e0
      clear hqe
      have hbw : be < wr.heap.size := by omega
      rcases un_test (x := l[k].frm) (u := u) with he | he | he
      · have HS := Lib.hid (dropL_same (u := u) hlt he)
        rw [he] at e0 e1
        clear he
        go_wp2_with fail
        go_quiet (fail)
        go_wp2_with fail
        go_roundw
        case rel => exact ⟨k + 1, by omega, by go_num, by rw [HS.out]; exact Hown.out, by (have hbl := Hbl.out; (repeat' (first | (with_reducible exact Below.refl _ _) | (with_reducible assumption) | (with_reducible refine Below.alloc ?_ ?_ _) | (with_reducible refine Below.setCell ?_ ?_ _) | (with_reducible refine Below.drew ?_) | (with_reducible refine below_drewN ?_ _) | (with_reducible refine below_via ?_ (by with_reducible assumption) ?_) | omega | (simp; done) | (simp; omega)))), Hbk.out⟩
        case measure => simp [intOf]; omega
      all_goals
        have HS := Lib.hid (dropL_snoc (u := u) hlt (by intro e; rw [e] at he; simp at he))
        obtain ⟨d, hd⟩ : ∃ d, d = dropL (l.take k) u := ⟨_, rfl⟩
        rw [← hd] at HS hsh Hown
        clear hd
        go_wp2_with fail
        go_quiet (fail)
        go_wp2_with (at_builtin; refine wpList_app rfl _ _ _ rfl elChoice (w.heap.size + 1) _ _ rfl ((Hown.out).alloc _) (some ⟨wr.heap.size, 0, none⟩) 1 1 rfl [encChoice l[k]] rfl (fun h => by cases h) rd_one (rowsChoice [l[k]]) (by unfold maxLen; first | (simp; done) | omega | (simp; omega)) (by first | (simp; done) | omega | (simp; omega)) (by first | omega | (simp; done) | (simp; omega)) ?_; intro v' w3 hown3 hb3)
        go_roundw
        case rel => exact ⟨k + 1, by omega, by go_num, by rw [HS.out, List.map_append]; exact hown3, by (have hbl := Hbl.out; (repeat' (first | (with_reducible exact Below.refl _ _) | (with_reducible assumption) | (with_reducible refine Below.alloc ?_ ?_ _) | (with_reducible refine Below.setCell ?_ ?_ _) | (with_reducible refine Below.drew ?_) | (with_reducible refine below_drewN ?_ _) | (with_reducible refine below_via ?_ (by with_reducible assumption) ?_) | omega | (simp; done) | (simp; omega)))), Blk.below (Blk.alloc (w := wr.drewN _) Hbk.out _) hb3 (by omega)⟩
        case measure => simp [intOf]; omega
    · obtain rfl : k = l.length := by omega
      rw [List.take_length] at Hown
      go_wp2_with fail
      go_ret
      exact ⟨_, rfl, Hown.out.mono (by omega), Hbl.out⟩
end Go.Proofs.Ytffmljkpbgohkaa
