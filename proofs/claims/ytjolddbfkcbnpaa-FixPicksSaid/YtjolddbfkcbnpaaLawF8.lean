/- The law FixPicks: its walk. -/
import Derived.Test.YtjolddbfkcbnpaaLawF2
import Derived.Test.YtjolddbfkcbnpaaApp0
namespace Go.Proofs.Ytjolddbfkcbnpaa
open Go.RowKit
theorem maxL_cons (a : Int) (l : List Int) : maxL a (a :: l) = maxL a l := by unfold maxL; rw [List.foldl_cons, Int.max_self]
theorem minL_cons (a : Int) (l : List Int) : minL a (a :: l) = minL a l := by unfold minL; rw [List.foldl_cons, Int.min_self]
set_option maxRecDepth 100000 in
set_option maxHeartbeats 4000000 in
theorem refMost (a : Int) (l : List Int) (A : Option Addr) (c : Nat) (w : World) (h41 : (a :: l).length ≤ 41) (hr : Rd w A 1 ((a :: l).map encI)) :
    Calls Try.prog 50 #[.slice A (a :: l).length c] w fun e w' => e = .returned (.int .i64 (maxL a l)) ∧ Below w.heap.size w w' := by
  have HR := Lib.hid hr
  obtain ⟨b, o, hA, hb, q⟩ := hr 0 (encI a) rfl
  have q0 := q 0 _ rfl
  simp at q0
  clear q hr
  subst hA
  obtain ⟨L, hL⟩ : ∃ L, L = a :: l := ⟨_, rfl⟩
  have hpos : 0 < L.length := (by rw [hL]; simp)
  have HE := Lib.hid (show maxL a L = maxL a l from (by rw [hL]; exact maxL_cons a l))
  rw [← hL] at HR h41 ⊢
  clear hL
  go_enter Try.func50, Try.ntmps50
  go_wp2_with fail
  go_loopw [3, 4] (fun v i wr => ∃ k : Nat, k ≤ L.length ∧ i = .int .i64 k ∧ v = .int .i64 (maxL a (L.take k)) ∧ Below w.heap.size w wr) (fun _ i _ => L.length - (intOf i).toNat)
  case atStart => exact ⟨0, Nat.zero_le _, rfl, rfl, by (repeat' (first | (with_reducible exact Below.refl _ _) | (with_reducible assumption) | (with_reducible refine Below.alloc ?_ ?_ _) | (with_reducible refine Below.setCell ?_ ?_ _) | (with_reducible refine Below.drew ?_) | (with_reducible refine below_drewN ?_ _) | (with_reducible refine below_via ?_ (by with_reducible assumption) ?_) | omega | (simp; done) | (simp; omega)))⟩
  case round =>
    obtain ⟨k, hk, rfl, rfl, hbl⟩ := hrel
    have hz := hbl.size
    have Hbl := Lib.hid hbl
    clear hbl
    by_cases hlt : k < L.length
    · have d2 : decide ((k : Int) < (L.length : Int)) = true := (by simpa using hlt)
      obtain ⟨b2, o2, hA2, hb2, q2⟩ := HR.out k (encI L[k]) (by rw [List.getElem?_map, List.getElem?_eq_getElem hlt]; rfl)
      injection hA2 with hA2
      injection hA2 with hA3 hA4 _
      subst hA3 hA4
      have q1 := (Hbl.out.cell (p := ⟨b, o + k * 1 + 0, none⟩) hb).trans (q2 0 _ rfl)
      simp at q1
      have HS := Lib.hid (foldl_take max a L k hlt)
      have hbw : b < wr.heap.size := (by omega)
      obtain ⟨x, hxe⟩ : ∃ x, x = L[k] := ⟨_, rfl⟩
      obtain ⟨m, hme⟩ : ∃ m, m = maxL a (L.take k) := ⟨_, rfl⟩
      have HM := Lib.hid (show maxL a (L.take (k + 1)) = max m x from (by rw [hme, hxe]; exact HS.out))
      rw [← hxe] at q1
      rw [← hme]
      clear q2 hxe hme HS
      by_cases hg : m < x
      · have g : decide (m < x) = true := (by simpa using hg)
        have HN := Lib.hid (show maxL a (L.take (k + 1)) = x from (by rw [HM.out]; omega))
        clear HM
        go_wp2_with fail
        go_roundw
        case rel => exact ⟨k + 1, by omega, by go_num, by rw [HN.out], by (have hbl := Hbl.out; (repeat' (first | (with_reducible exact Below.refl _ _) | (with_reducible assumption) | (with_reducible refine Below.alloc ?_ ?_ _) | (with_reducible refine Below.setCell ?_ ?_ _) | (with_reducible refine Below.drew ?_) | (with_reducible refine below_drewN ?_ _) | (with_reducible refine below_via ?_ (by with_reducible assumption) ?_) | omega | (simp; done) | (simp; omega))))⟩
        case measure => (simp [intOf]; omega)
      · have g : decide (m < x) = false := (by simpa using hg)
        have HN := Lib.hid (show maxL a (L.take (k + 1)) = m from (by rw [HM.out]; omega))
        clear HM
        go_wp2_with fail
        go_roundw
        case rel => exact ⟨k + 1, by omega, by go_num, by rw [HN.out], by (have hbl := Hbl.out; (repeat' (first | (with_reducible exact Below.refl _ _) | (with_reducible assumption) | (with_reducible refine Below.alloc ?_ ?_ _) | (with_reducible refine Below.setCell ?_ ?_ _) | (with_reducible refine Below.drew ?_) | (with_reducible refine below_drewN ?_ _) | (with_reducible refine below_via ?_ (by with_reducible assumption) ?_) | omega | (simp; done) | (simp; omega))))⟩
        case measure => (simp [intOf]; omega)
    · have d2 : decide ((k : Int) < (L.length : Int)) = false := (by simpa using hlt)
      have HK := Lib.hid (show maxL a (L.take k) = maxL a l from (by rw [List.take_of_length_le (by omega)]; exact HE.out))
      go_wp2_with fail
      go_ret
      exact ⟨by rw [HK.out]; first | done | rfl, by (have hbl := Hbl.out; (repeat' (first | (with_reducible exact Below.refl _ _) | (with_reducible assumption) | (with_reducible refine Below.alloc ?_ ?_ _) | (with_reducible refine Below.setCell ?_ ?_ _) | (with_reducible refine Below.drew ?_) | (with_reducible refine below_drewN ?_ _) | (with_reducible refine below_via ?_ (by with_reducible assumption) ?_) | omega | (simp; done) | (simp; omega))))⟩
set_option maxRecDepth 100000 in
set_option maxHeartbeats 4000000 in
theorem refLeast (a : Int) (l : List Int) (A : Option Addr) (c : Nat) (w : World) (h41 : (a :: l).length ≤ 41) (hr : Rd w A 1 ((a :: l).map encI)) :
    Calls Try.prog 52 #[.slice A (a :: l).length c] w fun e w' => e = .returned (.int .i64 (minL a l)) ∧ Below w.heap.size w w' := by
  have HR := Lib.hid hr
  obtain ⟨b, o, hA, hb, q⟩ := hr 0 (encI a) rfl
  have q0 := q 0 _ rfl
  simp at q0
  clear q hr
  subst hA
  obtain ⟨L, hL⟩ : ∃ L, L = a :: l := ⟨_, rfl⟩
  have hpos : 0 < L.length := (by rw [hL]; simp)
  have HE := Lib.hid (show minL a L = minL a l from (by rw [hL]; exact minL_cons a l))
  rw [← hL] at HR h41 ⊢
  clear hL
  go_enter Try.func52, Try.ntmps52
  go_wp2_with fail
  go_loopw [3, 4] (fun v i wr => ∃ k : Nat, k ≤ L.length ∧ i = .int .i64 k ∧ v = .int .i64 (minL a (L.take k)) ∧ Below w.heap.size w wr) (fun _ i _ => L.length - (intOf i).toNat)
  case atStart => exact ⟨0, Nat.zero_le _, rfl, rfl, by (repeat' (first | (with_reducible exact Below.refl _ _) | (with_reducible assumption) | (with_reducible refine Below.alloc ?_ ?_ _) | (with_reducible refine Below.setCell ?_ ?_ _) | (with_reducible refine Below.drew ?_) | (with_reducible refine below_drewN ?_ _) | (with_reducible refine below_via ?_ (by with_reducible assumption) ?_) | omega | (simp; done) | (simp; omega)))⟩
  case round =>
    obtain ⟨k, hk, rfl, rfl, hbl⟩ := hrel
    have hz := hbl.size
    have Hbl := Lib.hid hbl
    clear hbl
    by_cases hlt : k < L.length
    · have d2 : decide ((k : Int) < (L.length : Int)) = true := (by simpa using hlt)
      obtain ⟨b2, o2, hA2, hb2, q2⟩ := HR.out k (encI L[k]) (by rw [List.getElem?_map, List.getElem?_eq_getElem hlt]; rfl)
      injection hA2 with hA2
      injection hA2 with hA3 hA4 _
      subst hA3 hA4
      have q1 := (Hbl.out.cell (p := ⟨b, o + k * 1 + 0, none⟩) hb).trans (q2 0 _ rfl)
      simp at q1
      have HS := Lib.hid (foldl_take min a L k hlt)
      have hbw : b < wr.heap.size := (by omega)
      obtain ⟨x, hxe⟩ : ∃ x, x = L[k] := ⟨_, rfl⟩
      obtain ⟨m, hme⟩ : ∃ m, m = minL a (L.take k) := ⟨_, rfl⟩
      have HM := Lib.hid (show minL a (L.take (k + 1)) = min m x from (by rw [hme, hxe]; exact HS.out))
      rw [← hxe] at q1
      rw [← hme]
      clear q2 hxe hme HS
      by_cases hg : x < m
      · have g : decide (x < m) = true := (by simpa using hg)
        have HN := Lib.hid (show minL a (L.take (k + 1)) = x from (by rw [HM.out]; omega))
        clear HM
        go_wp2_with fail
        go_roundw
        case rel => exact ⟨k + 1, by omega, by go_num, by rw [HN.out], by (have hbl := Hbl.out; (repeat' (first | (with_reducible exact Below.refl _ _) | (with_reducible assumption) | (with_reducible refine Below.alloc ?_ ?_ _) | (with_reducible refine Below.setCell ?_ ?_ _) | (with_reducible refine Below.drew ?_) | (with_reducible refine below_drewN ?_ _) | (with_reducible refine below_via ?_ (by with_reducible assumption) ?_) | omega | (simp; done) | (simp; omega))))⟩
        case measure => (simp [intOf]; omega)
      · have g : decide (x < m) = false := (by simpa using hg)
        have HN := Lib.hid (show minL a (L.take (k + 1)) = m from (by rw [HM.out]; omega))
        clear HM
        go_wp2_with fail
        go_roundw
        case rel => exact ⟨k + 1, by omega, by go_num, by rw [HN.out], by (have hbl := Hbl.out; (repeat' (first | (with_reducible exact Below.refl _ _) | (with_reducible assumption) | (with_reducible refine Below.alloc ?_ ?_ _) | (with_reducible refine Below.setCell ?_ ?_ _) | (with_reducible refine Below.drew ?_) | (with_reducible refine below_drewN ?_ _) | (with_reducible refine below_via ?_ (by with_reducible assumption) ?_) | omega | (simp; done) | (simp; omega))))⟩
        case measure => (simp [intOf]; omega)
    · have d2 : decide ((k : Int) < (L.length : Int)) = false := (by simpa using hlt)
      have HK := Lib.hid (show minL a (L.take k) = minL a l from (by rw [List.take_of_length_le (by omega)]; exact HE.out))
      go_wp2_with fail
      go_ret
      exact ⟨by rw [HK.out]; first | done | rfl, by (have hbl := Hbl.out; (repeat' (first | (with_reducible exact Below.refl _ _) | (with_reducible assumption) | (with_reducible refine Below.alloc ?_ ?_ _) | (with_reducible refine Below.setCell ?_ ?_ _) | (with_reducible refine Below.drew ?_) | (with_reducible refine below_drewN ?_ _) | (with_reducible refine below_via ?_ (by with_reducible assumption) ?_) | omega | (simp; done) | (simp; omega))))⟩
end Go.Proofs.Ytjolddbfkcbnpaa
