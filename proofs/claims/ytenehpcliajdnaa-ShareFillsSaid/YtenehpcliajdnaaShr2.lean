/- Shares: contracts of share.Takes, of the reference's why, Takes and of SameNumbers. -/
import Derived.Test.YtenehpcliajdnaaShr1
import Derived.Test.YtenehpcliajdnaaFixP
import Derived.BigQuiet
namespace Go.Proofs.Ytenehpcliajdnaa
open Go.RowKit
set_option maxRecDepth 100000 in
set_option maxHeartbeats 1000000 in
theorem sameNums (l : List Int) (A B : Option Addr) (c d : Nat) (w : World) (hl : l.length ≤ 1099511627776) (ha : Rd w A 1 (l.map encI)) (hb : Rd w B 1 (l.map encI)) :
    Calls Try.prog 35 #[.slice A l.length c, .slice B l.length d] w fun e w' => e = .returned (.bool true) ∧ Below w.heap.size w w' := by
  have HA := Lib.hid ha
  have HB := Lib.hid hb
  clear ha hb
  go_enter Try.func35, Try.ntmps35
  go_wp2_with fail
  go_loopw [5] (fun i wr => ∃ k : Nat, k ≤ l.length ∧ i = .int .i64 k ∧ ∃ n, wr = w.drewN n) (fun i _ => l.length - (intOf i).toNat)
  case atStart => exact ⟨0, Nat.zero_le _, rfl, 0, rfl⟩
  case round =>
    obtain ⟨k, hk, rfl, nn, rfl⟩ := hrel
    by_cases hlt : k < l.length
    · have kl : (k : Int) < (l.length : Int) := by omega
      obtain ⟨b1, o1, rfl, hb1, hc1⟩ := HA.out k (encI l[k]) (by simp [hlt])
      obtain ⟨b2, o2, rfl, hb2, hc2⟩ := HB.out k (encI l[k]) (by simp [hlt])
      have e0 := hc1 0 _ rfl
      have f0 := hc2 0 _ rfl
      simp only [Nat.add_zero, Nat.mul_one] at e0 f0
      clear hc1 hc2
      go_wp2_with fail
      go_quiet (fail)
      go_wp2_with fail
      go_roundw
      case rel => exact ⟨k + 1, by omega, by go_num, _, rfl⟩
      case measure => simp [intOf]; omega
    · go_wp2_with fail
      go_ret
      exact ⟨rfl, by (repeat' (first | (with_reducible exact Below.refl _ _) | (with_reducible assumption) | (with_reducible refine Below.alloc ?_ ?_ _) | (with_reducible refine Below.setCell ?_ ?_ _) | (with_reducible refine Below.drew ?_) | (with_reducible refine below_drewN ?_ _) | (with_reducible refine below_via ?_ (by with_reducible assumption) ?_) | omega | (simp; done) | (simp; omega)))⟩
/-- One behind the other: parts, and what is left. -/
def tkF : Int → List Int → List Int
  | _, [] => []
  | T, x :: t => min T x :: tkF (T - min T x) t
def tkR : Int → List Int → Int
  | T, [] => T
  | T, x :: t => tkR (T - min T x) t
def tkC (T : Int) (l : List Int) : Int := if rightS T l = true then 0 else 2
def tkL (T : Int) (l : List Int) : List Int := if rightS T l = true then tkF T l else []
def tkN (T : Int) (l : List Int) : Int := if rightS T l = true then tkR T l else 0
def whyS (T : Int) (l : List Int) : Int := if rightS T l = true then (if in64 l.sum = true then 0 else 7) else 2
theorem tkF_len : ∀ (l : List Int) (T : Int), (tkF T l).length = l.length
  | [], _ => rfl
  | x :: t, T => by simp [tkF, tkF_len t]
theorem elI : Elem Try.prog 46 2 1 8 := elem_of Try.underlying46 (z := .int .i64 0) (by kernel_rfl) rfl (by omega)
theorem rowsI1 (x : Int) : ∀ r ∈ [encI x], r.length = 1 ∧ ∀ u ∈ r, u.oneCell' = true := by
  intro r hr
  simp at hr
  subst hr
  exact ⟨rfl, by simp [encI]; rfl⟩
set_option maxRecDepth 100000 in
set_option maxHeartbeats 8000000 in
theorem shrTakes (T : Int) (l : List Int) (A : Option Addr) (c : Nat) (w : World) (hl : l.length ≤ 1000000) (hT : In64 T) (hin : ∀ x ∈ l, In64 x) (hr : Rd w A 1 (l.map encI)) :
    Calls Try.prog 41 #[.int .i64 T, .slice A l.length c] w fun e w' => ∃ v, e = .returned (.tuple #[v, .int .i64 (tkN T l), .int .i64 (tkC T l)]) ∧ Own w' w.heap.size 2 1 v ((tkL T l).map encI) ∧ Below w.heap.size w w' := by
  have HR := Lib.hid hr
  have HIN := Lib.hid hin
  have c1 := fun W h => shrRight T l A c W hl h
  clear hr hin
  cases h : rightS T l
  · have HN := Lib.hid (show tkN T l = 0 from by unfold tkN; rw [h]; rfl)
    have HC := Lib.hid (show tkC T l = 2 from by unfold tkC; rw [h]; rfl)
    have HL := Lib.hid (show tkL T l = [] from by unfold tkL; rw [h]; rfl)
    rw [h] at c1
    have C1 := Lib.hid c1
    clear c1 h
    go_enter Try.func41, Try.ntmps41
    go_wp2_with (first | (go_at_call 61; (with_reducible refine (C1.out _ (HR.out.keep (by (repeat' (first | (with_reducible exact Below.refl _ _) | (with_reducible assumption) | (with_reducible refine Below.alloc ?_ ?_ _) | (with_reducible refine Below.setCell ?_ ?_ _) | (with_reducible refine Below.drew ?_) | (with_reducible refine below_drewN ?_ _) | (with_reducible refine below_via ?_ (by with_reducible assumption) ?_) | omega | (simp; done) | (simp; omega)))))).mono ?_); rintro e w1 ⟨rfl, hb1⟩; obtain ⟨fc1, fg1, hc1, hf1, hz1⟩ := bget hb1; (try simp at hz1)) | fail)
    refine bodyPost_ret (by simp [results, Try.results41, go_sem]; try rfl) rfl ⟨_, by rw [HN.out, HC.out], by rw [HL.out]; exact Own.nil _ _ _ _, ?_⟩
    (repeat' (first | (with_reducible exact Below.refl _ _) | (with_reducible assumption) | (with_reducible refine Below.alloc ?_ ?_ _) | (with_reducible refine Below.setCell ?_ ?_ _) | (with_reducible refine Below.drew ?_) | (with_reducible refine below_drewN ?_ _) | (with_reducible refine below_via ?_ (by with_reducible assumption) ?_) | omega | (simp; done) | (simp; omega)))
  · obtain ⟨t0, t1⟩ := right_iff.1 h
    have HN := Lib.hid (show tkN T l = tkR T l from by unfold tkN; rw [h]; rfl)
    have HC := Lib.hid (show tkC T l = 0 from by unfold tkC; rw [h]; rfl)
    have HL := Lib.hid (show tkL T l = tkF T l from by unfold tkL; rw [h]; rfl)
    have H0 := Lib.hid t1
    rw [h] at c1
    have C1 := Lib.hid c1
    unfold In64 at hT
    clear c1 h t1
    go_enter Try.func41, Try.ntmps41
    go_wp2_with (first | (go_at_call 61; (with_reducible refine (C1.out _ (HR.out.keep (by (repeat' (first | (with_reducible exact Below.refl _ _) | (with_reducible assumption) | (with_reducible refine Below.alloc ?_ ?_ _) | (with_reducible refine Below.setCell ?_ ?_ _) | (with_reducible refine Below.drew ?_) | (with_reducible refine below_drewN ?_ _) | (with_reducible refine below_via ?_ (by with_reducible assumption) ?_) | omega | (simp; done) | (simp; omega)))))).mono ?_); rintro e w1 ⟨rfl, hb1⟩; obtain ⟨fc1, fg1, hc1, hf1, hz1⟩ := bget hb1; (try simp at hz1)) | (at_make; refine wpList_mk rfl _ _ _ rfl elI w.heap.size _ _ _ l.length rfl rfl (by omega) (by omega) (by unfold maxLen; omega) (by omega) ?_; intro w2 hown2 hb2))
    have Hown2 := Lib.hid hown2
    have Hb2 := Lib.hid (show Below w.heap.size w w2 from by have h1 := hb2; (repeat' (first | (with_reducible exact Below.refl _ _) | (with_reducible assumption) | (with_reducible refine Below.alloc ?_ ?_ _) | (with_reducible refine Below.setCell ?_ ?_ _) | (with_reducible refine Below.drew ?_) | (with_reducible refine below_drewN ?_ _) | (with_reducible refine below_via ?_ (by with_reducible assumption) ?_) | omega | (simp; done) | (simp; omega))))
    clear hown2 hb2
    go_loopw [0, 7, 20] (fun tv v i wr => ∃ (k : Nat) (z : Int) (out : List Int), k ≤ l.length ∧ i = .int .i64 k ∧ tv = .int .i64 z ∧ 0 ≤ z ∧ z ≤ T ∧ out.length = k ∧ Own wr w.heap.size 2 1 v (out.map encI) ∧ tkF T l = out ++ tkF z (l.drop k) ∧ tkR T l = tkR z (l.drop k) ∧ Below w.heap.size w wr) (fun _ _ i _ => l.length - (intOf i).toNat)
    case atStart => exact ⟨0, T, [], Nat.zero_le _, rfl, rfl, t0, by omega, rfl, by simpa using Hown2.out, rfl, rfl, Hb2.out⟩
    case round =>
      obtain ⟨k, z, out, hk, rfl, rfl, z0, z1, hol, hown, h1, h2, hbl⟩ := hrel
      have Hown := Lib.hid hown
      have Hbl := Lib.hid hbl
      have hz := hbl.size
      have G1 := Lib.hid h1
      have G2 := Lib.hid h2
      have hlo : (out.map encI).length ≤ 1000000 := by rw [List.length_map]; omega
      clear hown hbl h1 h2
      by_cases hlt : k < l.length
      · have kl : (k : Int) < (l.length : Int) := by omega
        have dl : decide ((k : Int) < (l.length : Int)) = true := by simpa using hlt
        obtain ⟨b, o, rfl, hb, hc⟩ := HR.out k (encI l[k]) (by simp [hlt])
        have e0 := (Hbl.out.cell (p := ⟨b, o + k * 1 + 0, none⟩) hb).trans (hc 0 _ rfl)
        simp only [Nat.add_zero, Nat.mul_one] at e0
        have hbw : b < wr.heap.size := by omega
        have hx0 := H0.out l[k] (List.getElem_mem hlt)
        have hp0 : 0 ≤ min z l[k] ∧ min z l[k] ≤ z := by omega
        have N1 := Lib.hid (show tkF T l = (out ++ [min z l[k]]) ++ tkF (z - (min z l[k])) (l.drop (k + 1)) from by rw [G1.out, drop_cons' hlt, List.append_assoc]; show out ++ (min z l[k] :: tkF (z - min z l[k]) _) = _; rfl)
        have N2 := Lib.hid (show tkR T l = tkR (z - (min z l[k])) (l.drop (k + 1)) from by rw [G2.out, drop_cons' hlt]; show tkR (z - min z l[k]) _ = _; rfl)
        clear hc
        obtain ⟨x, hxe⟩ : ∃ x, x = l[k] := ⟨_, rfl⟩
        rw [← hxe] at e0 hx0 hp0 N1 N2
        clear hxe
        go_wp2_with (first | (at_builtin; refine wpList_app rfl _ _ _ rfl elI w.heap.size _ _ rfl (Hown.out.alloc _) (some ⟨_, 0, none⟩) 1 1 rfl [encI (min z x)] rfl (fun h => by cases h) (rd_oneN (by simp)) (rowsI1 _) (by unfold maxLen; first | (simp; done) | omega | (simp; omega)) (by first | (simp; done) | omega | (simp; omega)) (by first | omega | (simp; done) | (simp; omega)) ?_; intro v3 w3 hown3 hb3; obtain ⟨fc3, fg3, hc3, hf3, hz3⟩ := bget hb3; (try simp at hz3)) | fail)
        go_roundw
        case rel => exact ⟨k + 1, z - (min z x), out ++ [min z x], by omega, by go_num, by go_num, by omega, by omega, by simp; omega, by rw [List.map_append]; exact hown3, N1.out, N2.out, by have hbl := Hbl.out; (repeat' (first | (with_reducible exact Below.refl _ _) | (with_reducible assumption) | (with_reducible refine Below.alloc ?_ ?_ _) | (with_reducible refine Below.setCell ?_ ?_ _) | (with_reducible refine Below.drew ?_) | (with_reducible refine below_drewN ?_ _) | (with_reducible refine below_via ?_ (by with_reducible assumption) ?_) | omega | (simp; done) | (simp; omega)))⟩
        case measure => simp [intOf]; omega
      · have dl : decide ((k : Int) < (l.length : Int)) = false := by simpa using hlt
        have hd : l.drop k = [] := List.drop_eq_nil_of_le (by omega)
        have E1 := Lib.hid (show tkF T l = out from by rw [G1.out, hd]; simp [tkF])
        have E2 := Lib.hid (show tkR T l = z from by rw [G2.out, hd]; rfl)
        clear hd
        go_wp2_with fail
        have hbl := Hbl.out
        refine bodyPost_ret (by simp [results, Try.results41, go_sem]; try rfl) rfl ⟨_, by rw [HN.out, HC.out, E2.out], by rw [HL.out, E1.out]; exact Hown.out, ?_⟩
        (repeat' (first | (with_reducible exact Below.refl _ _) | (with_reducible assumption) | (with_reducible refine Below.alloc ?_ ?_ _) | (with_reducible refine Below.setCell ?_ ?_ _) | (with_reducible refine Below.drew ?_) | (with_reducible refine below_drewN ?_ _) | (with_reducible refine below_via ?_ (by with_reducible assumption) ?_) | omega | (simp; done) | (simp; omega)))
end Go.Proofs.Ytenehpcliajdnaa
