/- Contract of vec.Add. -/
import Derived.Test.YtffmljkpbgohkaaVec1
import Derived.Outline
namespace Go.Proofs.Ytffmljkpbgohkaa
open Go.RowKit
def sumG (ls : List (List Leg)) (i : Int) : Int := (ls.map (getF i)).sum
/-- The legs of the instruments 1 .. n by these numbers. -/
def sumsL (f : Int → Int) : Nat → List Leg
  | 0 => []
  | n + 1 => sumsL f n ++ (if f ((n : Int) + 1) = 0 then [] else [⟨(n : Int) + 1, f ((n : Int) + 1)⟩])
def fitN (f : Int → Int) : Nat → Bool
  | 0 => true
  | n + 1 => fitN f n && in64 (f ((n : Int) + 1))
def vecC (f : Int → Int) : Int := if fitN f 8 then 0 else 7
def vecL (f : Int → Int) : List Leg := if fitN f 8 then sumsL f 8 else []
def addC (ls : List (List Leg)) : Int := if allV ls then vecC (sumG ls) else 3
def addL (ls : List (List Leg)) : List Leg := if allV ls then vecL (sumG ls) else []
theorem fit_mono {f : Int → Int} {n m : Nat} (h : n ≤ m) (hm : fitN f m = true) : fitN f n = true := by
  induction m with
  | zero => obtain rfl : n = 0 := by omega
            rfl
  | succ m ih =>
    rcases Nat.lt_or_ge n (m + 1) with h1 | h1
    · simp only [fitN, Bool.and_eq_true] at hm; exact ih (by omega) hm.1
    · obtain rfl : n = m + 1 := by omega
      exact hm
theorem fit_no {f : Int → Int} {n : Nat} (hn : n < 8) (h : in64 (f ((n : Int) + 1)) = false) : fitN f 8 = false := by
  cases h8 : fitN f 8 with
  | false => rfl
  | true =>
    have := fit_mono (show n + 1 ≤ 8 from hn) h8
    simp [fitN, h] at this
theorem sumsL_len (f : Int → Int) : ∀ n, (sumsL f n).length ≤ n
  | 0 => by simp [sumsL]
  | n + 1 => by
    have := sumsL_len f n
    simp only [sumsL, List.length_append]
    split <;> simp <;> omega
def LegsPost (w : World) (c : Int) (l : List Leg) (e : Ending) (w' : World) : Prop :=
  ∃ v, e = .returned (.tuple #[v, .int .i64 c]) ∧ Own w' w.heap.size 56 2 v (l.map encLeg) ∧ Below w.heap.size w w'
/-- Legs whose numbers are of 64 bits. -/
def Legs64 (l : List Leg) : Prop := ∀ x ∈ l, In64 x.qty
theorem get64 {l : List Leg} {i : Int} (h : Legs64 l) : In64 (getF i l) := by
  induction l with
  | nil => simp [getF, In64]
  | cons x l ih =>
    simp only [getF]
    split
    · exact h x (by simp)
    · exact ih fun y hy => h y (by simp [hy])
theorem elI : Elem Try.prog 90 2 1 8 := elem_of Try.underlying90 (z := .int .i64 0) (by kernel_rfl) rfl (by omega)
theorem rowsI (l : List Int) : ∀ r ∈ l.map encI, r.length = 1 ∧ ∀ u ∈ r, u.oneCell' = true := by
  intro r hr
  obtain ⟨m, _, rfl⟩ := List.mem_map.1 hr
  exact ⟨rfl, by simp [encI]; rfl⟩
set_option maxRecDepth 100000 in
set_option maxHeartbeats 4000000 in
theorem vecAdd (ls : List (List Leg)) (A : Option Addr) (c : Nat) (w : World) (hl : Short ls) (h64 : ∀ l ∈ ls, Legs64 l) (hr : RsS 2 encLeg w ls A c) :
    Calls Try.prog 18 #[.slice A ls.length c] w (LegsPost w (addC ls) (addL ls)) := by
  have HR := Lib.hid hr
  have HL := Lib.hid hl
  have H64 := Lib.hid h64
  have hl1 := hl.1
  clear hr hl h64
  cases ha : allV ls
  · have HC := Lib.hid (show addC ls = 3 from by unfold addC; rw [ha]; rfl)
    have HA := Lib.hid (show addL ls = [] from by unfold addL; rw [ha]; rfl)
    have C1 := Lib.hid (fun W h => ha ▸ vecContains ls A c W HL.out h)
    clear ha
    go_enter Try.func18, Try.ntmps18
    go_wp2_with (go_at_call 58; (with_reducible refine (C1.out _ HR.out).mono ?_); rintro e w1 ⟨rfl, hb1⟩; obtain ⟨fc1, fg1, hc1, hf1, hz1⟩ := bget hb1; try simp at hz1)
    go_ret2
    exact ⟨_, by rw [HC.out]; rfl, by rw [HA.out]; exact Own.nil _ _ _ _, by (repeat' (first | (with_reducible exact Below.refl _ _) | (with_reducible assumption) | (with_reducible refine Below.alloc ?_ ?_ _) | (with_reducible refine Below.setCell ?_ ?_ _) | (with_reducible refine Below.drew ?_) | (with_reducible refine below_drewN ?_ _) | (with_reducible refine below_via ?_ (by with_reducible assumption) ?_) | omega | (simp; done) | (simp; omega)))⟩
  have HC := Lib.hid (show addC ls = vecC (sumG ls) from by unfold addC; rw [ha]; rfl)
  have HA := Lib.hid (show addL ls = vecL (sumG ls) from by unfold addL; rw [ha]; rfl)
  have C1 := Lib.hid (fun W h => ha ▸ vecContains ls A c W HL.out h)
  clear ha
  go_enter Try.func18, Try.ntmps18
  go_wp2_with (go_at_call 58; (with_reducible refine (C1.out _ HR.out).mono ?_); rintro e w1 ⟨rfl, hb1⟩; obtain ⟨fc1, fg1, hc1, hf1, hz1⟩ := bget hb1; try simp at hz1)
  have Hb1 := Lib.hid hb1
  clear hc1 hf1 hb1
  go_loopw [4, 5] (fun v i wr => ∃ j : Nat, j ≤ 8 ∧ i = .int .i64 ((j : Int) + 1) ∧ fitN (sumG ls) j = true ∧ Own wr w.heap.size 56 2 v ((sumsL (sumG ls) j).map encLeg) ∧ Below w.heap.size w wr) (fun _ i _ => 9 - (intOf i).toNat)
  case atStart => exact ⟨0, Nat.zero_le _, rfl, rfl, Own.nil _ _ _ _, Hb1.out⟩
  case round =>
    obtain ⟨j, hj, rfl, hfit, hown, hbl⟩ := hrel
    have Hfit := Lib.hid hfit
    have Hown := Lib.hid hown
    have Hbl := Lib.hid hbl
    have hz := hbl.size
    have hsl := sumsL_len (sumG ls) j
    clear hfit hown hbl
    by_cases h8 : j < 8
    · have d8 : decide ((j : Int) + 1 ≤ 8) = true := by simp; omega
      obtain ⟨wo, hwo⟩ : ∃ wo : World, wo = wr := ⟨_, rfl⟩
      subst hwo
      go_wp2_with fail
      go_loopw [6, 19] (fun v i wr => ∃ k : Nat, k ≤ ls.length ∧ i = .int .i64 k ∧ Own wr wo.heap.size 2 1 v (((ls.map (getF ((j : Int) + 1))).take k).map encI) ∧ Below wo.heap.size wo wr) (fun _ i _ => ls.length - (intOf i).toNat)
      case atStart => exact ⟨0, Nat.zero_le _, rfl, Own.nil _ _ _ _, Below.refl _ _⟩
      case round =>
        obtain ⟨k, hk, rfl, hown2, hbl2⟩ := hrel
        have Hown2 := Lib.hid hown2
        have Hbl2 := Lib.hid hbl2
        have hz2 := hbl2.size
        clear hown2 hbl2
        by_cases hlt : k < ls.length
        · obtain ⟨b, o, B, d, rfl, hb, hq, hrk⟩ := HR.out.row hlt
          have hball := Hbl.out.trans (Hbl2.out.mono hz)
          have e0 := (hball.cell (p := ⟨b, o + k, none⟩) hb).trans hq
          have HK := Lib.hid (hrk.keep hball)
          have HKL := HL.out.pt hlt
          have HS : Hid (((ls.map (getF ((j : Int) + 1))).take (k + 1)).map encI = ((ls.map (getF ((j : Int) + 1))).take k).map encI ++ [encI (getF ((j : Int) + 1) ls[k])]) := by
            unfold Hid; rw [map_snoc (by simpa using hlt)]; simp
          have hlen : (((ls.map (getF ((j : Int) + 1))).take k).map encI).length ≤ k := by simp; omega
          clear hq hrk hball
          obtain ⟨g, hg⟩ : ∃ g, g = getF ((j : Int) + 1) ls[k] := ⟨_, rfl⟩
          have c3 := fun W (h : Rd W B 2 (ls[k].map encLeg)) => vecGet ls[k] ((j : Int) + 1) B d W HKL h
          rw [← hg] at HS c3
          have C3 := Lib.hid c3
          clear hg c3
          go_wp2_with (first | (go_at_call 16; (with_reducible refine (C3.out _ HK.out.rd).mono ?_); rintro e w3 ⟨rfl, hb3⟩; have hz3 := hb3.size; have Hb3 := Lib.hid hb3; clear hb3) | (at_builtin; refine wpList_app rfl _ _ _ rfl elI wo.heap.size _ _ rfl ((Hown2.out.keep Hb3.out).alloc _) (some ⟨w3.heap.size, 0, none⟩) 1 1 rfl [encI g] rfl (fun h => by cases h) rd_one (rowsI [g]) (by unfold maxLen; omega) (by omega) (by simp; omega) ?_; intro v' w4 hown4 hb4))
          go_roundw
          case rel => exact ⟨k + 1, by omega, by go_num, by rw [HS.out]; exact hown4, ((Hbl2.out.trans (Hb3.out.mono hz2)).alloc (by omega) _).trans hb4⟩
          case measure => simp [intOf]; omega
        · obtain rfl : k = ls.length := by omega
          have ho := Hown2.out
          rw [List.take_of_length_le (by simp)] at ho
          obtain ⟨A', c', rfl, _, _, hr', _⟩ := ho.shape
          obtain ⟨is, his⟩ : ∃ is, is = ls.map (getF ((j : Int) + 1)) := ⟨_, rfl⟩
          have hisl : is.length = ls.length := by rw [his, List.length_map]
          have hsum : is.sum = sumG ls ((j : Int) + 1) := by rw [his]; rfl
          have hi64 : ∀ n ∈ is, In64 n := by
            rw [his]; intro n hn; obtain ⟨l, h1, rfl⟩ := List.mem_map.1 hn; exact get64 (H64.out l h1)
          rw [← his] at hr'
          have Hr' := Lib.hid hr'
          have I64 := Lib.hid hi64
          have lis : is.length ≤ 1099511627776 := by omega
          rw [← his]
          have HSM := Lib.hid hsum
          clear hr' ho his hi64 hisl hsum
          simp only [List.length_map]
          cases h64 : in64 is.sum
          · have N64 := Lib.hid (in64_no h64)
            have HF := Lib.hid (fit_no (f := sumG ls) h8 (by rw [← HSM.out]; exact h64))
            clear h64
            go_wp2_with (go_at_call 60; (with_reducible refine (fixSumNo is A' c' _ lis I64.out Hr'.out N64.out).mono ?_); rintro e w5 ⟨rfl, hb5⟩; have Hb5 := Lib.hid hb5; clear hb5)
            go_ret2
            exact ⟨_, by rw [HC.out, vecC, HF.out]; rfl, by rw [HA.out, vecL, HF.out]; exact Own.nil _ _ _ _, Hbl.out.trans ((Hbl2.out.mono hz).trans (Hb5.out.mono (by omega)))⟩
          · have N64 := Lib.hid (in64_iff.1 h64)
            have HF := Lib.hid (show fitN (sumG ls) (j + 1) = true from by rw [fitN, Hfit.out, ← HSM.out, h64]; rfl)
            clear h64
            obtain ⟨n, hn⟩ : ∃ n, n = is.sum := ⟨_, rfl⟩
            have c5 := fun W h => fixSumYes is A' c' W lis I64.out h N64.out
            rw [← hn] at HSM c5
            have C5 := Lib.hid c5
            clear c5 hn
            cases hq : (n == 0)
            · have hne : sumsL (sumG ls) (j + 1) = sumsL (sumG ls) j ++ [⟨(j : Int) + 1, n⟩] := by
                rw [sumsL, ← HSM.out, if_neg (by simpa using hq)]
              have HNE := Lib.hid hne
              clear hne
              go_wp2_with (first | (go_at_call 60; (with_reducible refine (C5.out _ Hr'.out).mono ?_); rintro e w5 ⟨rfl, hb5⟩; have hz5 := hb5.size; have Hb5 := Lib.hid hb5; clear hb5) | (at_builtin; refine wpList_app rfl _ _ _ rfl elLeg w.heap.size _ _ rfl (((Hown.out.keep Hbl2.out).keep Hb5.out).alloc _) (some ⟨w5.heap.size, 0, none⟩) 1 1 rfl [encLeg ⟨(j : Int) + 1, n⟩] rfl (fun h => by cases h) rd_one (rowsLeg [⟨(j : Int) + 1, n⟩]) (by unfold maxLen; simp; omega) (by simp; omega) (by simp; omega) ?_; intro v' w6 hown6 hb6))
              go_roundw
              case rel => exact ⟨j + 1, by omega, by go_num, HF.out, by rw [HNE.out, List.map_append]; exact hown6, ((Hbl.out.trans ((Hbl2.out.mono hz).trans (Hb5.out.mono (by omega)))).alloc (by omega) _).trans hb6⟩
              case measure => simp [intOf]; omega
            · have hne : sumsL (sumG ls) (j + 1) = sumsL (sumG ls) j := by
                rw [sumsL, ← HSM.out, if_pos (by simpa using hq), List.append_nil]
              have HNE := Lib.hid hne
              clear hne
              go_wp2_with (go_at_call 60; (with_reducible refine (C5.out _ Hr'.out).mono ?_); rintro e w5 ⟨rfl, hb5⟩; have hz5 := hb5.size; have Hb5 := Lib.hid hb5; clear hb5)
              go_roundw
              case rel => exact ⟨j + 1, by omega, by go_num, HF.out, by rw [HNE.out]; exact (Hown.out.keep Hbl2.out).keep Hb5.out, Hbl.out.trans ((Hbl2.out.mono hz).trans (Hb5.out.mono (by omega)))⟩
              case measure => simp [intOf]; omega
    · obtain rfl : j = 8 := by omega
      go_wp2_with fail
      go_ret2
      exact ⟨_, by rw [HC.out, vecC, Hfit.out]; rfl, by rw [HA.out, vecL, Hfit.out]; exact Hown.out, Hbl.out⟩
end Go.Proofs.Ytffmljkpbgohkaa
