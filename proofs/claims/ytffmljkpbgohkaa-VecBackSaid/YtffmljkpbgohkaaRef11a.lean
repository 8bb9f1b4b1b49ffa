/- Contracts of the reference's Of (11). -/
import Derived.Test.YtffmljkpbgohkaaBigs
import Derived.Test.YtffmljkpbgohkaaVec2
import Derived.Outline
namespace Go.Proofs.Ytffmljkpbgohkaa
open Go.RowKit
/-- The eight numbers f 1 .. f 8. -/
def f8 (f : Int → Int) : List Int := (List.range 8).map fun (k : Nat) => f ((k : Int) + 1)
theorem f8_at (f : Int → Int) {k : Nat} (h : k < 8) : (f8 f)[k]? = some (f ((k : Int) + 1)) := by simp [f8, h]
theorem f8_len (f : Int → Int) : (f8 f).length = 8 := by simp [f8]
set_option maxRecDepth 100000 in
set_option maxHeartbeats 4000000 in
theorem ref11Of (f : Int → Int) (g c base L : Nat) (w : World) (hL : L ≤ 900000) (hr : OwnB w base L (.slice (some ⟨g, 0, none⟩) 8 c) (f8 f)) :
    Calls Try.prog 63 #[.slice (some ⟨g, 0, none⟩) 8 c] w (LegsPost w (vecC f) (vecL f)) := by
  have HR := Lib.hid hr
  have hf := hr.frozen
  have hg := hf.2.2
  clear hr hf
  go_enter Try.func63, Try.ntmps63
  go_wp2_with fail
  go_loopw [4, 5] (fun v i wr => ∃ j : Nat, j ≤ 8 ∧ i = .int .i64 j ∧ fitN f j = true ∧ Own wr w.heap.size 56 2 v ((sumsL f j).map encLeg) ∧ Below w.heap.size w wr) (fun _ i _ => 8 - (intOf i).toNat)
  case atStart => exact ⟨0, Nat.zero_le _, rfl, rfl, Own.nil _ _ _ _, Below.refl _ _⟩
  case round =>
    obtain ⟨j, hj, rfl, hfit, hown, hbl⟩ := hrel
    have Hfit := Lib.hid hfit
    have Hown := Lib.hid hown
    have Hbl := Lib.hid hbl
    have hz := hbl.size
    have hsl := sumsL_len f j
    clear hfit hown hbl
    by_cases h8 : j < 8
    · obtain ⟨s, A, l, d, c0, c1, hB, hl⟩ := HR.out.at (f8_at f h8)
      have e0 := (Hbl.out.cell (p := ⟨g, j * 2, none⟩) hg).trans c0
      have e1 := (Hbl.out.cell (p := ⟨g, j * 2 + 1, none⟩) hg).trans c1
      have HB := Lib.hid (hB.keep Hbl.out)
      have HSL := Lib.hid (show sumsL f (j + 1) = sumsL f j ++ (if f ((j : Int) + 1) = 0 then [] else [⟨(j : Int) + 1, f ((j : Int) + 1)⟩]) from rfl)
      have HFN := Lib.hid (show fitN f (j + 1) = (fitN f j && in64 (f ((j : Int) + 1))) from rfl)
      have HNO := fun h => fit_no (f := f) h8 h
      obtain ⟨n, hn⟩ : ∃ n, n = f ((j : Int) + 1) := ⟨_, rfl⟩
      rw [← hn] at HB HSL HFN HNO
      clear c0 c1 hB hn
      cases h64 : in64 n
      · have HF := Lib.hid (HNO h64)
        have c2 := fun W (h : IsBig W n s A l d) => bigFits n s l A d L W hL hl h
        rw [h64] at c2
        have C2 := Lib.hid c2
        clear c2 h64 HNO
        go_wp2_with (go_at_call 72; (with_reducible refine (C2.out _ HB.out).mono ?_); rintro e w2 ⟨rfl, hb2⟩; have hz2 := hb2.size; have Hb2 := Lib.hid hb2; clear hb2)
        go_ret2
        exact ⟨_, by rw [vecC, HF.out]; rfl, by rw [vecL, HF.out]; exact Own.nil _ _ _ _, by (have hbl := Hbl.out; have hb2 := Hb2.out; (repeat' (first | (with_reducible exact Below.refl _ _) | (with_reducible assumption) | (with_reducible refine Below.alloc ?_ ?_ _) | (with_reducible refine Below.setCell ?_ ?_ _) | (with_reducible refine Below.drew ?_) | (with_reducible refine below_drewN ?_ _) | (with_reducible refine below_via ?_ (by with_reducible assumption) ?_) | omega | (simp; done) | (simp; omega))))⟩
      · have HF := Lib.hid (show fitN f (j + 1) = true from by rw [HFN.out, Hfit.out, h64]; rfl)
        have I64 := Lib.hid (in64_iff.1 h64)
        have c2 := fun W (h : IsBig W n s A l d) => bigFits n s l A d L W hL hl h
        rw [h64] at c2
        have C2 := Lib.hid c2
        clear c2 h64 HNO
        cases hq : (n == 0)
        · have HNE := Lib.hid (show sumsL f (j + 1) = sumsL f j ++ [⟨(j : Int) + 1, n⟩] from by rw [HSL.out, if_neg (by simpa using hq)])
          go_wp2_with (first | (go_at_call 72; (with_reducible refine (C2.out _ HB.out).mono ?_); rintro e w2 ⟨rfl, hb2⟩; obtain ⟨fc2, fg2, hc2, hf2, hz2⟩ := bget hb2; (try simp at hz2); have Hb2 := Lib.hid hb2; clear hb2) | (go_at_call 73; (with_reducible refine (bigInt n s l A d _ (by omega) I64.out (HB.out.keep Hb2.out)).mono ?_); rintro e w3 ⟨rfl, hb3⟩; obtain ⟨fc3, fg3, hc3, hf3, hz3⟩ := bget hb3; (try simp at hz3); have Hb3 := Lib.hid hb3; clear hb3) | (at_builtin; refine wpList_app rfl _ _ _ rfl elLeg w.heap.size _ _ rfl ((((Hown.out.keep Hb2.out).keep Hb3.out)).alloc _) (some ⟨w3.heap.size, 0, none⟩) 1 1 rfl [encLeg ⟨(j : Int) + 1, n⟩] rfl (fun h => by cases h) rd_one (rowsLeg [⟨(j : Int) + 1, n⟩]) (by unfold maxLen; first | (simp; done) | omega | (simp; omega)) (by first | (simp; done) | omega | (simp; omega)) (by first | omega | (simp; done) | (simp; omega)) ?_; intro v' w6 hown6 hb6))
          go_roundw
          case rel => exact ⟨j + 1, by omega, by go_num, HF.out, by rw [HNE.out, List.map_append]; exact hown6, by have hbl := Hbl.out; have hb2 := Hb2.out; have hb3 := Hb3.out; (repeat' (first | (with_reducible exact Below.refl _ _) | (with_reducible assumption) | (with_reducible refine Below.alloc ?_ ?_ _) | (with_reducible refine Below.setCell ?_ ?_ _) | (with_reducible refine Below.drew ?_) | (with_reducible refine below_drewN ?_ _) | (with_reducible refine below_via ?_ (by with_reducible assumption) ?_) | omega | (simp; done) | (simp; omega)))⟩
          case measure => simp [intOf]; omega
        · have HNE := Lib.hid (show sumsL f (j + 1) = sumsL f j from by rw [HSL.out, if_pos (by simpa using hq), List.append_nil])
          go_wp2_with (first | (go_at_call 72; (with_reducible refine (C2.out _ HB.out).mono ?_); rintro e w2 ⟨rfl, hb2⟩; obtain ⟨fc2, fg2, hc2, hf2, hz2⟩ := bget hb2; (try simp at hz2); have Hb2 := Lib.hid hb2; clear hb2) | (go_at_call 73; (with_reducible refine (bigInt n s l A d _ (by omega) I64.out (HB.out.keep Hb2.out)).mono ?_); rintro e w3 ⟨rfl, hb3⟩; obtain ⟨fc3, fg3, hc3, hf3, hz3⟩ := bget hb3; (try simp at hz3); have Hb3 := Lib.hid hb3; clear hb3))
          go_roundw
          case rel => exact ⟨j + 1, by omega, by go_num, HF.out, by rw [HNE.out]; exact (Hown.out.keep Hb2.out).keep Hb3.out, by have hbl := Hbl.out; have hb2 := Hb2.out; have hb3 := Hb3.out; (repeat' (first | (with_reducible exact Below.refl _ _) | (with_reducible assumption) | (with_reducible refine Below.alloc ?_ ?_ _) | (with_reducible refine Below.setCell ?_ ?_ _) | (with_reducible refine Below.drew ?_) | (with_reducible refine below_drewN ?_ _) | (with_reducible refine below_via ?_ (by with_reducible assumption) ?_) | omega | (simp; done) | (simp; omega)))⟩
          case measure => simp [intOf]; omega
    · obtain rfl : j = 8 := by omega
      go_wp2_with fail
      go_ret2
      exact ⟨_, by rw [vecC, Hfit.out]; rfl, by rw [vecL, Hfit.out]; exact Hown.out, Hbl.out⟩
end Go.Proofs.Ytffmljkpbgohkaa
