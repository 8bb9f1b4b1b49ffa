/- The contract of the reference's Digits. -/
import Derived.Test.YtjolddbfkcbnpaaBig10
import Derived.Test.YtjolddbfkcbnpaaWide8
import Derived.Laws.Concat
namespace Go.Proofs.Ytjolddbfkcbnpaa
open Go.RowKit
theorem str_size (l : List Int) : (str l).size = l.length := by simp [str, ByteArray.size]
theorem str_one {x : Int} (h0 : 0 ≤ x) (h1 : x ≤ 255) : [x] = [((UInt8.ofNat x.toNat).toNat : Int)] := by rw [u8_back h0 h1]
theorem str_toList (l : List Int) : (str l).toList = l.map fun b => UInt8.ofNat b.toNat := by rw [Lib.toList_data]; simp [str]
theorem conv1 (W : World) (g : Nat) (x : Int) (h0 : 0 ≤ x) (h1 : x ≤ 255) (hg : W.cell? ⟨g, 0, none⟩ = some (.int .u8 x)) : (convert 27 9 (.slice (some ⟨g, 0, none⟩) 1 1)).run Try.prog W = .ok (.string (str [x])) W := by
  have h := run_convert_bytes_back (P := Try.prog) W 27 9 5 ⟨g, 0, none⟩ 1 [UInt8.ofNat x.toNat] Try.underlying27 Try.underlying5 Try.underlying9 (fun j hj => by
    have hj0 : j = 0 := by simpa using hj
    subst hj0
    simp only [List.getElem_cons_zero]
    rw [addr_plain, u8_back h0 h1]
    exact hg)
  exact h
def vsize : Value → Nat
  | .string b => b.size
  | _ => 0
theorem left_pos {w : World} {k : Nat} {s : Bool} {A : Option Addr} {l : List Int} {c : Nat} (h : IsBig w (k : Int) s A l c) : (0 < l.length) ↔ k ≠ 0 := by
  constructor
  · intro hl hk
    subst hk
    have := big_zero h
    rw [this] at hl; simp at hl
  · intro hk
    exact big_len_pos h (by omega)
set_option maxRecDepth 100000 in
set_option maxHeartbeats 8000000 in
theorem bigDigits (n : Int) (s : Bool) (l : List Int) (A : Option Addr) (c : Nat) (w : World) (hn : In128 n) (hl : l.length ≤ 200) (hB : IsBig w n s A l c) :
    Calls Try.prog 26 #[.agg #[.bool s, .slice A l.length c]] w fun e w' => e = .returned (.string (textB n)) ∧ Below w.heap.size w w' := by
  have hmn : iabs n = (n.natAbs : Nat) := iabs_nat n
  have hm : iabs n ≤ 170141183460469231731687303715884105728 := by unfold In128 at hn; unfold iabs; split <;> omega
  obtain ⟨M, hM⟩ : ∃ M, M = n.natAbs := ⟨_, rfl⟩
  rw [← hM] at hmn
  rw [hmn] at hm
  have h40 : M < 10 ^ 40 := by omega
  have HM := Lib.hid hM
  have HS := Lib.hid hB.sgn
  have HB := Lib.hid (show IsBig w (M : Int) false A l c from ⟨hB.rd, hB.bit, hB.top, by rw [hB.val, hmn, iabs_pos (by omega)], hB.cap, hB.room, by simp⟩)
  clear hB hM hmn
  go_enter Try.func26, Try.ntmps26
  go_wp2_with fail
  go_loopw [3] (fun v wr => ∃ (o : List Int) (f k : Nat) (s2 : Bool) (A2 : Option Addr) (l2 : List Int) (c2 : Nat), v = .string (str o.reverse) ∧ f + o.length = 40 ∧ k < 10 ^ f ∧ o ++ left o f k = dgs 40 M ∧ IsBig wr (k : Int) s2 A2 l2 c2 ∧ l2.length ≤ 200 + 65 * o.length ∧ Blk wr (w.heap.size + 1) 29 #[.bool s2, .slice A2 l2.length c2] ∧ Below (w.heap.size + 1) (w.alloc (.cells #[.bool s, .slice A l.length c] 29)) wr) (fun v _ => 40 - vsize v)
  case atStart => exact ⟨[], 40, M, false, A, l, c, rfl, rfl, h40, left_start M, HB.out.keep (by (repeat' (first | (with_reducible exact Below.refl _ _) | (with_reducible assumption) | (with_reducible refine Below.alloc ?_ ?_ _) | (with_reducible refine Below.setCell ?_ ?_ _) | (with_reducible refine Below.drew ?_) | (with_reducible refine below_drewN ?_ _) | (with_reducible refine below_via ?_ (by with_reducible assumption) ?_) | omega | (simp; done) | (simp; omega)))), by simpa using hl, Blk.here (by simp), by (repeat' (first | (with_reducible exact Below.refl _ _) | (with_reducible assumption) | (with_reducible refine Below.alloc ?_ ?_ _) | (with_reducible refine Below.setCell ?_ ?_ _) | (with_reducible refine Below.drew ?_) | (with_reducible refine below_drewN ?_ _) | (with_reducible refine below_via ?_ (by with_reducible assumption) ?_) | omega | (simp; done) | (simp; omega)))⟩
  case round =>
    obtain ⟨o, f, k, s2, A2, l2, c2, rfl, hfo, hkf, hleft, hB2, hl2, hbk, hbl⟩ := hrel
    have hz := hbl.size
    simp at hz
    have n0 := (hbl.cell (p := ⟨w.heap.size, 0, none⟩) (by simp))
    have n1 := (hbl.cell (p := ⟨w.heap.size, 1, none⟩) (by simp))
    simp at n0 n1
    have x0 := hbk.cell 0
    have x1 := hbk.cell 1
    have z0 := hbk.frozen 0
    have z1 := hbk.frozen 1
    have ug := hbk.lt
    simp at x0 x1
    have ho40 : o.length ≤ 40 := by omega
    have HF := Lib.hid hfo
    have HK := Lib.hid hkf
    have HL := Lib.hid hleft
    have HB2 := Lib.hid hB2
    have Hbk := Lib.hid hbk
    have Hbl := Lib.hid hbl
    obtain ⟨S, hS⟩ : ∃ S, S = str o.reverse := ⟨_, rfl⟩
    rw [← hS]
    have HSo := Lib.hid hS
    have hSs : S.size = o.length := by rw [hS, str_size, List.length_reverse]
    have hSl : S.size ≤ 40 := by omega
    have HSs := Lib.hid hSs
    clear hS hSs hfo hkf hleft hB2 hbk hbl
    have hST : S.toList = o.reverse.map fun b => UInt8.ofNat b.toNat := by rw [HSo.out, str_toList]
    by_cases hgo : o = [] ∨ k ≠ 0
    · obtain ⟨g, hg, hst, hkg⟩ := left_step HF.out HK.out hgo
      have HST := Lib.hid hst
      have HG := Lib.hid hg
      have HKG := Lib.hid hkg
      clear hst hg hkg
      have ho39 : o.length ≤ 39 := by have h1 := HF.out; have h2 := HG.out; omega
      have hq : 0 ≤ (k : Int) % 10 ∧ (k : Int) % 10 ≤ 9 := by omega
      have hcond : S.toList = [] ∨ (¬ S.toList = [] ∧ S.toList.isEmpty = false ∧ decide (0 < l2.length) = true) := by
        by_cases h : o = []
        · exact .inl (by rw [hST, h]; rfl)
        · have h2 : ¬ S.toList = [] := by rw [hST]; simpa using h
          exact .inr ⟨h2, by rw [List.isEmpty_eq_false_iff]; exact h2, by simpa using (left_pos HB2.out).2 (hgo.resolve_left h)⟩
      clear hgo hST
      rcases hcond with he | ⟨he, he2, he3⟩
      all_goals
        go_wp2_with (first | (go_at_call 33; (with_reducible refine (bigDiv k 10 s2 l2 A2 c2 (200 + 65 * o.length) _ (by omega) (by omega) (by omega) hl2 (HB2.out.keep (by (repeat' (first | (with_reducible exact Below.refl _ _) | (with_reducible assumption) | (with_reducible refine Below.alloc ?_ ?_ _) | (with_reducible refine Below.setCell ?_ ?_ _) | (with_reducible refine Below.drew ?_) | (with_reducible refine below_drewN ?_ _) | (with_reducible refine below_via ?_ (by with_reducible assumption) ?_) | omega | (simp; done) | (simp; omega)))))).mono ?_); rintro e w3 ⟨s3, A3, l3, c3, rfl, hB3, hl3, hb3⟩; have HB3 := Lib.hid hB3; clear hB3; obtain ⟨fc3, fg3, hc3, hf3, hz3⟩ := bget hb3; (try simp at hz3); have hconv := conv1 ((w3.alloc (.cells #[.bool s3, .slice A3 l3.length c3] 29)).alloc (.cells #[.int .u8 (48 + (k : Int) % 10)] 5)) (w3.heap.size + 1) (48 + (k : Int) % 10) (by omega) (by omega) (by simp [go_sem]); have hadd := run_string_add_sum (P := Try.prog) (w := (w3.alloc (.cells #[.bool s3, .slice A3 l3.length c3] 29)).alloc (.cells #[.int .u8 (48 + (k : Int) % 10)] 5)) (str [48 + (k : Int) % 10]) S (by rw [str_size]; simp; omega); rw [show str [48 + (k : Int) % 10] ++ S = str (o ++ [48 + (k : Int) % 10]).reverse from (by rw [HSo.out, str_cons, List.reverse_append]; rfl)] at hadd) | fail)
        go_roundw
        case rel =>
          have hx : ((48 + k % 10 : Nat) : Int) = 48 + (k : Int) % 10 := by omega
          have hkd : ((k / 10 : Nat) : Int) = (k : Int) / 10 := by omega
          have h3 : Below wr.heap.size wr w3 := by (repeat' (first | (with_reducible exact Below.refl _ _) | (with_reducible assumption) | (with_reducible refine Below.alloc ?_ ?_ _) | (with_reducible refine Below.setCell ?_ ?_ _) | (with_reducible refine Below.drew ?_) | (with_reducible refine below_drewN ?_ _) | (with_reducible refine below_via ?_ (by with_reducible assumption) ?_) | omega | (simp; done) | (simp; omega)))
          have t0 : ((w3.alloc (.cells #[.bool s3, .slice A3 l3.length c3] 29)).alloc (.cells #[.int .u8 (48 + (k : Int) % 10)] 5)).cell? ⟨w.heap.size + 1, 0, none⟩ = some (.bool s2) := by simp [go_sem, hc3, x0, ↓IntWalk.iteOmega]
          have t1 : ((w3.alloc (.cells #[.bool s3, .slice A3 l3.length c3] 29)).alloc (.cells #[.int .u8 (48 + (k : Int) % 10)] 5)).cell? ⟨w.heap.size + 1, 1, none⟩ = some (.slice A2 l2.length c2) := by simp [go_sem, hc3, x1, ↓IntWalk.iteOmega]
          refine ⟨o ++ [((48 + k % 10 : Nat) : Int)], g, k / 10, s3, A3, l3, c3, ?_, ?_, HKG.out, ?_, ?_, ?_, ?_, ?_⟩
          · rw [hx]; simp
          · have h1 := HF.out; have h2 := HG.out; simp; omega
          · rw [← HST.out]; exact HL.out
          · rw [hkd]
            exact ((HB3.out.keep (((Below.refl w3.heap.size w3).alloc (Nat.le_refl _) _).alloc (by simp) _)).far t0 (by simp) _).far ((World.cell?_setCell_other _ _ _ _ (by simp)).trans t1) (by simp) _
          · simp; omega
          · have h5 := ((((Hbk.out.below h3 ug).alloc (.cells #[.bool s3, .slice A3 l3.length c3] 29)).alloc (.cells #[.int .u8 (48 + (k : Int) % 10)] 5)).set 0 (.bool s3)).set 1 (.slice A3 l3.length c3)
            simpa using h5
          · have hbl := Hbl.out
            (repeat' (first | (with_reducible exact Below.refl _ _) | (with_reducible assumption) | (with_reducible refine Below.alloc ?_ ?_ _) | (with_reducible refine Below.setCell ?_ ?_ _) | (with_reducible refine Below.drew ?_) | (with_reducible refine below_drewN ?_ _) | (with_reducible refine below_via ?_ (by with_reducible assumption) ?_) | omega | (simp; done) | (simp; omega)))
        case measure =>
          have h1 := HSs.out
          simp [vsize, str_size]
          omega
    · have hne : ¬ o = [] := fun h => hgo (.inl h)
      have hk0 : k = 0 := Decidable.byContradiction fun h => hgo (.inr h)
      have hoe : o = dgs 40 M := by rw [← HL.out]; exact (left_end hgo).symm
      have he : ¬ S.toList = [] := by rw [hST]; simpa using hne
      have he2 : S.toList.isEmpty = false := by rw [List.isEmpty_eq_false_iff]; exact he
      have he3 : decide (0 < l2.length) = false := by
        have := left_pos HB2.out
        simp; exact Decidable.byContradiction fun h => (this.1 (by have := List.length_pos_iff.2 h; omega)) hk0
      have HOE := Lib.hid hoe
      have hs := HS.out
      clear hgo hne hk0 hoe hST
      have HTX : Hid ((if n < 0 then 45 :: o.reverse else o.reverse) = (back n).reverse) := Lib.hid (by unfold back; rw [← HM.out, ← HOE.out]; split <;> simp)
      cases s
      · have hn0 : ¬ n < 0 := by simpa using hs
        clear hs
        have HR := Lib.hid (show S = textB n from by rw [HSo.out]; unfold textB; rw [← HTX.out, if_neg hn0])
        go_wp2_with fail
        go_ret
        exact ⟨by rw [← HR.out]; first | done | rfl, by have hbl := Hbl.out.mono (show w.heap.size ≤ w.heap.size + 1 by omega); (repeat' (first | (with_reducible exact Below.refl _ _) | (with_reducible assumption) | (with_reducible refine Below.alloc ?_ ?_ _) | (with_reducible refine Below.setCell ?_ ?_ _) | (with_reducible refine Below.drew ?_) | (with_reducible refine below_drewN ?_ _) | (with_reducible refine below_via ?_ (by with_reducible assumption) ?_) | omega | (simp; done) | (simp; omega)))⟩
      · have hn0 : n < 0 := by simpa using hs.symm
        clear hs
        have HR := Lib.hid (show (⟨#[45]⟩ : ByteArray) ++ S = textB n from by rw [HSo.out, show (⟨#[45]⟩ : ByteArray) = str [45] from rfl, str_cons]; unfold textB; rw [← HTX.out, if_pos hn0])
        have hadd := run_string_add_sum (P := Try.prog) (w := wr) ⟨#[45]⟩ S (by show 1 + S.size ≤ _; omega)
        rw [HR.out] at hadd
        go_wp2_with fail
        go_ret
        exact ⟨rfl, by have hbl := Hbl.out.mono (show w.heap.size ≤ w.heap.size + 1 by omega); (repeat' (first | (with_reducible exact Below.refl _ _) | (with_reducible assumption) | (with_reducible refine Below.alloc ?_ ?_ _) | (with_reducible refine Below.setCell ?_ ?_ _) | (with_reducible refine Below.drew ?_) | (with_reducible refine below_drewN ?_ _) | (with_reducible refine below_via ?_ (by with_reducible assumption) ?_) | omega | (simp; done) | (simp; omega)))⟩
end Go.Proofs.Ytjolddbfkcbnpaa
