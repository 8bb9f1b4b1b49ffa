/- Layer 2: the reference's Product. -/
import Derived.Test.YtjolddbfkcbnpaaLawF5
namespace Go.Proofs.Ytjolddbfkcbnpaa
open Go.RowKit
def ProdPost (w : World) (l : List Int) (e : Ending) (w' : World) : Prop :=
  ∃ s A l2 c n, e = .returned (.tuple #[.agg #[.bool s, .slice A l2.length c], .bool (prodF 1 l).isSome]) ∧ IsBig w' n s A l2 c ∧ l2.length ≤ 200 ∧ (∀ p, prodF 1 l = some p → n = p) ∧ Below w.heap.size w w'
set_option maxRecDepth 100000 in
set_option maxHeartbeats 16000000 in
theorem refProduct (l : List Int) (A : Option Addr) (c : Nat) (w : World) (h40 : l.length ≤ 40) (hin : ∀ n ∈ l, In64 n) (hr : Rd w A 1 (l.map encI)) :
    Calls Try.prog 40 #[.slice A l.length c] w (ProdPost w l) := by
  have HR := Lib.hid hr
  have HIN := Lib.hid hin
  clear hr hin
  go_enter Try.func40, Try.ntmps40
  go_wp2_with (first | (go_at_call 61; (with_reducible refine (bigNat 1 _ (by omega) (by omega)).mono ?_); rintro e w1 ⟨A1, l1, c1, rfl, hB1, hl1, hb1⟩; have HB1 := Lib.hid hB1; have hz1 := hb1.size; simp at hz1; have Hb1 := Lib.hid hb1; clear hB1 hb1) | fail)
  have p0 : w1.cell? ⟨w.heap.size, 0, none⟩ = some (.bool false) := by obtain ⟨_, _, hc1, _, _⟩ := bget Hb1.out; simp [go_sem, hc1]
  have p1 : w1.cell? ⟨w.heap.size, 1, none⟩ = some (.slice none 0 0) := by obtain ⟨_, _, hc1, _, _⟩ := bget Hb1.out; simp [go_sem, hc1]
  have f0 : w1.frozen? ⟨w.heap.size, 0, none⟩ = false := by obtain ⟨_, _, _, hf1, _⟩ := bget Hb1.out; simp [go_sem, hf1]
  have f1 : w1.frozen? ⟨w.heap.size, 1, none⟩ = false := by obtain ⟨_, _, _, hf1, _⟩ := bget Hb1.out; simp [go_sem, hf1]
  go_loopw [5] (fun i wr => ∃ (k : Nat) (p : Int) (s2 : Bool) (A2 : Option Addr) (l2 : List Int) (c2 : Nat), k ≤ l.length ∧ i = .int .i64 k ∧ In64 p ∧ prodF 1 l = prodF p (l.drop k) ∧ IsBig wr p s2 A2 l2 c2 ∧ Blk wr w1.heap.size 29 #[.bool s2, .slice A2 l2.length c2] ∧ Below w1.heap.size w1 wr) (fun i _ => l.length - (intOf i).toNat)
  case atStart => exact ⟨0, 1, false, A1, l1, c1, Nat.zero_le _, rfl, by unfold In64; omega, rfl, HB1.out.keep (by (repeat' (first | (with_reducible exact Below.refl _ _) | (with_reducible assumption) | (with_reducible refine Below.alloc ?_ ?_ _) | (with_reducible refine Below.setCell ?_ ?_ _) | (with_reducible refine Below.drew ?_) | (with_reducible refine below_drewN ?_ _) | (with_reducible refine below_via ?_ (by with_reducible assumption) ?_) | omega | (simp; done) | (simp; omega)))), by (repeat' (first | (with_reducible assumption) | (with_reducible refine Blk.drew ?_) | (with_reducible refine Blk.here ?_) | (with_reducible refine Blk.alloc ?_ _) | (with_reducible refine Blk.far ?_ ?_ _) | (with_reducible refine Blk.below ?_ (by with_reducible assumption) ?_) | omega | (simp; done) | (simp; omega))), by (repeat' (first | (with_reducible exact Below.refl _ _) | (with_reducible assumption) | (with_reducible refine Below.alloc ?_ ?_ _) | (with_reducible refine Below.setCell ?_ ?_ _) | (with_reducible refine Below.drew ?_) | (with_reducible refine below_drewN ?_ _) | (with_reducible refine below_via ?_ (by with_reducible assumption) ?_) | omega | (simp; done) | (simp; omega)))⟩
  case round =>
    obtain ⟨k, p, s2, A2, l2, c2, hk, rfl, hp, hpr, hB2, hbk, hbl⟩ := hrel
    have hl2 := big64_len hB2 hp
    have hz := hbl.size
    have b0 := hbk.cell 0
    have b1 := hbk.cell 1
    have z0 := hbk.frozen 0
    have z1 := hbk.frozen 1
    have ug := hbk.lt
    have r0 := (hbl.cell (p := ⟨w.heap.size, 0, none⟩) (by simp; omega)).trans p0
    have r1 := (hbl.cell (p := ⟨w.heap.size, 1, none⟩) (by simp; omega)).trans p1
    have s0 := (hbl.frozen (p := ⟨w.heap.size, 0, none⟩) (by simp; omega)).trans f0
    have s1 := (hbl.frozen (p := ⟨w.heap.size, 1, none⟩) (by simp; omega)).trans f1
    simp at b0 b1
    have HB2 := Lib.hid hB2
    have Hbk := Lib.hid hbk
    have Hbl := Lib.hid hbl
    have hbw : Below w.heap.size w wr := by have hb1 := Hb1.out; (repeat' (first | (with_reducible exact Below.refl _ _) | (with_reducible assumption) | (with_reducible refine Below.alloc ?_ ?_ _) | (with_reducible refine Below.setCell ?_ ?_ _) | (with_reducible refine Below.drew ?_) | (with_reducible refine below_drewN ?_ _) | (with_reducible refine below_via ?_ (by with_reducible assumption) ?_) | omega | (simp; done) | (simp; omega)))
    have Hbw := Lib.hid hbw
    clear hB2 hbk hbl hbw p0 p1 f0 f1
    by_cases hlt : k < l.length
    · have d2 : decide ((k : Int) < (l.length : Int)) = true := by simpa using hlt
      rw [prodF_step hlt] at hpr
      obtain ⟨b, o, hA, hb, q⟩ := HR.out k (encI l[k]) (by simp [hlt])
      have q0 := (Hbw.out.cell (p := ⟨b, o + k * 1 + 0, none⟩) hb).trans (q 0 _ rfl)
      have hx := HIN.out l[k] (List.getElem_mem hlt)
      obtain ⟨x, hxe⟩ : ∃ x, x = l[k] := ⟨_, rfl⟩
      rw [← hxe] at q0 hx hpr
      have hbw : b < wr.heap.size := by omega
      simp at q0
      clear q hxe
      cases hA
      have c5 := fun s l A c W h => bigFits (p * x) s l A c 200 W (by omega) h
      by_cases h64 : In64 (p * x)
      · rw [in64_iff.2 h64] at hpr c5
        rw [if_pos rfl] at hpr
        have C5 := Lib.hid c5
        have HPR := Lib.hid hpr
        clear hpr c5
        go_wp2_with fail
        go_region_with (first | (go_at_call 17; (with_reducible refine (bigOf x _ hx).mono ?_); rintro e w3 ⟨s3, A3, l3, c3, rfl, hB3, hl3, hb3⟩; have HB3 := Lib.hid hB3; clear hB3; obtain ⟨fc3, fg3, hc3, hf3, hz3⟩ := bget hb3; (try simp at hz3)) | (go_at_call 16; (with_reducible refine (bigMul p x s2 s3 l2 l3 A2 A3 c2 c3 65 _ (by omega) (by omega) (by omega) (HB2.out.keep (by (repeat' (first | (with_reducible exact Below.refl _ _) | (with_reducible assumption) | (with_reducible refine Below.alloc ?_ ?_ _) | (with_reducible refine Below.setCell ?_ ?_ _) | (with_reducible refine Below.drew ?_) | (with_reducible refine below_drewN ?_ _) | (with_reducible refine below_via ?_ (by with_reducible assumption) ?_) | omega | (simp; done) | (simp; omega))))) (HB3.out.keep (by (repeat' (first | (with_reducible exact Below.refl _ _) | (with_reducible assumption) | (with_reducible refine Below.alloc ?_ ?_ _) | (with_reducible refine Below.setCell ?_ ?_ _) | (with_reducible refine Below.drew ?_) | (with_reducible refine below_drewN ?_ _) | (with_reducible refine below_via ?_ (by with_reducible assumption) ?_) | omega | (simp; done) | (simp; omega)))))).mono ?_); rintro e w4 ⟨s4, A4, l4, c4, rfl, hB4, hl4, hb4⟩; have HB4 := Lib.hid hB4; clear hB4; obtain ⟨fc4, fg4, hc4, hf4, hz4⟩ := bget hb4; (try simp at hz4); have H4 := Lib.hid (show Below wr.heap.size wr w4 from (by (repeat' (first | (with_reducible exact Below.refl _ _) | (with_reducible assumption) | (with_reducible refine Below.alloc ?_ ?_ _) | (with_reducible refine Below.setCell ?_ ?_ _) | (with_reducible refine Below.drew ?_) | (with_reducible refine below_drewN ?_ _) | (with_reducible refine below_via ?_ (by with_reducible assumption) ?_) | omega | (simp; done) | (simp; omega))))); have T0 := Lib.hid ((H4.out.cell (p := ⟨w1.heap.size, 0, none⟩) ug).trans b0); have T1 := Lib.hid ((H4.out.cell (p := ⟨w1.heap.size, 1, none⟩) ug).trans b1)) | fail)
        all_goals
          go_wp2_with (first | (go_at_call 21; (with_reducible refine (C5.out _ _ _ _ _ (by omega) ?_).mono ?_); exact (HB4.out.far T0.out (by simp) _).far ((World.cell?_setCell_other _ _ _ _ (by simp)).trans T1.out) (by simp) _; rintro e w5 ⟨rfl, hb5⟩; obtain ⟨fc5, fg5, hc5, hf5, hz5⟩ := bget hb5; (try simp at hz5)) | fail)
          go_roundw
          case rel =>
            refine ⟨k + 1, p * x, s4, A4, l4, c4, by omega, by go_num, h64, HPR.out, ?_, ?_, ?_⟩
            · exact ((HB4.out.far T0.out (by simp) _).far ((World.cell?_setCell_other _ _ _ _ (by simp)).trans T1.out) (by simp) _).keep hb5
            · have h5 := (((Hbk.out.below H4.out ug).set 0 (.bool s4)).set 1 (.slice A4 l4.length c4)).below hb5 (by simp; omega)
              simpa using h5
            · have hbl := Hbl.out
              have h4 := H4.out
              (repeat' (first | (with_reducible exact Below.refl _ _) | (with_reducible assumption) | (with_reducible refine Below.alloc ?_ ?_ _) | (with_reducible refine Below.setCell ?_ ?_ _) | (with_reducible refine Below.drew ?_) | (with_reducible refine below_drewN ?_ _) | (with_reducible refine below_via ?_ (by with_reducible assumption) ?_) | omega | (simp; done) | (simp; omega)))
          case measure => (simp [intOf]; omega)
      · rw [in64_not' h64] at hpr c5
        rw [if_neg (by simp)] at hpr
        have C5 := Lib.hid c5
        have HPR := Lib.hid hpr
        clear hpr c5
        go_wp2_with fail
        go_region_with (first | (go_at_call 17; (with_reducible refine (bigOf x _ hx).mono ?_); rintro e w3 ⟨s3, A3, l3, c3, rfl, hB3, hl3, hb3⟩; have HB3 := Lib.hid hB3; clear hB3; obtain ⟨fc3, fg3, hc3, hf3, hz3⟩ := bget hb3; (try simp at hz3)) | (go_at_call 16; (with_reducible refine (bigMul p x s2 s3 l2 l3 A2 A3 c2 c3 65 _ (by omega) (by omega) (by omega) (HB2.out.keep (by (repeat' (first | (with_reducible exact Below.refl _ _) | (with_reducible assumption) | (with_reducible refine Below.alloc ?_ ?_ _) | (with_reducible refine Below.setCell ?_ ?_ _) | (with_reducible refine Below.drew ?_) | (with_reducible refine below_drewN ?_ _) | (with_reducible refine below_via ?_ (by with_reducible assumption) ?_) | omega | (simp; done) | (simp; omega))))) (HB3.out.keep (by (repeat' (first | (with_reducible exact Below.refl _ _) | (with_reducible assumption) | (with_reducible refine Below.alloc ?_ ?_ _) | (with_reducible refine Below.setCell ?_ ?_ _) | (with_reducible refine Below.drew ?_) | (with_reducible refine below_drewN ?_ _) | (with_reducible refine below_via ?_ (by with_reducible assumption) ?_) | omega | (simp; done) | (simp; omega)))))).mono ?_); rintro e w4 ⟨s4, A4, l4, c4, rfl, hB4, hl4, hb4⟩; have HB4 := Lib.hid hB4; clear hB4; obtain ⟨fc4, fg4, hc4, hf4, hz4⟩ := bget hb4; (try simp at hz4); have H4 := Lib.hid (show Below wr.heap.size wr w4 from (by (repeat' (first | (with_reducible exact Below.refl _ _) | (with_reducible assumption) | (with_reducible refine Below.alloc ?_ ?_ _) | (with_reducible refine Below.setCell ?_ ?_ _) | (with_reducible refine Below.drew ?_) | (with_reducible refine below_drewN ?_ _) | (with_reducible refine below_via ?_ (by with_reducible assumption) ?_) | omega | (simp; done) | (simp; omega))))); have T0 := Lib.hid ((H4.out.cell (p := ⟨w1.heap.size, 0, none⟩) ug).trans b0); have T1 := Lib.hid ((H4.out.cell (p := ⟨w1.heap.size, 1, none⟩) ug).trans b1)) | fail)
        all_goals
          go_wp2_with (first | (go_at_call 21; (with_reducible refine (C5.out _ _ _ _ _ (by omega) ?_).mono ?_); exact (HB4.out.far T0.out (by simp) _).far ((World.cell?_setCell_other _ _ _ _ (by simp)).trans T1.out) (by simp) _; rintro e w5 ⟨rfl, hb5⟩; obtain ⟨fc5, fg5, hc5, hf5, hz5⟩ := bget hb5; (try simp at hz5)) | fail)
          have hB5 := ((HB4.out.far T0.out (by simp) _).far ((World.cell?_setCell_other _ _ _ _ (by simp)).trans T1.out) (by simp) (.slice A4 l4.length c4)).keep hb5
          have k0 : w5.cell? ⟨w.heap.size, 0, none⟩ = some (.bool false) := by simp [go_sem, hc5, hc4, hc3, r0, ↓IntWalk.iteOmega]
          have k1 : w5.cell? ⟨w.heap.size, 1, none⟩ = some (.slice none 0 0) := by simp [go_sem, hc5, hc4, hc3, r1, ↓IntWalk.iteOmega]
          refine bodyPost_ret (v := .tuple #[.agg #[.bool s4, .slice A4 l4.length c4], .bool false]) (by simp [results, Try.results40, go_sem, k0, k1]; try rfl) rfl ⟨_, A4, l4, c4, _, by rw [HPR.out]; rfl, (hB5.far k0 (by simp) _).far ((World.cell?_setCell_other _ _ _ _ (by simp)).trans k1) (by simp) _, by omega, ?_, ?_⟩
          · intro p' hp'
            rw [HPR.out] at hp'
            cases hp'
          · have hbw := Hbw.out
            (repeat' (first | (with_reducible exact Below.refl _ _) | (with_reducible assumption) | (with_reducible refine Below.alloc ?_ ?_ _) | (with_reducible refine Below.setCell ?_ ?_ _) | (with_reducible refine Below.drew ?_) | (with_reducible refine below_drewN ?_ _) | (with_reducible refine below_via ?_ (by with_reducible assumption) ?_) | omega | (simp; done) | (simp; omega)))
    · have d2 : decide ((k : Int) < (l.length : Int)) = false := by simpa using hlt
      rw [prodF_end hlt] at hpr
      have HPR := Lib.hid hpr
      clear hpr
      go_wp2_with fail
      refine bodyPost_ret (v := .tuple #[.agg #[.bool s2, .slice A2 l2.length c2], .bool true]) (by simp [results, Try.results40, go_sem, r0, r1]; try rfl) rfl ⟨_, A2, l2, c2, p, by rw [HPR.out]; rfl, (HB2.out.far r0 (by simp) _).far ((World.cell?_setCell_other _ _ _ _ (by simp)).trans r1) (by simp) _, by omega, ?_, ?_⟩
      · intro p' hp'
        rw [HPR.out] at hp'
        cases hp'
        rfl
      · have hbw := Hbw.out
        (repeat' (first | (with_reducible exact Below.refl _ _) | (with_reducible assumption) | (with_reducible refine Below.alloc ?_ ?_ _) | (with_reducible refine Below.setCell ?_ ?_ _) | (with_reducible refine Below.drew ?_) | (with_reducible refine below_drewN ?_ _) | (with_reducible refine below_via ?_ (by with_reducible assumption) ?_) | omega | (simp; done) | (simp; omega)))
end Go.Proofs.Ytjolddbfkcbnpaa
