/- Joined: BigRet, Bits1, Big8, Away, Lot3, ShG. -/
import Derived.Test.YtiidplinmempcaaJz6
import Derived.Test.YtiidplinmempcaaJz4
import Derived.Test.YtiidplinmempcaaJz2
import Derived.Test.YtiidplinmempcaaJz3
/- A function whose result is a big number in a cell of its own: its end. -/
namespace Go.Proofs.Ytiidplinmempcaa
open Go.RowKit
theorem bigRet {fn : Func} {slot : Nat} (hfn : fn.results = #[.cell slot 34]) {a : Act} {w wf : World} {g L : Nat} {n : Int} {s : Bool} {A : Option Addr} {l : List Int} {c : Nat}
    (ha : a.tmps[slot]?.getD undef = .pointer (some ⟨g, 0, none⟩)) (hd : a.defers = []) (h0 : wf.cell? ⟨g, 0, none⟩ = some (.bool false)) (h1 : wf.cell? ⟨g, 1, none⟩ = some (.slice none 0 0))
    (hB : IsBig wf n s A l c) (hl : l.length ≤ L) (hb : Below w.heap.size w ((wf.setCell ⟨g, 0, none⟩ (.bool s)).setCell ⟨g, 1, none⟩ (.slice A l.length c))) :
    bodyPost Try.prog fn (BigPost w n L) .ret a ((wf.setCell ⟨g, 0, none⟩ (.bool s)).setCell ⟨g, 1, none⟩ (.slice A l.length c)) := by
  refine bodyPost_ret (v := .agg #[.bool s, .slice A l.length c]) (by simp [results, hfn, ha, go_sem, h0, h1]; try rfl) hd ⟨s, A, l, c, rfl, (hB.far h0 (by simp) _).far ((World.cell?_setCell_other _ _ _ _ (by simp)).trans h1) (by simp) _, hl, hb⟩
end Go.Proofs.Ytiidplinmempcaa

/- Rows of bits: product, quotient, shift. Plain. -/
namespace Go.Proofs.Ytiidplinmempcaa
theorem val_cons (b : Int) (l : List Int) : val (b :: l) = b + 2 * val l := rfl
theorem bit_cons {b : Int} {l : List Int} (h : Bit l) (h0 : 0 ≤ b) (h1 : b ≤ 1) : Bit (b :: l) := by
  intro x hx
  rcases List.mem_cons.1 hx with e | e
  · subst e; exact ⟨h0, h1⟩
  · exact h x e
theorem top_cons {b : Int} {l : List Int} (h : Top l) (hne : l ≠ []) : Top (b :: l) := by
  intro x hx
  rw [List.getLast?_cons_of_ne_nil hne] at hx
  exact h x hx
/-- The row of round i: la, i places up. -/
theorem row_next {R la : List Int} {i : Nat} (h : val R = pw i * val la) : val (0 :: R) = pw (i + 1) * val la := by
  rw [val_cons, h, pw_succ, Int.mul_assoc]; omega
theorem sum_one {S S' R la lb : List Int} {i : Nat} (hS : val S = val la * val (lb.take i)) (hR : val R = pw i * val la) (hb : lb.getD i 0 = 1) (hS' : val S' = val S + val R) : val S' = val la * val (lb.take (i + 1)) := by
  rw [hS', hS, hR, take_succD, hb, Int.mul_add, Int.mul_one, Int.mul_comm (pw i)]
theorem sum_none {S la lb : List Int} {i : Nat} (hS : val S = val la * val (lb.take i)) (hb : lb.getD i 0 = 0) : val S = val la * val (lb.take (i + 1)) := by
  rw [hS, take_succD, hb, Int.mul_zero, Int.add_zero]
/-- One round of the long division: the next bit below. -/
theorem quo_step {q : List Int} {r r' d bit x v v' : Int} (hq : val q * d + r = v) (hx : v' = x + 2 * v) (hr : 2 * r + x = bit * d + r') : val (bit :: q) * d + r' = v' := by
  rw [val_cons, Int.add_mul, Int.mul_assoc]; omega
end Go.Proofs.Ytiidplinmempcaa

/- The contract of the reference's Wide. -/
namespace Go.Proofs.Ytiidplinmempcaa
open Go.RowKit
theorem encB_one (l : List Int) : ∀ r ∈ l.map encB, r.length = 1 ∧ ∀ u ∈ r, u.oneCell' = true := by
  intro r hr
  obtain ⟨m, _, rfl⟩ := List.mem_map.1 hr
  refine ⟨rfl, ?_⟩
  simp only [encB, List.mem_cons, List.not_mem_nil, or_false, forall_eq]
  rfl
theorem IsBig.up {w w' : World} {x : Int} {s : Bool} {A B : Option Addr} {l : List Int} {c d : Nat} (h : IsBig w x s A l c) (hne : l ≠ []) (hr : Rd w' B 1 ((0 :: l).map encB)) (hc : (0 :: l).length ≤ d) (hm : d ≤ maxLen) : IsBig w' (2 * x) s B (0 :: l) d := by
  refine ⟨hr, bit_cons h.bit (by omega) (by omega), top_cons h.top hne, ?_, hc, hm, ?_⟩
  · rw [val_cons, h.val]; unfold iabs; split <;> split <;> omega
  · rw [h.sgn, decide_eq_decide]; omega
theorem pw64 : pw 64 = 18446744073709551616 := by decide
set_option maxRecDepth 100000 in
set_option maxHeartbeats 4000000 in
theorem bigWideAt (H lo : Int) (w : World) (h64 : In64 H) (h0 : 0 ≤ lo) (h1 : lo ≤ 18446744073709551615) :
    Calls Try.prog 21 #[.int .i64 H, .int .u64 lo] w (BigPost w (H * 18446744073709551616 + lo) 194) := by
  go_enter Try.func21, Try.ntmps21
  go_wp2_with (go_at_call 25; (with_reducible refine (bigOf H _ h64).mono ?_); rintro e w1 ⟨s, A1, l1, c1, rfl, hB1, hl1, hb1⟩; have HB1 := Lib.hid hB1; have hz1 := hb1.size; simp at hz1; have Hb1 := Lib.hid hb1; clear hB1 hb1)
  have p0 : w1.cell? ⟨w.heap.size, 0, none⟩ = some (.bool false) := by obtain ⟨_, _, hc1, _, _⟩ := bget Hb1.out; simp [go_sem, hc1]
  have p1 : w1.cell? ⟨w.heap.size, 1, none⟩ = some (.slice none 0 0) := by obtain ⟨_, _, hc1, _, _⟩ := bget Hb1.out; simp [go_sem, hc1]
  have f0 : w1.frozen? ⟨w.heap.size, 0, none⟩ = false := by obtain ⟨_, _, _, hf1, _⟩ := bget Hb1.out; simp [go_sem, hf1]
  have f1 : w1.frozen? ⟨w.heap.size, 1, none⟩ = false := by obtain ⟨_, _, _, hf1, _⟩ := bget Hb1.out; simp [go_sem, hf1]
  go_loopw [6] (fun i wr => ∃ (k : Nat) (A : Option Addr) (l : List Int) (c : Nat), k ≤ 64 ∧ i = .int .i64 k ∧ IsBig wr (H * pw k) s A l c ∧ l.length ≤ 65 + k ∧ Blk wr w1.heap.size 34 #[.bool s, .slice A l.length c] ∧ Below w1.heap.size w1 wr) (fun i _ => 64 - (intOf i).toNat)
  case atStart => exact ⟨0, A1, l1, c1, by omega, rfl, by rw [pw_zero, Int.mul_one]; exact HB1.out.keep (by (repeat' (first | (with_reducible exact Below.refl _ _) | (with_reducible assumption) | (with_reducible refine Below.alloc ?_ ?_ _) | (with_reducible refine Below.setCell ?_ ?_ _) | (with_reducible refine Below.drew ?_) | (with_reducible refine below_drewN ?_ _) | (with_reducible refine below_via ?_ (by with_reducible assumption) ?_) | omega | (simp; done) | (simp; omega)))), hl1, by (repeat' (first | (with_reducible assumption) | (with_reducible refine Blk.drew ?_) | (with_reducible refine Blk.here ?_) | (with_reducible refine Blk.alloc ?_ _) | (with_reducible refine Blk.far ?_ ?_ _) | (with_reducible refine Blk.below ?_ (by with_reducible assumption) ?_) | omega | (simp; done) | (simp; omega))), by (repeat' (first | (with_reducible exact Below.refl _ _) | (with_reducible assumption) | (with_reducible refine Below.alloc ?_ ?_ _) | (with_reducible refine Below.setCell ?_ ?_ _) | (with_reducible refine Below.drew ?_) | (with_reducible refine below_drewN ?_ _) | (with_reducible refine below_via ?_ (by with_reducible assumption) ?_) | omega | (simp; done) | (simp; omega)))⟩
  case round =>
    obtain ⟨k, A, l, c, hk, rfl, hB, hl, hbk, hbl⟩ := hrel
    have hz := hbl.size
    have b0 := hbk.cell 0
    have b1 := hbk.cell 1
    have z0 := hbk.frozen 0
    have z1 := hbk.frozen 1
    have hlt := hbk.lt
    have r0 := (hbl.cell (p := ⟨w.heap.size, 0, none⟩) (by simp; omega)).trans p0
    have r1 := (hbl.cell (p := ⟨w.heap.size, 1, none⟩) (by simp; omega)).trans p1
    have s0 := (hbl.frozen (p := ⟨w.heap.size, 0, none⟩) (by simp; omega)).trans f0
    have s1 := (hbl.frozen (p := ⟨w.heap.size, 1, none⟩) (by simp; omega)).trans f1
    simp at b0 b1
    clear p0 p1 f0 f1
    by_cases hk64 : k < 64
    · have d1 : decide ((k : Int) < 64) = true := by simp; omega
      by_cases hne : l = []
      · have d2 : decide (0 < l.length) = false := by rw [hne]; rfl
        have hX : IsBig wr (H * 18446744073709551616) s A l c := by
          have hv := hB.val
          rw [hne] at hv
          have hpp := pw_pos k
          have hH : H = 0 := by
            have h3 : H * pw k = 0 := by
              have : iabs (H * pw k) = 0 := hv.symm
              unfold iabs at this; split at this <;> omega
            rcases Int.mul_eq_zero.1 h3 with h | h
            · exact h
            · omega
          rw [hH, Int.zero_mul] at hB ⊢
          exact hB
        clear hbk hne
        have HX := Lib.hid hX
        have Hbl := Lib.hid hbl
        clear hX hB hbl
        go_wp2_with fail
        go_region_held3 (fun w' => w'.cell? ⟨w1.heap.size, 0, none⟩ = some (.bool s) ∧ w'.cell? ⟨w1.heap.size, 1, none⟩ = some (.slice A l.length c)) (first | (simp [go_sem]; done) | (repeat' (first | (with_reducible assumption) | (with_reducible refine And.intro ?_ ?_) | (with_reducible refine cell_drew ?_) | (with_reducible refine cell_via (by with_reducible assumption) ?_ ?_) | (simp [*]; done) | (simp [go_sem]; done) | (with_reducible refine cell_alloc ?_ ?_) | (with_reducible refine cell_set_far ?_ ?_) | omega | (simp; omega)))) (first | (go_at_call 83; (with_reducible refine (bigNat lo _ h0 h1).mono ?_); rintro e w5 ⟨A5, l5, c5, rfl, hB5, hl5, hb5⟩; have HB5 := Lib.hid hB5; clear hB5; obtain ⟨fc5, fg5, hc5, hf5, hz5⟩ := bget hb5; (try simp at hz5)) | (go_at_call 24; (with_reducible refine (bigAdd _ lo s false l l5 A A5 c c5 193 _ (by omega) (by omega) (by omega) (HX.out.keep (by (repeat' (first | (with_reducible exact Below.refl _ _) | (with_reducible assumption) | (with_reducible refine Below.alloc ?_ ?_ _) | (with_reducible refine Below.setCell ?_ ?_ _) | (with_reducible refine Below.drew ?_) | (with_reducible refine below_drewN ?_ _) | (with_reducible refine below_via ?_ (by with_reducible assumption) ?_) | omega | (simp; done) | (simp; omega))))) (HB5.out.keep (by (repeat' (first | (with_reducible exact Below.refl _ _) | (with_reducible assumption) | (with_reducible refine Below.alloc ?_ ?_ _) | (with_reducible refine Below.setCell ?_ ?_ _) | (with_reducible refine Below.drew ?_) | (with_reducible refine below_drewN ?_ _) | (with_reducible refine below_via ?_ (by with_reducible assumption) ?_) | omega | (simp; done) | (simp; omega)))))).mono ?_); rintro e w6 ⟨s6, A6, l6, c6, rfl, hB6, hl6, hb6⟩; obtain ⟨fc6, fg6, hc6, hf6, hz6⟩ := bget hb6; (try simp at hz6)) | fail)
        go_wp2_with fail
        all_goals
          have k0 := r0
          have k1 := r1
          have r0 : w6.cell? ⟨w.heap.size, 0, none⟩ = some (.bool false) := (by simp [go_sem, hc6, hc5, k0, ↓IntWalk.iteOmega])
          have r1 : w6.cell? ⟨w.heap.size, 1, none⟩ = some (.slice none 0 0) := (by simp [go_sem, hc6, hc5, k1, ↓IntWalk.iteOmega])
          refine bodyPost_ret (v := .agg #[.bool s6, .slice A6 l6.length c6]) (by simp [results, Try.results21, go_sem, r0, r1]; try rfl) rfl ⟨s6, A6, l6, c6, rfl, (hB6.far r0 (by simp) _).far ((World.cell?_setCell_other _ _ _ _ (by simp)).trans r1) (by simp) _, hl6, ?_⟩
          (have hbl := Hbl.out; have hb1 := Hb1.out; (repeat' (first | (with_reducible exact Below.refl _ _) | (with_reducible assumption) | (with_reducible refine Below.alloc ?_ ?_ _) | (with_reducible refine Below.setCell ?_ ?_ _) | (with_reducible refine Below.drew ?_) | (with_reducible refine below_drewN ?_ _) | (with_reducible refine below_via ?_ (by with_reducible assumption) ?_) | omega | (simp; done) | (simp; omega))))
      · have hpos := List.length_pos_iff.2 hne
        have d2 : decide (0 < l.length) = true := by simpa using hpos
        obtain ⟨b, o, rfl, hb, _⟩ := bit_cell hB.rd (Below.refl wr.heap.size wr) (Nat.le_refl _) hpos
        have HB := Lib.hid hB
        have Hbk := Lib.hid hbk
        have Hbl := Lib.hid hbl
        have Hne := Lib.hid hne
        clear hB hbk hbl hne
        go_wp2_with (first | ((at_builtin; refine wpList_app rfl _ _ _ rfl elB wr.heap.size _ _ rfl ((Own.nil wr wr.heap.size 5 1).alloc _) (some ⟨wr.heap.size, 0, none⟩) 1 1 rfl [encB 0] rfl (fun h => by cases h) rd_one ((by simp [encB]; rfl)) (by unfold maxLen; first | (simp; done) | omega | (simp; omega)) (by first | (simp; done) | omega | (simp; omega)) (by first | omega | (simp; done) | (simp; omega)) ?_; intro v' w3 hown3 hb3); obtain ⟨fc3, fg3, hc3, hf3, hz3⟩ := bget hb3; (try simp at hz3)) | (at_builtin; refine wpList_app rfl _ _ _ rfl elB wr.heap.size _ _ rfl hown3 (some ⟨b, o, none⟩) l.length c rfl (l.map encB) (by simp) (fun h => by cases h) (HB.out.rd.keep (by (repeat' (first | (with_reducible exact Below.refl _ _) | (with_reducible assumption) | (with_reducible refine Below.alloc ?_ ?_ _) | (with_reducible refine Below.setCell ?_ ?_ _) | (with_reducible refine Below.drew ?_) | (with_reducible refine below_drewN ?_ _) | (with_reducible refine below_via ?_ (by with_reducible assumption) ?_) | omega | (simp; done) | (simp; omega))))) (encB_one l) (by unfold maxLen; first | (simp; done) | omega | (simp; omega)) (by first | (simp; done) | omega | (simp; omega)) (by have := hb3.size; simp at this; omega) ?_; intro v4 w4 hown4 hb4; have hown5 : Own w4 wr.heap.size 5 1 v4 ((0 :: l).map encB) := (by simpa [encB] using hown4); obtain ⟨A4, c4, rfl, hcc4, hm4, hr4, _⟩ := hown5.shape; have HO5 := Lib.hid hown5; have Hb4 := Lib.hid (show Below wr.heap.size wr w4 from (by (repeat' (first | (with_reducible exact Below.refl _ _) | (with_reducible assumption) | (with_reducible refine Below.alloc ?_ ?_ _) | (with_reducible refine Below.setCell ?_ ?_ _) | (with_reducible refine Below.drew ?_) | (with_reducible refine below_drewN ?_ _) | (with_reducible refine below_via ?_ (by with_reducible assumption) ?_) | omega | (simp; done) | (simp; omega))))); clear hown4 hown5 hb3 hb4; rw [List.length_map]; obtain ⟨fc4, fg4, hc4, hf4, hz4⟩ := bget Hb4.out) | fail)
        go_roundw
        case rel =>
          refine ⟨k + 1, A4, 0 :: l, c4, by omega, by go_num, ?_, by simp; omega, ?_, ?_⟩
          · have hr5 := (HO5.out.farLow (p := ⟨w1.heap.size, 1, none⟩) (by simpa using hlt) (.slice A4 (0 :: l).length c4)).rd.1
            have hup := HB.out.up Hne.out hr5 (by simpa using hcc4) hm4
            rw [pw_succ, show H * (2 * pw k) = 2 * (H * pw k) by rw [Int.mul_left_comm]]
            exact hup
          · have h5 := (Hbk.out.below Hb4.out hlt).set 1 (.slice A4 (0 :: l).length c4)
            simpa using h5
          · have hbl := Hbl.out
            have hb4 := Hb4.out
            (repeat' (first | (with_reducible exact Below.refl _ _) | (with_reducible assumption) | (with_reducible refine Below.alloc ?_ ?_ _) | (with_reducible refine Below.setCell ?_ ?_ _) | (with_reducible refine Below.drew ?_) | (with_reducible refine below_drewN ?_ _) | (with_reducible refine below_via ?_ (by with_reducible assumption) ?_) | omega | (simp; done) | (simp; omega)))
        case measure => simp [intOf]; omega
    · have d1 : decide ((k : Int) < 64) = false := by simp; omega
      have hk2 : k = 64 := by omega
      have hX : IsBig wr (H * 18446744073709551616) s A l c := by rw [← pw64, ← hk2]; exact hB
      clear hbk
      have HX := Lib.hid hX
      have Hbl := Lib.hid hbl
      clear hX hB hbl
      go_wp2_with fail
      go_region_held3 (fun w' => w'.cell? ⟨w1.heap.size, 0, none⟩ = some (.bool s) ∧ w'.cell? ⟨w1.heap.size, 1, none⟩ = some (.slice A l.length c)) (first | (simp [go_sem]; done) | (repeat' (first | (with_reducible assumption) | (with_reducible refine And.intro ?_ ?_) | (with_reducible refine cell_drew ?_) | (with_reducible refine cell_via (by with_reducible assumption) ?_ ?_) | (simp [*]; done) | (simp [go_sem]; done) | (with_reducible refine cell_alloc ?_ ?_) | (with_reducible refine cell_set_far ?_ ?_) | omega | (simp; omega)))) (first | (go_at_call 83; (with_reducible refine (bigNat lo _ h0 h1).mono ?_); rintro e w5 ⟨A5, l5, c5, rfl, hB5, hl5, hb5⟩; have HB5 := Lib.hid hB5; clear hB5; obtain ⟨fc5, fg5, hc5, hf5, hz5⟩ := bget hb5; (try simp at hz5)) | (go_at_call 24; (with_reducible refine (bigAdd _ lo s false l l5 A A5 c c5 193 _ (by omega) (by omega) (by omega) (HX.out.keep (by (repeat' (first | (with_reducible exact Below.refl _ _) | (with_reducible assumption) | (with_reducible refine Below.alloc ?_ ?_ _) | (with_reducible refine Below.setCell ?_ ?_ _) | (with_reducible refine Below.drew ?_) | (with_reducible refine below_drewN ?_ _) | (with_reducible refine below_via ?_ (by with_reducible assumption) ?_) | omega | (simp; done) | (simp; omega))))) (HB5.out.keep (by (repeat' (first | (with_reducible exact Below.refl _ _) | (with_reducible assumption) | (with_reducible refine Below.alloc ?_ ?_ _) | (with_reducible refine Below.setCell ?_ ?_ _) | (with_reducible refine Below.drew ?_) | (with_reducible refine below_drewN ?_ _) | (with_reducible refine below_via ?_ (by with_reducible assumption) ?_) | omega | (simp; done) | (simp; omega)))))).mono ?_); rintro e w6 ⟨s6, A6, l6, c6, rfl, hB6, hl6, hb6⟩; obtain ⟨fc6, fg6, hc6, hf6, hz6⟩ := bget hb6; (try simp at hz6)) | fail)
      go_wp2_with fail
      all_goals
        have k0 := r0
        have k1 := r1
        have r0 : w6.cell? ⟨w.heap.size, 0, none⟩ = some (.bool false) := (by simp [go_sem, hc6, hc5, k0, ↓IntWalk.iteOmega])
        have r1 : w6.cell? ⟨w.heap.size, 1, none⟩ = some (.slice none 0 0) := (by simp [go_sem, hc6, hc5, k1, ↓IntWalk.iteOmega])
        refine bodyPost_ret (v := .agg #[.bool s6, .slice A6 l6.length c6]) (by simp [results, Try.results21, go_sem, r0, r1]; try rfl) rfl ⟨s6, A6, l6, c6, rfl, (hB6.far r0 (by simp) _).far ((World.cell?_setCell_other _ _ _ _ (by simp)).trans r1) (by simp) _, hl6, ?_⟩
        (have hbl := Hbl.out; have hb1 := Hb1.out; (repeat' (first | (with_reducible exact Below.refl _ _) | (with_reducible assumption) | (with_reducible refine Below.alloc ?_ ?_ _) | (with_reducible refine Below.setCell ?_ ?_ _) | (with_reducible refine Below.drew ?_) | (with_reducible refine below_drewN ?_ _) | (with_reducible refine below_via ?_ (by with_reducible assumption) ?_) | omega | (simp; done) | (simp; omega))))
theorem bigWide (n : Int) (w : World) (hn : In128 n) :
    Calls Try.prog 21 #[.int .i64 (whi n), .int .u64 (wlo n)] w (BigPost w n 194) := by
  have h := bigWideAt (whi n) (wlo n) w (whi_i hn) (wlo_u n).1 (wlo_u n).2
  rw [whi_wlo] at h
  exact h
end Go.Proofs.Ytiidplinmempcaa

/- What append, Insert leave as it was: all blocks of other types. No program in sight. -/
namespace Go.Proofs.Ytiidplinmempcaa
open Go.RowKit
/-- All that is no row of elements E is as it was. -/
structure Away (E : TypeId) (w w' : World) : Prop where
  size : w.heap.size ≤ w'.heap.size
  block : ∀ b, b < w.heap.size → (∀ cs r, w.heap[b]? ≠ some (.cells cs E r)) → w'.heap[b]? = w.heap[b]?
section
variable {E E' : TypeId} {w w1 w2 w' : World}
theorem Away.refl (E : TypeId) (w : World) : Away E w w := ⟨Nat.le_refl _, fun _ _ _ => rfl⟩
theorem Away.trans (h : Away E w w1) (k : Away E w1 w2) : Away E w w2 :=
  ⟨Nat.le_trans h.size k.size, fun b hb hne => by
    have h1 := h.block b hb hne
    exact (k.block b (Nat.lt_of_lt_of_le hb h.size) (fun cs r => by rw [h1]; exact hne cs r)).trans h1⟩
theorem Away.below (h : Below w.heap.size w w') : Away E w w' := ⟨h.size, fun b hb _ => h.block b hb⟩
theorem Away.grown {row : Option Nat} (h : w.grownBy w' row) (hE : ∀ g, row = some g → ∃ cs r, w.heap[g]? = some (.cells cs E r)) : Away E w w' :=
  ⟨h.size, fun b hb hne => h.block b hb (fun e => by
    obtain ⟨cs, r, hc⟩ := hE b e.symm
    exact hne cs r hc)⟩
theorem Own.typed {base k : Nat} {v : Value} {rows : List (List Value)} (h : Own w base E k v rows) : ∀ g, v.ownBlock = some g → ∃ cs r, w.heap[g]? = some (.cells cs E r) := by
  intro g hg
  rcases h.2.2 with ⟨rfl, _⟩ | ⟨g', cap, cur, rfl, _, hh, _⟩
  · simp [Value.ownBlock] at hg
  · simp [Value.ownBlock] at hg
    subst hg
    exact ⟨cur, (0, 0), hh⟩
theorem Own.away {base k : Nat} {v : Value} {rows : List (List Value)} (h : Own w base E' k v rows) (ha : Away E w w') (hne : E' ≠ E) : Own w' base E' k v rows := by
  refine ⟨h.1, h.2.1, ?_⟩
  rcases h.2.2 with h2 | ⟨g, cap, cur, hv, hg, hh, r⟩
  · exact .inl h2
  · refine .inr ⟨g, cap, cur, hv, hg, ?_, r⟩
    rw [ha.block g (Array.getElem?_eq_some_iff.1 hh).1 (fun cs r e => by
      rw [hh] at e
      injection e with e
      injection e with _ e _
      exact hne e)]
    exact hh
theorem Own.good {base k : Nat} {A : Option Addr} {n c : Nat} {rows : List (List Value)} (h : Own w base E k (.slice A n c) rows) : Rs w k rows A c := by
  obtain ⟨A', c', hv, hrs, _⟩ := h.rs
  injection hv with e1 e2 e3
  subst e1 e3
  exact hrs
theorem Away.set (w : World) {p : Addr} (u : Value) (h : ∃ cs r, w.heap[p.block]? = some (.cells cs E r)) : Away E w (w.setCell p u) :=
  ⟨by simp [World.setCell], fun b _ hne => Below.heap_setCell w p u b (fun e => by
    obtain ⟨cs, r, hc⟩ := h
    exact hne cs r (by rw [e]; exact hc))⟩
theorem Away.setTy (h : Away E w w1) {p : Addr} (ht : ∃ cs r, w.heap[p.block]? = some (.cells cs E r)) (u : Value) : Away E w (w1.setCell p u) :=
  ⟨by simpa [World.setCell] using h.size, fun b hb hne => (Below.heap_setCell w1 p u b (fun e => by
    obtain ⟨cs, r, hc⟩ := ht
    exact hne cs r (by rw [e]; exact hc))).trans (h.block b hb hne)⟩
theorem Away.only {g : Nat} (h : Only g w w') (ht : ∃ cs r, w.heap[g]? = some (.cells cs E r)) : Away E w w' :=
  ⟨h.size, fun b hb hne => h.block b hb (fun e => by
    obtain ⟨cs, r, hc⟩ := ht
    exact hne cs r (by rw [e]; exact hc))⟩
theorem Own.at {base k : Nat} {A : Option Addr} {n c : Nat} {rows : List (List Value)} (h : Own w base E k (.slice A n c) rows) (h0 : 0 < rows.length) : ∃ g, A = some ⟨g, 0, none⟩ ∧ base ≤ g ∧ g < w.heap.size := by
  obtain ⟨A', c', hv, _, hf⟩ := h.rs
  injection hv with e1 e2 e3
  subst e1 e3
  rcases hf with ⟨_, h2, _⟩ | hg
  · rw [h2] at h0; simp at h0
  · exact hg
theorem grown_of_below {row : Option Nat} (h : Below w.heap.size w w') : w.grownBy w' row := ⟨h.os, h.tape, h.output, h.size, fun k hk _ => h.block k hk⟩
theorem grown_of_only {g : Nat} (h : Only g w w1) (k : Only g w1 w2) : w.grownBy w2 (some g) :=
  ⟨(h.trans k).os, (h.trans k).tape, (h.trans k).output, (h.trans k).size, fun b hb hne => (h.trans k).block b hb (fun e => hne (by rw [e]))⟩
end
theorem wp_appG {P : Program} {o : Oper} {a : Act} {K : Act → World → Prop} {Q : Exit → Act → World → Prop} {w : World} (s x : Operand) (T : TypeId)
    (ho : o.op = .call { callee := .builtin .append, args := #[s, x], argTypes := #[T, T] }) {E k bytes : Nat} (el : Elem P T E k bytes)
    (base : Nat) (v : Value) (rows : List (List Value)) (hs : a.eval s = v) (hown : Own w base E k v rows)
    (ad : Addr) (m c : Nat) (hx : a.eval x = .slice (some ad) m c) (news : List (List Value)) (hm : news.length = m) (hr : Rd w (some ad) k news) (hk : ∀ r ∈ news, r.length = k ∧ ∀ u ∈ r, u.oneCell' = true)
    (h63 : rows.length + m ≤ maxLen) (hbytes : (rows.length + m) * bytes ≤ 140737488355328) (hbase : base ≤ w.heap.size)
    (h : ∀ v' w', Own w' base E k v' (rows ++ news) → Below base w w' → w.grownBy w' v.ownBlock → K (a.put o.dst v') w') : o.wp P a w K Q := by
  obtain ⟨i, z, hi, hz, hsize, hby, hzs⟩ := el.info
  have hkl : ∀ r ∈ news, r.length = k := fun r hr => (hk r hr).1
  have hall : ∀ r ∈ rows ++ news, r.length = k := fun r hr => by
    rcases List.mem_append.1 hr with h1 | h1
    · exact hown.1 r h1
    · exact hkl r h1
  refine wp_append_own w s x T ho base E i z k bytes el.ty hi hz hsize hby hzs el.pos v rows.length rows.flatten hs hown.2 ad m c news.flatten hx (by rw [flatten_length hkl, hm]) (rd_cells hkl hr) (fun u hu => by
      obtain ⟨r, hr1, hr2⟩ := List.mem_flatten.1 hu
      exact (hk r hr1).2 u hr2) h63 hbytes hbase fun v' w' h1 h2 _ => ?_
  exact h v' w' ⟨hall, by rw [List.length_append, hm, List.flatten_append]; exact h1⟩ ((Below.refl base w).grown h2 hbase (fun g hg => (hown.block g hg).1)) h2
theorem wpList_appG {P : Program} {ops : Array Oper} {rest : List Oper} {o : Oper} {a : Act} {Q : Exit → Act → World → Prop} {w : World} (hgd : o.guard = none) (s x : Operand) (T : TypeId)
    (ho : o.op = .call { callee := .builtin .append, args := #[s, x], argTypes := #[T, T] }) {E k bytes : Nat} (el : Elem P T E k bytes)
    (base : Nat) (v : Value) (rows : List (List Value)) (hs : a.eval s = v) (hown : Own w base E k v rows)
    (ad : Addr) (m c : Nat) (hx : a.eval x = .slice (some ad) m c) (news : List (List Value)) (hm : news.length = m) (hr : Rd w (some ad) k news) (hk : ∀ r ∈ news, r.length = k ∧ ∀ u ∈ r, u.oneCell' = true)
    (h63 : rows.length + m ≤ maxLen) (hbytes : (rows.length + m) * bytes ≤ 140737488355328) (hbase : base ≤ w.heap.size)
    (h : ∀ v' w', Own w' base E k v' (rows ++ news) → Below base w w' → w.grownBy w' v.ownBlock → wpList P ops Q rest (a.put o.dst v') w') : wpList P ops Q (o :: rest) a w :=
  wpList_plain hgd fun _ hK => wp_appG s x T ho el base v rows hs hown ad m c hx news hm hr hk h63 hbytes hbase fun v' w' h1 h2 h3 => hK _ _ (h v' w' h1 h2 h3)
end Go.Proofs.Ytiidplinmempcaa

/- Lots: contracts of slices.Clone, Insert, Delete of lots. -/
namespace Go.Proofs.Ytiidplinmempcaa
open Go.RowKit
set_option maxRecDepth 100000 in
set_option maxHeartbeats 1000000 in
theorem lotClone (l : List Lot) (A : Option Addr) (c : Nat) (w : World) (hl : l.length ≤ 1099511627776) (hr : Rs w 3 (l.map encLot) A c) :
    Calls Try.prog 114 #[.slice A l.length c] w fun e w' => ∃ v, e = .returned v ∧ Own w' w.heap.size 62 3 v (l.map encLot) ∧ Below w.heap.size w w' := by
  have Hr := Lib.hid hr
  have hnil := fun W : World => Lib.run_eql_slice_nil (P := Try.prog) W 97 62 A l.length c 0 0 Try.underlying97
  rcases A with _ | ad
  · have hl0 : l = [] := List.map_eq_nil_iff.1 hr.nilrows
    have hc0 : c = 0 := hr.nil rfl
    subst hl0 hc0
    simp only [List.length_nil] at hnil ⊢
    clear hr
    go_enter Try.func114, Try.ntmps114
    go_wp2_with fail
    go_ret
    exact ⟨_, rfl, Own.nil _ _ _ _, by (repeat' (first | (with_reducible exact Below.refl _ _) | (with_reducible assumption) | (with_reducible refine Below.alloc ?_ ?_ _) | (with_reducible refine Below.setCell ?_ ?_ _) | (with_reducible refine Below.drew ?_) | (with_reducible refine below_drewN ?_ _) | (with_reducible refine below_via ?_ (by with_reducible assumption) ?_) | omega | (simp; done) | (simp; omega)))⟩
  · clear hr
    go_enter Try.func114, Try.ntmps114
    go_wp2_with (at_builtin; refine wpList_app rfl _ _ _ rfl elLot w.heap.size _ [] rfl (Own.made w (Nat.le_refl _)) (some ad) l.length c rfl (l.map encLot) (by simp) (fun h => by cases h) (Hr.out.keep ((Below.refl _ _).alloc (Nat.le_refl _) _)).rd (rowsLot l) (by unfold maxLen; simp; omega) (by simp; omega) (by simp) ?_; intro v' w3 hown3 hb3)
    go_ret
    exact ⟨v', rfl, by simpa using hown3, ((Below.refl _ _).alloc (Nat.le_refl _) _).trans hb3⟩
theorem zone_Lot (z : Value) (h : (Try.prog.info? 62).bind (·.zero) = some z) : ∀ u ∈ z.cells, u.oneCell' = true := by
  have e : (Try.prog.info? 62).bind (·.zero) = some (.agg #[.int .i64 0, .int .i64 0, .int .i64 0]) := by kernel_rfl
  rw [h] at e
  injection e with e
  subst e
  simp [Value.cells]
  decide
theorem own_put3 {w : World} {base E : Nat} {v : Value} {rows : List (List Value)} (h : Own w base E 3 v rows) {g n c : Nat} (hv : v = .slice (some ⟨g, 0, none⟩) n c) {i : Nat} (hi : i < rows.length) (v0 v1 v2 : Value) :
    Own (((w.setCell ⟨g, i * 3, none⟩ v0).setCell ⟨g, i * 3 + 1, none⟩ v1).setCell ⟨g, i * 3 + 2, none⟩ v2) base E 3 v (rows.set i [v0, v1, v2]) := by
  have hr := h.1 _ (List.getElem_mem hi)
  obtain ⟨p0, p1, p2, he⟩ : ∃ p0 p1 p2, rows[i] = [p0, p1, p2] := by
    match h4 : rows[i], hr with
    | [p0, p1, p2], _ => exact ⟨p0, p1, p2, rfl⟩
  have h0 := h.put hv (List.getElem?_eq_getElem hi) (show 0 < 3 from by omega) v0
  have h1 := h0.put hv (List.getElem?_set_self (by simpa using hi)) (show 1 < 3 from by omega) v1
  have h2 := h1.put hv (List.getElem?_set_self (by simpa using hi)) (show 2 < 3 from by omega) v2
  simp only [List.set_set, he, List.set_cons_zero, List.set_cons_succ, Nat.add_zero] at h2
  exact h2
theorem insLotAt_over (w : World) (gv g o lb cb m vc : Nat) (x : Lot) (cur : Array Value) (hv : Blk w gv 62 #[.int .i64 x.asset, .int .i64 x.tag, .int .i64 x.qty]) (hg : Blk w g 62 cur) (hne : gv ≠ g) (hc : cur.size ≠ 0) :
    (callFunc 174 #[.slice (some ⟨gv, 0, none⟩) m vc, .slice (some ⟨g, o, none⟩) lb cb]).run Try.prog w = .ok (.value (.bool false)) w := by
  rw [run_callFunc_extern Try.func174 (by kernel_rfl) (by kernel_rfl) (by kernel_rfl) (e := Extern.SlicesOverlaps.overlaps #[97, 97] #[4]) (by kernel_rfl),
    Lib.run_overlaps_apart w 97 4 62 Try.underlying97 3 (fun _ => by kernel_rfl) ⟨gv, 0, none⟩ ⟨g, o, none⟩ m vc lb cb hne _ _ _ _ hv.shape hg.shape hc (hv.frozen 0) (hv.frozen _)]
  rfl
set_option maxRecDepth 100000 in
set_option maxHeartbeats 4000000 in
theorem insLotAt (l : List Lot) (x : Lot) (i : Nat) (v : Value) (base gv : Nat) (w : World) (hi : i ≤ l.length) (hl : l.length ≤ 1048576) (hbs : base ≤ w.heap.size) (hown : Own w base 62 3 v (l.map encLot)) (hv : Blk w gv 62 #[.int .i64 x.asset, .int .i64 x.tag, .int .i64 x.qty]) (hne : v.ownBlock ≠ some gv) :
    Calls Try.prog 151 #[v, .int .i64 i, .slice (some ⟨gv, 0, none⟩) 1 1] w fun e w' => ∃ v', e = .returned v' ∧ Own w' base 62 3 v' ((l.take i ++ x :: l.drop i).map encLot) ∧ Below base w w' ∧ w.grownBy w' v.ownBlock := by
  have HOWN := Lib.hid hown
  have HV := Lib.hid hv
  have hil : (i : Int) ≤ (l.length : Int) := by omega
  obtain ⟨A, c, hv0, hrs, hform⟩ := hown.rs
  have hcap := hrs.cap
  have hroom := hrs.room
  rw [List.length_map] at hv0 hcap
  unfold maxLen at hroom
  subst hv0
  have HRD := Lib.hid hrs.rd
  clear hown hrs hv
  cases he : ((i : Int) == (l.length : Int))
  rotate_left
  · have hie : i = l.length := by have := eq_of_beq he; omega
    have HE := Lib.hid (show (l.take i ++ x :: l.drop i).map encLot = l.map encLot ++ [encLot x] from by rw [hie, List.take_length, List.drop_length]; simp)
    have hie1 : i ≤ l.length ∧ l.length ≤ i := by omega
    clear hie
    have tailc : (A = none ∧ l.length = 0 ∧ c = 0 ∧ i = 0) ∨ (∃ g, A = some ⟨g, 0, none⟩ ∧ c = i) ∨ (∃ g, A = some ⟨g, 0, none⟩ ∧ ¬ c = i) := by
      rcases hform with ⟨h1, h2, h3⟩ | ⟨g, h1, _⟩
      · left; exact ⟨h1, by simpa using congrArg List.length h2, h3, by have := congrArg List.length h2; simp at this; rw [this] at hie1; simpa using hie1.1⟩
      · right
        by_cases h : c = i
        · left; exact ⟨g, h1, h⟩
        · right; exact ⟨g, h1, h⟩
    rcases tailc with ⟨rfl, hl0, rfl, rfl⟩ | ⟨g, rfl, hc⟩ | ⟨g, rfl, hc⟩
    · have hl1 : l = [] := List.eq_nil_of_length_eq_zero hl0
      subst hl1
      simp only [List.length_nil]
      go_enter Try.func151, Try.ntmps151
      go_wp2_with (at_builtin; refine wpList_appG rfl _ _ _ rfl elLot base (.slice none 0 0) [] rfl (Own.nil _ _ _ _) ⟨gv, 0, none⟩ 1 1 rfl [encLot x] rfl HV.out.rd (rowsLot [x]) (by unfold maxLen; first | (simp; done) | omega | (simp; omega)) (by first | (simp; done) | omega | (simp; omega)) hbs ?_; intro v' w3 hown3 hb3 hg3)
      go_ret
      exact ⟨v', rfl, by simpa using hown3, hb3, hg3⟩
    · have hc' : ¬ c < i := by omega
      have hc2 : c ≤ i ∧ i ≤ c := by omega
      subst hc
      go_enter Try.func151, Try.ntmps151
      go_wp2_with (at_builtin; refine wpList_appG rfl _ _ _ rfl elLot base (.slice (some ⟨g, 0, none⟩) l.length c) (l.map encLot) rfl HOWN.out ⟨gv, 0, none⟩ 1 1 rfl [encLot x] rfl HV.out.rd (rowsLot [x]) (by unfold maxLen; first | (simp; done) | omega | (simp; omega)) (by first | (simp; done) | omega | (simp; omega)) hbs ?_; intro v' w3 hown3 hb3 hg3)
      go_ret
      exact ⟨v', rfl, by rw [HE.out]; exact hown3, hb3, hg3⟩
    · have hc' : ¬ i = c := by omega
      go_enter Try.func151, Try.ntmps151
      go_wp2_with (at_builtin; refine wpList_appG rfl _ _ _ rfl elLot base (.slice (some ⟨g, 0, none⟩) l.length c) (l.map encLot) rfl HOWN.out ⟨gv, 0, none⟩ 1 1 rfl [encLot x] rfl HV.out.rd (rowsLot [x]) (by unfold maxLen; first | (simp; done) | omega | (simp; omega)) (by first | (simp; done) | omega | (simp; omega)) hbs ?_; intro v' w3 hown3 hb3 hg3)
      go_ret
      exact ⟨v', rfl, by rw [HE.out]; exact hown3, hb3, hg3⟩
  have hlt : i < l.length := by
    rcases Nat.lt_or_ge i l.length with h | h
    · exact h
    · exfalso
      have e : (i : Int) = (l.length : Int) := by omega
      rw [e] at he
      simp at he
  obtain ⟨g, rfl, hgb, hgl⟩ : ∃ g, A = some ⟨g, 0, none⟩ ∧ base ≤ g ∧ g < w.heap.size := by
    rcases hform with ⟨_, h2, _⟩ | h
    · exfalso; have := congrArg List.length h2; simp at this; rw [this] at hlt; simp at hlt
    · exact h
  have hgne : g ≠ gv := by simpa [Value.ownBlock] using hne
  have hci : ¬ c = i := by omega
  have hci' : ¬ i = c := by omega
  have HX : Hid ((l.take i ++ x :: l.drop i).map encLot = (l.map encLot).take i ++ encLot x :: (l.map encLot).drop i) := by unfold Hid; simp [List.map_take, List.map_drop]
  have hrl : i < (l.map encLot).length := by rw [List.length_map]; exact hlt
  have il : (i : Int) < (l.length : Int) := by omega
  by_cases hgrow : c < l.length + 1
  · have hg1 : decide ((c : Int) < (l.length : Int) + 1) = true := by simp; omega
    have RT := Lib.hid (rd_take' HRD.out i)
    have rdr := rd_dropR HRD.out i
    rw [Nat.zero_add] at rdr
    have RDR := Lib.hid rdr
    clear rdr
    have lt1 : ((l.map encLot).take i).length = i := by rw [List.length_take]; omega
    have LT1 := Lib.hid lt1
    have LD1 := Lib.hid (show ((l.map encLot).drop i).length = l.length - i from by simp)
    have HRW := Lib.hid (rowsLot l)
    clear hform lt1
    go_enter Try.func151, Try.ntmps151
    go_wp2_with (first | (at_builtin; refine wpList_appZ rfl _ _ _ _ (kn := .i64) (by kernel_rfl) rfl elLot (sLen := i) (sCap := c) (m := l.length + 1 - i) (N := l.length + 1) rfl rfl (by omega) LT1.out RT.out (fun r hr => (HRW.out r (List.mem_of_mem_take hr)).1) (by omega) (by omega) (by omega) (by unfold maxLen; omega) (by omega) ?_; intro w3 c3 junk hj hown3 hb3; have HJ := Lib.hid hj; have hc3 := hown3.rd.2.2; have hjl : l.length + 1 ≤ c3 := (by have := hown3.rd.2.1; omega); have hm3 : c3 ≤ 9223372036854775807 := (by have := hc3.2; unfold maxLen at this; omega); have HO3 := Lib.hid hown3; have Hb3 := Lib.hid hb3; have hz3 := hb3.size; have hi3 : ¬ c3 = i := (by omega); have hi3' : ¬ i = c3 := (by omega); clear hj hown3 hc3 hb3) | (refine wpList_copyR rfl _ _ _ _ rfl elLot (base := w.heap.size) (g := w.heap.size) (n := l.length + 1) (d := i) (sLen := 1) (src := [encLot x]) rfl rfl HO3.out (by change 1 = min _ _; omega) (by change i + 1 ≤ _; omega) (HV.out.below Hb3.out HV.out.lt).rd (rowsLot [x]) ?_; intro w4 hown4 ho4; have HO4 := Lib.hid hown4; have Ho4 := Lib.hid ho4; have hz4 := ho4.size; clear hown4 ho4))
    have S1 := Lib.hid (show ((l.map encLot).drop i).length = Nat.min (l.length - i) (l.length - i) from by rw [LD1.out]; change _ = min _ _; omega)
    have S2 := Lib.hid (show i + 1 + ((l.map encLot).drop i).length ≤ l.length + 1 from by rw [LD1.out]; omega)
    have S3 := Lib.hid (show g ≠ w.heap.size from by omega)
    have wk : IntKind.i64.wrap ((i : Int) + 1) = (i : Int) + 1 := IntWalk.i64_in _ (by omega)
    have tk : ((i : Int) + 1).toNat = i + 1 := by omega
    have nk : (0 : Int) ≤ (i : Int) + 1 := by omega
    have ck : ¬ c3 = i + 1 := by omega
    have il1 : (i : Int) ≤ (l.length : Int) + 1 := by omega
    go_region_law (refine step_copyR rfl (.tmp 50) (.tmp 53) 97 97 rfl elLot (base := w.heap.size) (g := w.heap.size) (n := l.length + 1) (c := c3) (d := i + 1) (dLen := l.length - i) (dCap := c3 - (i + 1)) (sLen := l.length - i) (sCap := c - i) (ad := ⟨g, i * 3, none⟩) (rows := lay ((l.map encLot).take i ++ junk) [encLot x] i) (src := (l.map encLot).drop i) ?_ ?_ HO4.out.drew S1.out S2.out ((RDR.out.keep Hb3.out).only rfl Ho4.out S3.out).drew (fun r hr => HRW.out r (List.mem_of_mem_drop hr)) ?_; go_simp; go_simp; intro w5 hown5 ho5; have HO5 := Lib.hid hown5; have Ho5 := Lib.hid ho5.undrew; clear hown5 ho5)
    clear wk tk nk
    go_wp2_with fail
    go_ret
    refine ⟨_, rfl, ?_, ?_, ?_⟩
    · rw [HX.out, ← ins_grow hrl (by rw [HJ.out, List.length_map])]
      exact HO5.out.mono hbs
    · exact below_only (below_only (Hb3.out.mono hbs) Ho4.out (by omega) hbs) Ho5.out (by omega) hbs
    · exact grown_of_below (below_only (below_only Hb3.out Ho4.out (by omega) (Nat.le_refl _)) Ho5.out (by omega) (Nat.le_refl _))
  · have hg1 : decide ((c : Int) < (l.length : Int) + 1) = false := by simp; omega
    obtain ⟨junk, hj, hfull⟩ := HOWN.out.full
    have hhead := hfull.head (m := l.length + 1) (by omega)
    obtain ⟨cur, hcur⟩ := HOWN.out.blk rfl
    have hcs : cur.size ≠ 0 := by
      obtain ⟨cur', h1, _, _, _, _, h2, _⟩ := HOWN.out.raw
      unfold Blk at hcur
      rw [hcur] at h1
      injection h1 with h1
      injection h1 with h1 _ _
      subst h1
      omega
    have HJ := Lib.hid (show 0 < junk.length from by omega)
    have HH := Lib.hid hhead
    have hov := fun lb cb => insLotAt_over w gv g ((i + 1) * 3) lb cb 1 1 x cur HV.out hcur (fun e => hgne e.symm) hcs
    have LD1 := Lib.hid (show ((l.map encLot).drop i).length = l.length - i from by simp)
    have HRW := Lib.hid (rowsLot l)
    have rdr := rd_dropR HRD.out i
    rw [Nat.zero_add] at rdr
    have RDR := Lib.hid rdr
    clear rdr
    clear hform hfull hhead hcur hcs hj
    go_enter Try.func151, Try.ntmps151
    go_wp2_with fail
    clear hov
    have S1 := Lib.hid (show ((l.map encLot).drop i).length = Nat.min (l.length + 1 - i) (l.length - i) from by rw [LD1.out]; change _ = min _ _; omega)
    have S2 := Lib.hid (show i + 1 + ((l.map encLot).drop i).length ≤ l.length + 1 from by rw [LD1.out]; omega)
    have wk : IntKind.i64.wrap ((i : Int) + 1) = (i : Int) + 1 := IntWalk.i64_in _ (by omega)
    have tk : ((i : Int) + 1).toNat = i + 1 := by omega
    have nk : (0 : Int) ≤ (i : Int) + 1 := by omega
    have ck : ¬ c = i + 1 := by omega
    have il1 : (i : Int) ≤ (l.length : Int) + 1 := by omega
    go_region_law (refine step_copyR rfl (.tmp 73) (.tmp 76) 97 97 rfl elLot (base := base) (g := g) (n := l.length + 1) (c := c) (d := i + 1) (dLen := l.length - i) (dCap := c - (i + 1)) (sLen := l.length + 1 - i) (sCap := c - i) (ad := ⟨g, i * 3, none⟩) (rows := (l.map encLot ++ junk).take (l.length + 1)) (src := (l.map encLot).drop i) ?_ ?_ HH.out.drew S1.out S2.out RDR.out.drew (fun r hr => HRW.out r (List.mem_of_mem_drop hr)) ?_; go_simp; go_simp; intro w5 hown5 ho5; have HO5 := Lib.hid hown5; have Ho5 := Lib.hid ho5.undrew; clear hown5 ho5)
    clear wk tk nk
    go_wp2_with (refine wpList_copyR rfl _ _ _ _ rfl elLot (base := base) (g := g) (n := l.length + 1) (c := c) (d := i) (sLen := 1) (src := [encLot x]) rfl rfl HO5.out (by change 1 = min _ _; omega) (by change i + 1 ≤ _; omega) (HV.out.only Ho5.out (fun e => hgne e.symm)).rd (rowsLot [x]) ?_; intro w6 hown6 ho6; have HO6 := Lib.hid hown6; have Ho6 := Lib.hid ho6; clear hown6 ho6)
    go_ret
    refine ⟨_, rfl, ?_, ?_, ?_⟩
    · rw [HX.out, ← ins_room hrl HJ.out, List.length_map]
      exact HO6.out
    · exact below_only (below_only (Below.refl _ _) Ho5.out hbs hgb) Ho6.out (by have := Ho5.out.size; omega) hgb
    · exact grown_of_only Ho5.out Ho6.out
/-- append(s[:n], rows..), where there is room: in place. -/
theorem wp_appIn {P : Program} {o : Oper} {a : Act} {K : Act → World → Prop} {Q : Exit → Act → World → Prop} {w : World} (x y : Operand) (T : TypeId)
    (ho : o.op = .call { callee := .builtin .append, args := #[x, y], argTypes := #[T, T] }) {E k bytes : Nat} (el : Elem P T E k bytes)
    {base g n c m sc : Nat} {ad : Addr} {rows news : List (List Value)} (hx : a.eval x = .slice (some ⟨g, 0, none⟩) n c) (hy : a.eval y = .slice (some ad) m sc)
    (hown : Own w base E k (.slice (some ⟨g, 0, none⟩) n c) rows) (hm : news.length = m) (hroom : n + m ≤ c) (hr : Rd w (some ad) k news) (hk : ∀ r ∈ news, r.length = k ∧ ∀ u ∈ r, u.oneCell' = true)
    (h : ∀ w', Own w' base E k (.slice (some ⟨g, 0, none⟩) (n + m) c) (rows ++ news) → Only g w w' → K (a.put o.dst (.slice (some ⟨g, 0, none⟩) (n + m) c)) w') : o.wp P a w K Q := by
  obtain ⟨i, z, hi, hz, hsize, hby, hzs⟩ := el.info
  have hkl : ∀ r ∈ news, r.length = k := fun r hr => (hk r hr).1
  obtain ⟨cur, hh, hg, hn, hnc, hcm, hs, ht⟩ := hown.raw
  have hfl : news.flatten.length = m * k := by rw [flatten_length hkl, hm]
  have hle : (n + m) * k ≤ c * k := Nat.mul_le_mul_right k hroom
  have hadd : (n + m) * k = n * k + m * k := Nat.add_mul _ _ _
  have hrun := run_append_room (P := P) (w := w) T o.type E i el.ty hi g n c cur hh ad m sc news.flatten (by rw [hfl, hsize]) (rd_cells hkl hr) (fun u hu => by
      obtain ⟨r, hr1, hr2⟩ := List.mem_flatten.1 hu
      exact (hk r hr1).2 u hr2) hroom (by rw [hfl, hsize, hs]; omega)
  rw [hsize] at hrun
  unfold Oper.wp
  simp [execOp, ho, resolve, invoke, builtin, hx, hy, hrun, Result.andThen]
  obtain ⟨junk, hj, hfull⟩ := hown.full
  have hlaid := (hfull.head (m := n + m) hroom).laid hkl (d := n) (by omega) hh
  have hlay : lay ((rows ++ junk).take (n + m)) news n = rows ++ news := by
    unfold lay
    have h1 : ((rows ++ junk).take (n + m)).take n = rows := by
      rw [List.take_take, Nat.min_eq_left (by omega), List.take_append_of_le_length (by omega), List.take_of_length_le (by omega)]
    rw [h1, List.drop_eq_nil_of_le (by rw [List.length_take]; omega), List.append_nil]
  rw [hlay] at hlaid
  simp only [List.append_assoc, List.length_flatten] at hlaid
  exact h _ hlaid (Only.setRow (Array.getElem?_eq_some_iff.1 hh).1 _)
theorem step_appIn {P : Program} {ops : Array Oper} {o : Oper} {a : Act} {K : Act → World → Prop} {Q : Exit → Act → World → Prop} {w : World} {R : Prop} (hgd : o.guard = none) (x y : Operand) (T : TypeId)
    (ho : o.op = .call { callee := .builtin .append, args := #[x, y], argTypes := #[T, T] }) {E k bytes : Nat} (el : Elem P T E k bytes)
    {base g n c m sc : Nat} {ad : Addr} {rows news : List (List Value)} (hx : a.eval x = .slice (some ⟨g, 0, none⟩) n c) (hy : a.eval y = .slice (some ad) m sc)
    (hown : Own w base E k (.slice (some ⟨g, 0, none⟩) n c) rows) (hm : news.length = m) (hroom : n + m ≤ c) (hr : Rd w (some ad) k news) (hk : ∀ r ∈ news, r.length = k ∧ ∀ u ∈ r, u.oneCell' = true)
    (h : ∀ w', Own w' base E k (.slice (some ⟨g, 0, none⟩) (n + m) c) (rows ++ news) → Only g w w' → K (a.put o.dst (.slice (some ⟨g, 0, none⟩) (n + m) c)) w') : if Region.wanted o (yielded ops a.tmps) = true then Oper.wp P o a w K Q else R := by
  have hw : Region.wanted o (yielded ops a.tmps) = true := by simp [Region.wanted, hgd]
  rw [if_pos hw]
  exact wp_appIn x y T ho el hx hy hown hm hroom hr hk h
set_option maxRecDepth 100000 in
set_option maxHeartbeats 8000000 in
theorem delLotAt (l : List Lot) (i : Nat) (v : Value) (base : Nat) (w : World) (hi : i < l.length) (hl : l.length ≤ 1048576) (hbs : base ≤ w.heap.size) (hown : Own w base 62 3 v (l.map encLot)) :
    Calls Try.prog 154 #[v, .int .i64 i, .int .i64 ((i : Int) + 1)] w fun e w' => ∃ v', e = .returned v' ∧ Own w' base 62 3 v' ((l.take i ++ l.drop (i + 1)).map encLot) ∧ Below base w w' := by
  obtain ⟨A, c, hv0, hrs, hform⟩ := hown.rs
  have hcap := hrs.cap
  have hroom := hrs.room
  rw [List.length_map] at hv0 hcap
  unfold maxLen at hroom
  subst hv0
  obtain ⟨g, rfl, hg1, hg2⟩ := hown.at (by rw [List.length_map]; omega)
  have HO := Lib.hid hown
  have HHD := Lib.hid (show Own w base 62 3 (.slice (some ⟨g, 0, none⟩) i c) ((l.take i).map encLot) from by have := hown.head (m := i) (by omega); rw [← List.map_take] at this; exact this)
  have HTL := Lib.hid (show Rd w (some ⟨g, (i + 1) * 3, none⟩) 3 ((l.drop (i + 1)).map encLot) from by have := rd_dropR hrs.rd (i + 1); rw [← List.map_drop, Nat.zero_add] at this; exact this)
  have HLL := Lib.hid (show ((l.drop (i + 1)).map encLot).length = l.length - (i + 1) from by simp)
  have HLM := Lib.hid (show (l.take i ++ l.drop (i + 1)).length = l.length - 1 from by simp; omega)
  obtain ⟨m, hm⟩ : ∃ m, l.length = i + 1 + m := ⟨l.length - (i + 1), by omega⟩
  have HLL2 := Lib.hid (show ((l.drop (i + 1)).map encLot).length = m from by rw [HLL.out]; omega)
  have HM := Lib.hid hm
  rw [hm] at hcap
  rw [hm]
  have ci : ¬ c = i := by omega
  have ci' : ¬ i = c := by omega
  clear hown hrs hform
  have HZ := Lib.hid (fun (z : Value) (h : (Try.prog.info? 62).bind (·.zero) = some z) => zone_Lot z h)
  have HF := Lib.hid (fun (W : World) (h : Own W base 62 3 (.slice (some ⟨g, 0, none⟩) (i + m) c) ((l.take i).map encLot ++ (l.drop (i + 1)).map encLot)) => show ∃ junk, Own W base 62 3 (.slice (some ⟨g, 0, none⟩) (i + 1 + m) c) junk ∧ junk.take (i + m) = (l.take i ++ l.drop (i + 1)).map encLot from by
    obtain ⟨junk, hj, hf⟩ := h.full
    have hrl : ((l.take i).map encLot ++ (l.drop (i + 1)).map encLot).length = i + m := by simp; omega
    refine ⟨_, hf.head (m := i + 1 + m) (by omega), ?_⟩
    rw [List.take_take, Nat.min_eq_left (by omega), List.take_append_of_le_length (by omega), List.take_of_length_le (by omega), List.map_append])
  have ic : (i : Int) ≤ (c : Int) := by omega
  have ii1 : (i : Int) ≤ (i : Int) + 1 := by omega
  have i1m : (i : Int) + 1 ≤ (i : Int) + 1 + (m : Int) := by omega
  have i1c : (i : Int) + 1 + (m : Int) ≤ (c : Int) := by omega
  clear hm hi hl HLL HLM
  have wk : IntKind.i64.wrap ((i : Int) + 1) = (i : Int) + 1 := IntWalk.i64_in _ (by omega)
  have tk : ((i : Int) + 1).toNat = i + 1 := by omega
  have nk : (0 : Int) ≤ (i : Int) + 1 := by omega
  have ne1 : ((i : Int) == (i : Int) + 1) = false := by rw [beq_eq_false_iff_ne]; omega
  by_cases hc1 : c = i + 1
  · obtain rfl : m = 0 := by omega
    have hnil : (l.drop (i + 1)).map encLot = [] := List.eq_nil_of_length_eq_zero HLL2.out
    have HNL := Lib.hid hnil
    clear hnil
    have ci1 : c ≤ i + 1 ∧ i + 1 ≤ c := by omega
    subst hc1
    go_enter Try.func154, Try.ntmps154
    go_wp2_with fail
    go_region_law (refine step_appIn rfl (.tmp 22) (.tmp 25) 97 rfl elLot (base := base) (g := g) (n := i) (c := i + 1) (m := 0) (sc := 0) (ad := ⟨g, 0, none⟩) (rows := (l.take i).map encLot) (news := (l.drop (i + 1)).map encLot) ?_ ?_ HHD.out.drew HLL2.out (by omega) (by rw [HNL.out]; exact fun j r h => by simp at h) (rowsLot _) ?_; go_simp; go_simp; intro w5 hown5 ho5; have HO5 := Lib.hid hown5; have Ho5 := Lib.hid ho5.undrew; clear hown5 ho5)
    clear wk tk nk
    obtain ⟨junk, hjo, hjt⟩ := HF.out _ HO5.out
    have HJO := Lib.hid hjo
    have HJT := Lib.hid hjt
    clear hjo hjt
    go_wp2_with (refine wpList_clearR rfl _ _ rfl elLot HZ.out (base := base) (g := g) (n := i + 1 + 0) (c := i + 1) (i := i + 0) rfl (fun _ => rfl) (by omega) (by omega) HJO.out ?_; intro w6 hown6 ho6; have HO6 := Lib.hid hown6; have Ho6 := Lib.hid ho6; clear hown6 ho6)
    go_ret
    exact ⟨_, rfl, by rw [← HJT.out]; exact HO6.out, below_only (below_only (Below.refl _ _) Ho5.out hbs hg1) Ho6.out (by have := Ho5.out.size; omega) hg1⟩
  · have hc1' : ¬ i + 1 = c := fun h => hc1 h.symm
    go_enter Try.func154, Try.ntmps154
    go_wp2_with fail
    go_region_law (refine step_appIn rfl (.tmp 22) (.tmp 25) 97 rfl elLot (base := base) (g := g) (n := i) (c := c) (m := m) (sc := c - (i + 1)) (ad := ⟨g, (i + 1) * 3, none⟩) (rows := (l.take i).map encLot) (news := (l.drop (i + 1)).map encLot) ?_ ?_ HHD.out.drew HLL2.out (by omega) HTL.out.drew (rowsLot _) ?_; go_simp; go_simp; intro w5 hown5 ho5; have HO5 := Lib.hid hown5; have Ho5 := Lib.hid ho5.undrew; clear hown5 ho5)
    clear wk tk nk
    obtain ⟨junk, hjo, hjt⟩ := HF.out _ HO5.out
    have HJO := Lib.hid hjo
    have HJT := Lib.hid hjt
    clear hjo hjt
    have im1 : (i : Int) + (m : Int) ≤ (c : Int) := by omega
    have im2 : (i : Int) + (m : Int) ≤ (i : Int) + 1 + (m : Int) := by omega
    have cim : ¬ c = i + m := by omega
    have cim' : ¬ i + m = c := by omega
    go_wp2_with (refine wpList_clearR rfl _ _ rfl elLot HZ.out (base := base) (g := g) (n := i + 1 + m) (c := c) (i := i + m) rfl (fun _ => rfl) rfl (by omega) HJO.out ?_; intro w6 hown6 ho6; have HO6 := Lib.hid hown6; have Ho6 := Lib.hid ho6; clear hown6 ho6)
    go_ret
    exact ⟨_, rfl, by rw [← HJT.out]; exact HO6.out, below_only (below_only (Below.refl _ _) Ho5.out hbs hg1) Ho6.out (by have := Ho5.out.size; omega) hg1⟩
end Go.Proofs.Ytiidplinmempcaa

/- Rows by unit: where a unit stands; what a loop makes of rows that rise; an append that says what it leaves. -/
namespace Go.Proofs.Ytiidplinmempcaa
open Go.RowKit
section
variable {α : Type} {ok : List α → Bool}
def plK (l : List (Row α)) (u : Un) : Nat := (l.takeWhile (fun x => lessU x.unit u)).length
def thK (l : List (Row α)) (u : Un) : Bool := atB (fun x => decide (x.unit = u)) l (plK l u)
theorem plK_le (l : List (Row α)) (u : Un) : plK l u ≤ l.length := tw_len _ _
theorem plK_lt {x : Row α} {t : List (Row α)} {u : Un} (h : lessU x.unit u = true) : plK (x :: t) u = plK t u + 1 ∧ thK (x :: t) u = thK t u := by
  have e : plK (x :: t) u = plK t u + 1 := by unfold plK; rw [List.takeWhile_cons_of_pos (p := fun y : Row α => lessU y.unit u) h]; rfl
  refine ⟨e, ?_⟩
  unfold thK
  rw [e]
  unfold atB
  rw [List.getElem?_cons_succ]
theorem plK_ge {x : Row α} {t : List (Row α)} {u : Un} (h : lessU x.unit u = false) : plK (x :: t) u = 0 ∧ thK (x :: t) u = decide (x.unit = u) := by
  have e : plK (x :: t) u = 0 := by unfold plK; rw [List.takeWhile_cons_of_neg (by rw [h]; simp)]; rfl
  refine ⟨e, ?_⟩
  unfold thK
  rw [e]
  simp [atB]
theorem filter_take {l : List (Row α)} (hs : SortK l) (u : Un) : l.filter (fun x => lessU x.unit u) = l.take (plK l u) := by
  rw [filter_lt hs]
  unfold plK
  exact (List.prefix_iff_eq_take.1 (List.takeWhile_prefix _))
theorem filter_drop : ∀ {l : List (Row α)} (_ : SortK l) (u : Un), l.filter (fun x => lessU u x.unit) = l.drop (plK l u + if thK l u = true then 1 else 0)
  | [], _, _ => by simp
  | x :: t, hs, u => by
    unfold SortK at hs
    rw [List.pairwise_cons] at hs
    cases h : lessU x.unit u
    · obtain ⟨e1, e2⟩ := plK_ge (t := t) h
      rw [e1, e2]
      have ht : t.filter (fun y => lessU u y.unit) = t := by
        rw [List.filter_eq_self]
        intro y hy
        rcases lessU_tri x.unit u with h1 | h1 | h1
        · rw [h] at h1; cases h1
        · rw [← h1]; exact hs.1 y hy
        · exact lessU_trans h1 (hs.1 y hy)
      by_cases hx : x.unit = u
      · rw [if_pos (by simpa using hx), List.filter_cons_of_neg (by rw [hx, lessU_irr]; simp), ht]; rfl
      · have h2 : lessU u x.unit = true := by
          rcases lessU_tri x.unit u with h1 | h1 | h1
          · rw [h] at h1; cases h1
          · exact absurd h1 hx
          · exact h1
        rw [if_neg (by simpa using hx), List.filter_cons_of_pos (p := fun y : Row α => lessU u y.unit) h2, ht]; rfl
    · obtain ⟨e1, e2⟩ := plK_lt (t := t) h
      rw [e1, e2, List.filter_cons_of_neg (by rw [lessU_asymm h]; simp), filter_drop hs.2 u, show plK t u + 1 + (if thK t u = true then 1 else 0) = (plK t u + if thK t u = true then 1 else 0) + 1 by omega, List.drop_succ_cons]
theorem with_place {l : List (Row α)} (hs : SortK l) (u : Un) (now : List α) : withK l u now = l.take (plK l u) ++ (oneK u now ++ l.drop (plK l u + if thK l u = true then 1 else 0)) := by
  unfold withK
  rw [filter_take hs, filter_drop hs]
def shG (u : Un) (now : List α) : Bool → List (Row α) → List (Row α)
  | done, [] => if done then [] else [⟨u, now⟩]
  | done, x :: t => (if done = false ∧ lessU x.unit u = false then [⟨u, now⟩] else []) ++ ((if x.unit = u then [] else [x]) ++ shG u now (done || !lessU x.unit u) t)
theorem shG_true (u : Un) (now : List α) : ∀ {l : List (Row α)} (_ : SortK l), shG u now true l = l.filter (fun x => lessU x.unit u) ++ l.filter (fun x => lessU u x.unit)
  | [], _ => rfl
  | x :: t, hs => by
    unfold SortK at hs
    rw [List.pairwise_cons] at hs
    have ih := shG_true u now hs.2
    unfold shG
    rw [if_neg (by simp), Bool.true_or, ih, List.nil_append]
    rcases lessU_tri x.unit u with h | h | h
    · rw [if_neg (lessU_ne h), List.filter_cons_of_pos (p := fun y : Row α => lessU y.unit u) h, List.filter_cons_of_neg (by rw [lessU_asymm h]; simp)]; rfl
    · rw [if_pos h, List.filter_cons_of_neg (by rw [h, lessU_irr]; simp), List.filter_cons_of_neg (by rw [h, lessU_irr]; simp)]; rfl
    · have n1 : t.filter (fun y => lessU y.unit u) = [] := by
        rw [List.filter_eq_nil_iff]
        intro y hy
        rw [lessU_asymm (lessU_trans h (hs.1 y hy))]; simp
      rw [if_neg (lessU_ne h).symm, List.filter_cons_of_neg (by rw [lessU_asymm h]; simp), List.filter_cons_of_pos (p := fun y : Row α => lessU u y.unit) h, n1]; rfl
theorem shG_false (u : Un) (now : List α) : ∀ {l : List (Row α)} (_ : SortK l), shG u now false l = l.filter (fun x => lessU x.unit u) ++ ([⟨u, now⟩] ++ l.filter (fun x => lessU u x.unit))
  | [], _ => rfl
  | x :: t, hs => by
    have hs0 := hs
    unfold SortK at hs
    rw [List.pairwise_cons] at hs
    unfold shG
    cases h : lessU x.unit u
    · have n1 : (x :: t).filter (fun y => lessU y.unit u) = [] := by
        rw [List.filter_eq_nil_iff]
        intro y hy
        rw [Bool.not_eq_true]
        rcases List.mem_cons.1 hy with rfl | hy
        · exact h
        · cases h2 : lessU y.unit u
          · rfl
          · rw [lessU_trans (hs.1 y hy) h2] at h; cases h
      have n2 : t.filter (fun y => lessU y.unit u) = [] := by
        have : (x :: t).filter (fun y => lessU y.unit u) = t.filter (fun y => lessU y.unit u) := List.filter_cons_of_neg (by rw [h]; simp)
        rw [← this, n1]
      rw [if_pos ⟨rfl, rfl⟩, Bool.not_false, Bool.or_true, shG_true u now hs.2, n1, n2]
      by_cases hx : x.unit = u
      · rw [if_pos hx, List.filter_cons_of_neg (by rw [hx, lessU_irr]; simp)]; rfl
      · have h2 : lessU u x.unit = true := by
          rcases lessU_tri x.unit u with h1 | h1 | h1
          · rw [h] at h1; cases h1
          · exact absurd h1 hx
          · exact h1
        rw [if_neg hx, List.filter_cons_of_pos (p := fun y : Row α => lessU u y.unit) h2]; rfl
    · rw [if_neg (by simp), if_neg (lessU_ne h), Bool.not_true, Bool.or_false, shG_false u now hs.2, List.filter_cons_of_pos (p := fun y : Row α => lessU y.unit u) h, List.filter_cons_of_neg (by rw [lessU_asymm h]; simp)]; rfl
theorem shG_with {l : List (Row α)} (hs : SortK l) (u : Un) (now : List α) : shG u now now.isEmpty l = withK l u now := by
  unfold withK oneK
  cases h : now.isEmpty
  · rw [shG_false u now hs]; rfl
  · rw [shG_true u now hs]; rfl
theorem ofK_ok {l : List (Row α)} (h : isK ok l = true) (u : Un) : ofK l u = [] ∨ ok (ofK l u) = true := by
  rcases ofK_mem (l := l) (u := u) with ⟨x, hx, _, h1⟩ | ⟨_, h1⟩
  · right; rw [h1]; exact ((isK_facts h).2 x hx).2
  · left; exact h1
end
section
variable {α : Type} {u : Un} {now : List α} {x : Row α} {t : List (Row α)}
theorem shG_1 (h : x.unit = u) : shG u now true (x :: t) = shG u now true t := by
  rw [shG, if_neg (by simp), if_pos h]; rfl
theorem shG_2 (h : x.unit ≠ u) : shG u now true (x :: t) = x :: shG u now true t := by
  rw [shG, if_neg (by simp), if_neg h]; rfl
theorem shG_3 (h : x.unit ≠ u) (hl : lessU x.unit u = true) : shG u now false (x :: t) = x :: shG u now false t := by
  rw [shG, if_neg (by rw [hl]; simp), if_neg h, hl]; rfl
theorem shG_4 (h : x.unit = u) (hl : lessU x.unit u = false) : shG u now false (x :: t) = ⟨u, now⟩ :: shG u now true t := by
  rw [shG, if_pos ⟨rfl, hl⟩, if_pos h, hl]; rfl
theorem shG_5 (h : x.unit ≠ u) (hl : lessU x.unit u = false) : shG u now false (x :: t) = ⟨u, now⟩ :: x :: shG u now true t := by
  rw [shG, if_pos ⟨rfl, hl⟩, if_neg h, hl]; rfl
end
theorem step_appG {P : Program} {ops : Array Oper} {o : Oper} {a : Act} {K : Act → World → Prop} {Q : Exit → Act → World → Prop} {w : World} {R : Prop} (hgd : o.guard = none) (s x : Operand) (T : TypeId)
    (ho : o.op = .call { callee := .builtin .append, args := #[s, x], argTypes := #[T, T] }) {E k bytes : Nat} (el : Elem P T E k bytes)
    (base : Nat) (v : Value) (rows : List (List Value)) (hs : a.eval s = v) (hown : Own w base E k v rows)
    (ad : Addr) (m c : Nat) (hx : a.eval x = .slice (some ad) m c) (news : List (List Value)) (hm : news.length = m) (hr : Rd w (some ad) k news) (hk : ∀ r ∈ news, r.length = k ∧ ∀ u ∈ r, u.oneCell' = true)
    (h63 : rows.length + m ≤ maxLen) (hbytes : (rows.length + m) * bytes ≤ 140737488355328) (hbase : base ≤ w.heap.size)
    (h : ∀ v' w', Own w' base E k v' (rows ++ news) → Below base w w' → w.grownBy w' v.ownBlock → K (a.put o.dst v') w') : if Region.wanted o (yielded ops a.tmps) = true then Oper.wp P o a w K Q else R := by
  have hw : Region.wanted o (yielded ops a.tmps) = true := by simp [Region.wanted, hgd]
  rw [if_pos hw]
  exact wp_appG s x T ho el base v rows hs hown ad m c hx news hm hr hk h63 hbytes hbase h
theorem grown_at {w w' : World} {row : Option Nat} (h : w.grownBy w' row) {g : Nat} (hg : g < w.heap.size) (hne : row ≠ some g) (o : Nat) : w'.cell? ⟨g, o, none⟩ = w.cell? ⟨g, o, none⟩ := by
  have h1 := h.block g hg (fun e => hne e.symm)
  simp only [World.cell?, h1]
end Go.Proofs.Ytiidplinmempcaa
