/- The contract of wide.Text. -/
import Derived.Test.YtpjehhkmdndcmaaWide7
import Derived.Test.YtpjehhkmdndcmaaDig0
import Derived.Test.YtpjehhkmdndcmaaBig1
import Derived.Test.YtpjehhkmdndcmaaStore
import Derived.Laws.IdiomStrings
namespace Go.Proofs.Ytpjehhkmdndcmaa
open Go.RowKit
theorem or_pos {m : Int} (h : 0 < m) (h1 : m < 340282366920938463463374607431768211456) : 0 < bits .or .u64 (whi m) (wlo m) := by
  have e := whi_wlo m
  have a1 : 0 ≤ whi m ∧ whi m ≤ 18446744073709551615 := by unfold whi; omega
  have a2 := wlo_u m
  obtain ⟨p, hp⟩ := Int.eq_ofNat_of_zero_le a1.1
  obtain ⟨q, hq⟩ := Int.eq_ofNat_of_zero_le a2.1
  rw [hp, hq] at e ⊢
  rw [hp] at a1
  rw [hq] at a2
  show 0 < IntKind.u64.wrap ((BitVec.ofInt 64 (p : Int) ||| BitVec.ofInt 64 (q : Int)).toNat : Int)
  have hn : p ≠ 0 ∨ q ≠ 0 := by omega
  have e1 : (BitVec.ofInt 64 (p : Int) ||| BitVec.ofInt 64 (q : Int)).toNat = p ||| q := by
    rw [BitVec.toNat_or, BitVec.ofInt_natCast, BitVec.toNat_ofNat, BitVec.ofInt_natCast, BitVec.toNat_ofNat, Nat.mod_eq_of_lt (by omega), Nat.mod_eq_of_lt (by omega)]
  have e2 : 0 < p ||| q := by
    rcases hn with h | h
    · exact Nat.lt_of_lt_of_le (Nat.pos_of_ne_zero h) Nat.left_le_or
    · exact Nat.lt_of_lt_of_le (Nat.pos_of_ne_zero h) Nat.right_le_or
  have e3 := (BitVec.ofInt 64 (p : Int) ||| BitVec.ofInt 64 (q : Int)).isLt
  rw [u64_wrap (by omega) (by omega), e1]
  omega
theorem or_zero : bits .or .u64 (whi 0) (wlo 0) = 0 := by decide +kernel
theorem rd_oneAt {w : World} {n : Nat} {cs : Array Value} {E k : Nat} (h : n = w.heap.size) : Rd (w.alloc (.cells cs E)) (some ⟨n, 0, none⟩) k [cs.toList] := by subst h; exact rd_one
theorem own_swap {w : World} {base E : Nat} {t : List Int} {r g n c : Nat} (h : Own w base E 1 (.slice (some ⟨g, 0, none⟩) n c) ((turned t r).map encB)) (hr : 2 * r + 1 < t.length) :
    Own ((w.setCell ⟨g, r, none⟩ (.int .u8 (t.getD (t.length - 1 - r) 0))).setCell ⟨g, t.length - 1 - r, none⟩ (.int .u8 (t.getD r 0))) base E 1 (.slice (some ⟨g, 0, none⟩) n c) ((turned t (r + 1)).map encB) := by
  obtain ⟨e1, e2⟩ := turned_get t r hr
  have h1 := h.put rfl (i := r) (r := encB (t.getD r 0)) (by rw [List.getElem?_map, e1]; rfl) (j := 0) (by omega) (.int .u8 (t.getD (t.length - 1 - r) 0))
  have h2 := h1.put rfl (i := t.length - 1 - r) (r := encB (t.getD (t.length - 1 - r) 0)) (by rw [List.getElem?_set_ne (by omega), List.getElem?_map, e2]; rfl) (j := 0) (by omega) (.int .u8 (t.getD r 0))
  rw [turned_step t r hr, List.map_set, List.map_set]
  simpa [encB] using h2
theorem own_cells {w : World} {base E : Nat} {t : List Int} {r g n c : Nat} (h : Own w base E 1 (.slice (some ⟨g, 0, none⟩) n c) ((turned t r).map encB)) {x : Nat} {v : Int} (hx : (turned t r)[x]? = some v) : w.cell? ⟨g, x, none⟩ = some (.int .u8 v) := by
  obtain ⟨b, o, hA, _, hc⟩ := h.rd.1 x (encB v) (by rw [List.getElem?_map, hx]; rfl)
  injection hA with hA
  injection hA with hA hB _
  subst hA hB
  have := hc 0 _ rfl
  simpa using this
theorem addr_plain (b o j : Nat) : (⟨b, o, none⟩ : Addr).add j = ⟨b, o + j, none⟩ := by unfold Addr.add; split <;> simp_all
def slen : Value → Nat
  | .slice _ n _ => n
  | _ => 0
set_option maxRecDepth 100000 in
set_option maxHeartbeats 8000000 in
theorem wideText (n : Int) (w : World) (hn : In128 n) :
    Calls Try.prog 64 #[(.agg #[.int .i64 (whi (n)), .int .u64 (wlo (n))])] w fun e w' => e = .returned (.string (textB n)) ∧ Below w.heap.size w w' := by
  have hm : 0 ≤ iabs n ∧ iabs n ≤ 170141183460469231731687303715884105728 := by unfold In128 at hn; unfold iabs; split <;> omega
  have hmn : iabs n = (n.natAbs : Nat) := iabs_nat n
  have c1 := fun W => wideSize n W hn
  have c2 := fun W => wideBelow n W hn
  rw [hmn] at c1 hm
  have C1 := Lib.hid c1
  have C2 := Lib.hid c2
  obtain ⟨M, hM⟩ : ∃ M, M = n.natAbs := ⟨_, rfl⟩
  rw [← hM] at C1 hm
  have HM := Lib.hid hM
  have h40 : M < 10 ^ 40 := by omega
  clear c1 c2 hmn hM
  go_enter Try.func64, Try.ntmps64
  go_wp2_with (go_at_call 91; (with_reducible refine (C1.out _).mono ?_); rintro e w1 ⟨rfl, hb1⟩; obtain ⟨fc1, fg1, hc1, hf1, hz1⟩ := bget hb1; (try simp at hz1); have Hb1 := Lib.hid hb1)
  go_loopw [4] (fun v wr => ∃ (o : List Int) (f k : Nat), f + o.length = 40 ∧ k < 10 ^ f ∧ k ≤ M ∧ Own wr (w1.heap.size + 1) 5 1 v (o.map encB) ∧ o ++ left o f k = dgs 40 M ∧ Blk wr w1.heap.size 116 #[.int .u64 (whi k), .int .u64 (wlo k)] ∧ Below w1.heap.size w1 wr) (fun v _ => 40 - slen v)
  case atStart => exact ⟨[], 40, M, rfl, h40, Nat.le_refl _, Own.nil _ _ _ _, left_start M, by (repeat' (first | (with_reducible assumption) | (with_reducible refine Blk.drew ?_) | (with_reducible refine Blk.here ?_) | (with_reducible refine Blk.alloc ?_ _) | (with_reducible refine Blk.far ?_ ?_ _) | (with_reducible refine Blk.below ?_ (by with_reducible assumption) ?_) | omega | (simp; done) | (simp; omega))), by (repeat' (first | (with_reducible exact Below.refl _ _) | (with_reducible assumption) | (with_reducible refine Below.alloc ?_ ?_ _) | (with_reducible refine Below.setCell ?_ ?_ _) | (with_reducible refine Below.drew ?_) | (with_reducible refine below_drewN ?_ _) | (with_reducible refine below_via ?_ (by with_reducible assumption) ?_) | omega | (simp; done) | (simp; omega)))⟩
  case round =>
    obtain ⟨o, f, k, hfo, hkf, hkM, hown, hleft, hbk, hbl⟩ := hrel
    have hz := hbl.size
    have u0 := hbk.cell 0
    have u1 := hbk.cell 1
    have v0 := hbk.frozen 0
    have v1 := hbk.frozen 1
    have ug := hbk.lt
    simp at u0 u1
    have hn0 : wr.cell? ⟨w.heap.size, 0, none⟩ = some (.int .i64 (whi n)) := (hbl.cell (p := ⟨w.heap.size, 0, none⟩) (by simp; omega)).trans (by simp [hc1, go_sem])
    have hn1 : wr.cell? ⟨w.heap.size, 1, none⟩ = some (.int .u64 (wlo n)) := (hbl.cell (p := ⟨w.heap.size, 1, none⟩) (by simp; omega)).trans (by simp [hc1, go_sem])
    obtain ⟨AO, cO, rfl, hcO, hmO, hrO, _⟩ := hown.shape
    have HO := Lib.hid hown
    rw [List.length_map] at HO ⊢
    have Hbk := Lib.hid hbk
    have Hbl := Lib.hid hbl
    have HL := Lib.hid hleft
    have ho40 : o.length ≤ 40 := by omega
    have HF := Lib.hid hfo
    have HK := Lib.hid hkf
    clear hown hbk hbl hleft hcO hmO hrO hfo hkf hc1 hf1 fc1 fg1
    by_cases hgo : o = [] ∨ k ≠ 0
    · obtain ⟨g, hg, hst, hkg⟩ := left_step HF.out HK.out hgo
      have HST := Lib.hid hst
      have HG := Lib.hid hg
      have HKG := Lib.hid hkg
      clear hst hg hkg
      have L := long_div (m := (k : Int)) (d := 10) (by omega) (by omega)
      have L1 := Lib.hid L.1
      have L2 := Lib.hid L.2.1
      have L3 := Lib.hid L.2.2
      have hw := wlo_u (k : Int)
      have hh : 0 ≤ whi (k : Int) ∧ whi (k : Int) ≤ 18446744073709551615 := by unfold whi; omega
      have hq : 0 ≤ (k : Int) % 10 ∧ (k : Int) % 10 ≤ 9 := by omega
      clear L
      have hcond : ((o.length : Int) == 0) = true ∨ (((o.length : Int) == 0) = false ∧ decide (0 < bits .or .u64 (whi (k : Int)) (wlo (k : Int))) = true) := by
        by_cases h : o = []
        · exact .inl (by rw [h]; rfl)
        · refine .inr ⟨?_, ?_⟩
          · have := List.length_pos_iff.2 h
            simp; omega
          · have hk0 : k ≠ 0 := hgo.resolve_left h
            exact decide_eq_true (or_pos (by omega) (by omega))
      clear hgo
      rcases hcond with he | ⟨he, hor⟩
      all_goals
        go_wp2_with fail
        go_quiet (fail)
        go_wp2_with (first | (go_at_call 96; (with_reducible refine (div64 (whi (k : Int) % 10) (wlo (k : Int)) 10 _ (by omega) (by omega) (by omega) hw.1 hw.2).mono ?_); rintro e w2 ⟨rfl, hb2⟩; rw [L1.out, L2.out, L3.out]; obtain ⟨fc2, fg2, hc2, hf2, hz2⟩ := bget hb2; (try simp at hz2)) | (at_builtin; refine wpList_app rfl _ _ _ rfl elB (w1.heap.size + 1) _ _ rfl ((((HO.out.keep (show Below wr.heap.size wr w2 from (by (repeat' (first | (with_reducible exact Below.refl _ _) | (with_reducible assumption) | (with_reducible refine Below.alloc ?_ ?_ _) | (with_reducible refine Below.setCell ?_ ?_ _) | (with_reducible refine Below.drew ?_) | (with_reducible refine below_drewN ?_ _) | (with_reducible refine below_via ?_ (by with_reducible assumption) ?_) | omega | (simp; done) | (simp; omega)))))).farLow (p := ⟨w1.heap.size, 0, none⟩) (by simp) (.int .u64 (whi ((k : Int) / 10)))).farLow (p := ⟨w1.heap.size, 1, none⟩) (by simp) (.int .u64 (wlo ((k : Int) / 10)))).alloc _) (some ⟨w2.heap.size, 0, none⟩) 1 1 rfl [encB (48 + (k : Int) % 10)] rfl (fun h => by cases h) (rd_oneAt (by simp)) (by simp [encB]; rfl) (by unfold maxLen; first | (simp; done) | omega | (simp; omega)) (by first | (simp; done) | omega | (simp; omega)) (by simp; omega) ?_; intro v' w3 hown3 hb3; obtain ⟨A3, c3, rfl, _, _, _, _⟩ := hown3.shape) | fail)
        go_roundw
        case rel =>
          have hx : ((48 + k % 10 : Nat) : Int) = 48 + (k : Int) % 10 := by omega
          refine ⟨o ++ [((48 + k % 10 : Nat) : Int)], g, k / 10, ?_, HKG.out, ?_, ?_, ?_, ?_, ?_⟩
          · have h1 := HF.out; have h2 := HG.out; simp; omega
          · exact Nat.le_trans (Nat.div_le_self _ _) hkM
          · rw [List.map_append, List.map_cons, List.map_nil, hx]; simpa using hown3
          · rw [← HST.out]; exact HL.out
          · have hb2' : Below wr.heap.size wr w2 := by (repeat' (first | (with_reducible exact Below.refl _ _) | (with_reducible assumption) | (with_reducible refine Below.alloc ?_ ?_ _) | (with_reducible refine Below.setCell ?_ ?_ _) | (with_reducible refine Below.drew ?_) | (with_reducible refine below_drewN ?_ _) | (with_reducible refine below_via ?_ (by with_reducible assumption) ?_) | omega | (simp; done) | (simp; omega)))
            have h5 := ((((Hbk.out.below hb2' ug).set 0 (.int .u64 (whi ((k : Int) / 10)))).set 1 (.int .u64 (wlo ((k : Int) / 10)))).alloc (.cells #[.int .u8 (48 + (k : Int) % 10)] 5)).below hb3 (by omega)
            simpa using h5
          · have hbl := Hbl.out
            have hb3' := hb3.mono (show w1.heap.size ≤ w1.heap.size + 1 by omega)
            (repeat' (first | (with_reducible exact Below.refl _ _) | (with_reducible assumption) | (with_reducible refine Below.alloc ?_ ?_ _) | (with_reducible refine Below.setCell ?_ ?_ _) | (with_reducible refine Below.drew ?_) | (with_reducible refine below_drewN ?_ _) | (with_reducible refine below_via ?_ (by with_reducible assumption) ?_) | omega | (simp; done) | (simp; omega)))
        case measure =>
          have h1 := HF.out
          have h2 := HG.out
          simp [slen]
          omega
    · have hne : o ≠ [] := fun h => hgo (.inl h)
      have hk0 : k = 0 := Decidable.byContradiction fun h => hgo (.inr h)
      have hor : decide (0 < bits .or .u64 (whi (k : Int)) (wlo (k : Int))) = false := by rw [hk0]; decide +kernel
      have hpos := List.length_pos_iff.2 hne
      have he : ((o.length : Int) == 0) = false := by simp; omega
      have hoe : o = dgs 40 M := by rw [← HL.out]; exact (left_end hgo).symm
      have HOE := Lib.hid hoe
      have hfz := HO.out.shape
      clear hgo hk0 hne hoe hfz HF HK HL hkM
      obtain ⟨t, ht⟩ : ∃ t, t = back n := ⟨_, rfl⟩
      have HTB := Lib.hid ht
      have hbl := Hbl.out
      by_cases hneg : n < 0
      · have hsg : decide (n < 0) = true := by simpa using hneg
        have HT := Lib.hid (show t = o ++ [45] from by rw [ht]; unfold back; rw [if_pos hneg, HOE.out, HM.out])
        have ht0 : 0 < t.length := by rw [HT.out]; simp
        have ht41 : t.length ≤ 41 := by rw [HT.out]; simp; omega
        rw [hsg] at C2
        clear hsg ht hneg
        go_wp2_with (first | (go_at_call 93; (with_reducible refine (C2.out _).mono ?_); rintro e w2 ⟨rfl, hb2⟩; obtain ⟨fc2, fg2, hc2, hf2, hz2⟩ := bget hb2; (try simp at hz2)) | (at_builtin; refine wpList_app rfl _ _ _ rfl elB (w1.heap.size + 1) _ _ rfl ((HO.out.keep (show Below wr.heap.size wr w2 from (by (repeat' (first | (with_reducible exact Below.refl _ _) | (with_reducible assumption) | (with_reducible refine Below.alloc ?_ ?_ _) | (with_reducible refine Below.setCell ?_ ?_ _) | (with_reducible refine Below.drew ?_) | (with_reducible refine below_drewN ?_ _) | (with_reducible refine below_via ?_ (by with_reducible assumption) ?_) | omega | (simp; done) | (simp; omega)))))).alloc _) (some ⟨w2.heap.size, 0, none⟩) 1 1 rfl [encB 45] rfl (fun h => by cases h) (rd_oneAt (by simp)) (by simp [encB]; rfl) (by unfold maxLen; first | (simp; done) | omega | (simp; omega)) (by first | (simp; done) | omega | (simp; omega)) (by simp; omega) ?_; intro v' w3 hown3 hb3; have hown4 : Own w3 (w1.heap.size + 1) 5 1 v' (t.map encB) := (by rw [HT.out]; simpa using hown3); obtain ⟨AX, cX, rfl, _, _, _, hfX⟩ := hown4.shape; rw [List.length_map]; have HX := Lib.hid hown4; rw [List.length_map] at HX; clear hown3 hown4) | fail)
        have hbx : Below w1.heap.size w1 w3 := by have hb3' := hb3.mono (show w1.heap.size ≤ w1.heap.size + 1 by omega); (repeat' (first | (with_reducible exact Below.refl _ _) | (with_reducible assumption) | (with_reducible refine Below.alloc ?_ ?_ _) | (with_reducible refine Below.setCell ?_ ?_ _) | (with_reducible refine Below.drew ?_) | (with_reducible refine below_drewN ?_ _) | (with_reducible refine below_via ?_ (by with_reducible assumption) ?_) | omega | (simp; done) | (simp; omega)))
        obtain ⟨gX, rfl, hgX, _⟩ := hfX (by intro h; rw [List.map_eq_nil_iff] at h; rw [h] at ht0; simp at ht0)
        go_loopw [8, 9] (fun i j wr => ∃ r : Nat, i = .int .i64 r ∧ j = .int .i64 ((t.length : Int) - 1 - r) ∧ 2 * r ≤ t.length + 1 ∧ Own wr (w1.heap.size + 1) 5 1 (.slice (some ⟨gX, 0, none⟩) t.length cX) ((turned t r).map encB) ∧ Below w1.heap.size w1 wr) (fun i _ _ => t.length - (intOf i).toNat)
        case atStart => exact ⟨0, by first | rfl | go_num, by first | rfl | go_num, by omega, by rw [turned_zero]; exact HX.out, hbx⟩
        case round =>
          obtain ⟨r, rfl, rfl, hr, hownR, hblR⟩ := hrel
          clear HX hbx
          by_cases hcr : 2 * r + 1 < t.length
          · obtain ⟨q, hq⟩ : ∃ q : Nat, (t.length : Int) - 1 - r = q := ⟨t.length - 1 - r, by omega⟩
            have hqn : t.length - 1 - r = q := (by omega)
            have hrq : r < q := (by omega)
            have hql : q < t.length := (by omega)
            have HQ := Lib.hid hq
            rw [hq]
            have d1 : decide ((r : Int) < (q : Int)) = true := (by simpa using hrq)
            have x1 := own_cells hownR (turned_get t r hcr).1
            have x2 := own_cells hownR (turned_get t r hcr).2
            obtain ⟨cur, hblk⟩ := hownR.blk rfl
            have fz := fun i => hblk.frozen i
            have hsw := own_swap hownR hcr
            rw [hqn] at x2 hsw
            obtain ⟨x, hx⟩ : ∃ x, x = t.getD r 0 := ⟨_, rfl⟩
            obtain ⟨y, hy⟩ : ∃ y, y = t.getD q 0 := ⟨_, rfl⟩
            rw [← hx] at x1 hsw
            rw [← hy] at x2 hsw
            have HSW := Lib.hid hsw
            have HblR := Lib.hid hblR
            clear hx hy hsw hq hqn hownR hblk hblR hcr
            go_wp2_with fail
            go_region
            all_goals
              go_wp2_with fail
              go_roundw
              case rel =>
                have hq := HQ.out
                exact ⟨r + 1, by go_num, by go_num, by omega, HSW.out, by (have hbl := HblR.out; (repeat' (first | (with_reducible exact Below.refl _ _) | (with_reducible assumption) | (with_reducible refine Below.alloc ?_ ?_ _) | (with_reducible refine Below.setCell ?_ ?_ _) | (with_reducible refine Below.drew ?_) | (with_reducible refine below_drewN ?_ _) | (with_reducible refine below_via ?_ (by with_reducible assumption) ?_) | omega | (simp; done) | (simp; omega))))⟩
              case measure => (simp [intOf]; omega)
          · have d1 : decide ((r : Int) < (t.length : Int) - 1 - r) = false := (by simp; omega)
            have hte := turned_end t r (by omega)
            rw [hte] at hownR
            have hbB := back_byte n
            rw [← HTB.out] at hbB
            have hcells : ∀ j (hj : j < (t.reverse.map fun b => UInt8.ofNat b.toNat).length), wr.cell? ((⟨gX, 0, none⟩ : Addr).add j) = some (.int .u8 (((t.reverse.map fun b => UInt8.ofNat b.toNat)[j]).toNat : Int)) := (by
              intro j hj
              have hj2 : j < t.reverse.length := (by simpa using hj)
              obtain ⟨b, o, hA, _, hc⟩ := hownR.rd.1 j (encB t.reverse[j]) (by rw [List.getElem?_map, List.getElem?_eq_getElem hj2]; rfl)
              injection hA with hA
              injection hA with hA hB _
              subst hA hB
              have h0 := hc 0 _ rfl
              have hb := hbB t.reverse[j] (List.mem_reverse.1 (List.getElem_mem hj2))
              rw [List.getElem_map, u8_back hb.1 hb.2, addr_plain]
              simpa using h0)
            have hconv := run_convert_bytes_back (P := Try.prog) wr 31 9 5 ⟨gX, 0, none⟩ cX (t.reverse.map fun b => UInt8.ofNat b.toNat) Try.underlying31 Try.underlying5 Try.underlying9 hcells
            simp only [List.length_map, List.length_reverse] at hconv
            have HTX := Lib.hid (show (⟨(t.reverse.map fun b => UInt8.ofNat b.toNat).toArray⟩ : ByteArray) = textB n from (by rw [HTB.out]; rfl))
            rw [HTX.out] at hconv
            clear hcells hbB hte hownR
            go_wp2_with fail
            go_ret
            exact ⟨rfl, by (have hb1 := Hb1.out; (repeat' (first | (with_reducible exact Below.refl _ _) | (with_reducible assumption) | (with_reducible refine Below.alloc ?_ ?_ _) | (with_reducible refine Below.setCell ?_ ?_ _) | (with_reducible refine Below.drew ?_) | (with_reducible refine below_drewN ?_ _) | (with_reducible refine below_via ?_ (by with_reducible assumption) ?_) | omega | (simp; done) | (simp; omega))))⟩
      · have hsg : decide (n < 0) = false := by simpa using hneg
        have hto : t = o := by rw [ht]; unfold back; rw [if_neg hneg, HOE.out, HM.out, List.append_nil]
        subst hto
        have ht0 : 0 < t.length := hpos
        have ht41 : t.length ≤ 41 := by omega
        have HX := HO
        obtain ⟨_, cX, hex, -, -, -, hfX⟩ := HO.out.shape
        injection hex with hex1 hexn hex2
        clear hexn
        have hex3 := hex2.symm
        clear hex2
        subst hex1 hex3
        rw [hsg] at C2
        clear hsg ht hneg
        go_wp2_with (first | (go_at_call 93; (with_reducible refine (C2.out _).mono ?_); rintro e w2 ⟨rfl, hb2⟩; obtain ⟨fc2, fg2, hc2, hf2, hz2⟩ := bget hb2; (try simp at hz2)) | fail)
        have HX := Lib.hid (HX.out.keep (show Below wr.heap.size wr w2 from (by (repeat' (first | (with_reducible exact Below.refl _ _) | (with_reducible assumption) | (with_reducible refine Below.alloc ?_ ?_ _) | (with_reducible refine Below.setCell ?_ ?_ _) | (with_reducible refine Below.drew ?_) | (with_reducible refine below_drewN ?_ _) | (with_reducible refine below_via ?_ (by with_reducible assumption) ?_) | omega | (simp; done) | (simp; omega))))))
        have hbx : Below w1.heap.size w1 w2 := by (repeat' (first | (with_reducible exact Below.refl _ _) | (with_reducible assumption) | (with_reducible refine Below.alloc ?_ ?_ _) | (with_reducible refine Below.setCell ?_ ?_ _) | (with_reducible refine Below.drew ?_) | (with_reducible refine below_drewN ?_ _) | (with_reducible refine below_via ?_ (by with_reducible assumption) ?_) | omega | (simp; done) | (simp; omega)))
        obtain ⟨gX, rfl, hgX, _⟩ := hfX (by intro h; rw [List.map_eq_nil_iff] at h; rw [h] at ht0; simp at ht0)
        go_loopw [8, 9] (fun i j wr => ∃ r : Nat, i = .int .i64 r ∧ j = .int .i64 ((t.length : Int) - 1 - r) ∧ 2 * r ≤ t.length + 1 ∧ Own wr (w1.heap.size + 1) 5 1 (.slice (some ⟨gX, 0, none⟩) t.length cX) ((turned t r).map encB) ∧ Below w1.heap.size w1 wr) (fun i _ _ => t.length - (intOf i).toNat)
        case atStart => exact ⟨0, by first | rfl | go_num, by first | rfl | go_num, by omega, by rw [turned_zero]; exact HX.out, hbx⟩
        case round =>
          obtain ⟨r, rfl, rfl, hr, hownR, hblR⟩ := hrel
          clear HX hbx
          by_cases hcr : 2 * r + 1 < t.length
          · obtain ⟨q, hq⟩ : ∃ q : Nat, (t.length : Int) - 1 - r = q := ⟨t.length - 1 - r, by omega⟩
            have hqn : t.length - 1 - r = q := (by omega)
            have hrq : r < q := (by omega)
            have hql : q < t.length := (by omega)
            have HQ := Lib.hid hq
            rw [hq]
            have d1 : decide ((r : Int) < (q : Int)) = true := (by simpa using hrq)
            have x1 := own_cells hownR (turned_get t r hcr).1
            have x2 := own_cells hownR (turned_get t r hcr).2
            obtain ⟨cur, hblk⟩ := hownR.blk rfl
            have fz := fun i => hblk.frozen i
            have hsw := own_swap hownR hcr
            rw [hqn] at x2 hsw
            obtain ⟨x, hx⟩ : ∃ x, x = t.getD r 0 := ⟨_, rfl⟩
            obtain ⟨y, hy⟩ : ∃ y, y = t.getD q 0 := ⟨_, rfl⟩
            rw [← hx] at x1 hsw
            rw [← hy] at x2 hsw
            have HSW := Lib.hid hsw
            have HblR := Lib.hid hblR
            clear hx hy hsw hq hqn hownR hblk hblR hcr
            go_wp2_with fail
            go_region
            all_goals
              go_wp2_with fail
              go_roundw
              case rel =>
                have hq := HQ.out
                exact ⟨r + 1, by go_num, by go_num, by omega, HSW.out, by (have hbl := HblR.out; (repeat' (first | (with_reducible exact Below.refl _ _) | (with_reducible assumption) | (with_reducible refine Below.alloc ?_ ?_ _) | (with_reducible refine Below.setCell ?_ ?_ _) | (with_reducible refine Below.drew ?_) | (with_reducible refine below_drewN ?_ _) | (with_reducible refine below_via ?_ (by with_reducible assumption) ?_) | omega | (simp; done) | (simp; omega))))⟩
              case measure => (simp [intOf]; omega)
          · have d1 : decide ((r : Int) < (t.length : Int) - 1 - r) = false := (by simp; omega)
            have hte := turned_end t r (by omega)
            rw [hte] at hownR
            have hbB := back_byte n
            rw [← HTB.out] at hbB
            have hcells : ∀ j (hj : j < (t.reverse.map fun b => UInt8.ofNat b.toNat).length), wr.cell? ((⟨gX, 0, none⟩ : Addr).add j) = some (.int .u8 (((t.reverse.map fun b => UInt8.ofNat b.toNat)[j]).toNat : Int)) := (by
              intro j hj
              have hj2 : j < t.reverse.length := (by simpa using hj)
              obtain ⟨b, o, hA, _, hc⟩ := hownR.rd.1 j (encB t.reverse[j]) (by rw [List.getElem?_map, List.getElem?_eq_getElem hj2]; rfl)
              injection hA with hA
              injection hA with hA hB _
              subst hA hB
              have h0 := hc 0 _ rfl
              have hb := hbB t.reverse[j] (List.mem_reverse.1 (List.getElem_mem hj2))
              rw [List.getElem_map, u8_back hb.1 hb.2, addr_plain]
              simpa using h0)
            have hconv := run_convert_bytes_back (P := Try.prog) wr 31 9 5 ⟨gX, 0, none⟩ cX (t.reverse.map fun b => UInt8.ofNat b.toNat) Try.underlying31 Try.underlying5 Try.underlying9 hcells
            simp only [List.length_map, List.length_reverse] at hconv
            have HTX := Lib.hid (show (⟨(t.reverse.map fun b => UInt8.ofNat b.toNat).toArray⟩ : ByteArray) = textB n from (by rw [HTB.out]; rfl))
            rw [HTX.out] at hconv
            clear hcells hbB hte hownR
            go_wp2_with fail
            go_ret
            exact ⟨rfl, by (have hb1 := Hb1.out; (repeat' (first | (with_reducible exact Below.refl _ _) | (with_reducible assumption) | (with_reducible refine Below.alloc ?_ ?_ _) | (with_reducible refine Below.setCell ?_ ?_ _) | (with_reducible refine Below.drew ?_) | (with_reducible refine below_drewN ?_ _) | (with_reducible refine below_via ?_ (by with_reducible assumption) ?_) | omega | (simp; done) | (simp; omega))))⟩
end Go.Proofs.Ytpjehhkmdndcmaa
