/- Joined: Wide8, InstL1, InstL2, InstL6. -/
import Derived.Test.YtpjehhkmdndcmaaJz3
import Derived.Test.YtpjehhkmdndcmaaJz12
import Derived.Test.YtpjehhkmdndcmaaJz4
import Derived.Test.YtpjehhkmdndcmaaJz9
import Derived.Test.YtpjehhkmdndcmaaJz8
import Derived.Laws.IdiomStrings
/- The contract of wide.Text. -/
namespace Go.Proofs.Ytpjehhkmdndcmaa
open Go.RowKit
theorem or_pos {m : Int} (h : 0 < m) (h1 : m < 340282366920938463463374607431768211456) : 0 < bits .or .u64 (whi m) (wlo m) := by
  have e := whi_wlo m
  have a1 : 0 ≤ whi m ∧ whi m ≤ 18446744073709551615 := by unfold whi; omega
  have a2 := wlo_u m
  obtain ⟨p, hp⟩ := Int.eq_ofNat_of_zero_le a1.1
  obtain ⟨q, hq⟩ := Int.eq_ofNat_of_zero_le a2.1
  rw [hp, hq] at e ⊢
  rw [hp] at a1
  rw [hq] at a2
  show 0 < IntKind.u64.wrap ((BitVec.ofInt 64 (p : Int) ||| BitVec.ofInt 64 (q : Int)).toNat : Int)
  have hn : p ≠ 0 ∨ q ≠ 0 := by omega
  have e1 : (BitVec.ofInt 64 (p : Int) ||| BitVec.ofInt 64 (q : Int)).toNat = p ||| q := by
    rw [BitVec.toNat_or, BitVec.ofInt_natCast, BitVec.toNat_ofNat, BitVec.ofInt_natCast, BitVec.toNat_ofNat, Nat.mod_eq_of_lt (by omega), Nat.mod_eq_of_lt (by omega)]
  have e2 : 0 < p ||| q := by
    rcases hn with h | h
    · exact Nat.lt_of_lt_of_le (Nat.pos_of_ne_zero h) Nat.left_le_or
    · exact Nat.lt_of_lt_of_le (Nat.pos_of_ne_zero h) Nat.right_le_or
  have e3 := (BitVec.ofInt 64 (p : Int) ||| BitVec.ofInt 64 (q : Int)).isLt
  rw [u64_wrap (by omega) (by omega), e1]
  omega
theorem or_zero : bits .or .u64 (whi 0) (wlo 0) = 0 := by decide +kernel
theorem rd_oneAt {w : World} {n : Nat} {cs : Array Value} {E k : Nat} (h : n = w.heap.size) : Rd (w.alloc (.cells cs E)) (some ⟨n, 0, none⟩) k [cs.toList] := by subst h; exact rd_one
theorem own_swap {w : World} {base E : Nat} {t : List Int} {r g n c : Nat} (h : Own w base E 1 (.slice (some ⟨g, 0, none⟩) n c) ((turned t r).map encB)) (hr : 2 * r + 1 < t.length) :
    Own ((w.setCell ⟨g, r, none⟩ (.int .u8 (t.getD (t.length - 1 - r) 0))).setCell ⟨g, t.length - 1 - r, none⟩ (.int .u8 (t.getD r 0))) base E 1 (.slice (some ⟨g, 0, none⟩) n c) ((turned t (r + 1)).map encB) := by
  obtain ⟨e1, e2⟩ := turned_get t r hr
  have h1 := h.put rfl (i := r) (r := encB (t.getD r 0)) (by rw [List.getElem?_map, e1]; rfl) (j := 0) (by omega) (.int .u8 (t.getD (t.length - 1 - r) 0))
  have h2 := h1.put rfl (i := t.length - 1 - r) (r := encB (t.getD (t.length - 1 - r) 0)) (by rw [List.getElem?_set_ne (by omega), List.getElem?_map, e2]; rfl) (j := 0) (by omega) (.int .u8 (t.getD r 0))
  rw [turned_step t r hr, List.map_set, List.map_set]
  simpa [encB] using h2
theorem own_cells {w : World} {base E : Nat} {t : List Int} {r g n c : Nat} (h : Own w base E 1 (.slice (some ⟨g, 0, none⟩) n c) ((turned t r).map encB)) {x : Nat} {v : Int} (hx : (turned t r)[x]? = some v) : w.cell? ⟨g, x, none⟩ = some (.int .u8 v) := by
  obtain ⟨b, o, hA, _, hc⟩ := h.rd.1 x (encB v) (by rw [List.getElem?_map, hx]; rfl)
  injection hA with hA
  injection hA with hA hB _
  subst hA hB
  have := hc 0 _ rfl
  simpa using this
theorem addr_plain (b o j : Nat) : (⟨b, o, none⟩ : Addr).add j = ⟨b, o + j, none⟩ := by unfold Addr.add; split <;> simp_all
def slen : Value → Nat
  | .slice _ n _ => n
  | _ => 0
set_option maxRecDepth 100000 in
set_option maxHeartbeats 8000000 in
theorem wideText (n : Int) (w : World) (hn : In128 n) :
    Calls Try.prog 64 #[(.agg #[.int .i64 (whi (n)), .int .u64 (wlo (n))])] w fun e w' => e = .returned (.string (textB n)) ∧ Below w.heap.size w w' := by
  have hm : 0 ≤ iabs n ∧ iabs n ≤ 170141183460469231731687303715884105728 := by unfold In128 at hn; unfold iabs; split <;> omega
  have hmn : iabs n = (n.natAbs : Nat) := iabs_nat n
  have c1 := fun W => wideSize n W hn
  have c2 := fun W => wideBelow n W hn
  rw [hmn] at c1 hm
  have C1 := Lib.hid c1
  have C2 := Lib.hid c2
  obtain ⟨M, hM⟩ : ∃ M, M = n.natAbs := ⟨_, rfl⟩
  rw [← hM] at C1 hm
  have HM := Lib.hid hM
  have h40 : M < 10 ^ 40 := by omega
  clear c1 c2 hmn hM
  go_enter Try.func64, Try.ntmps64
  go_wp2_with (go_at_call 91; (with_reducible refine (C1.out _).mono ?_); rintro e w1 ⟨rfl, hb1⟩; obtain ⟨fc1, fg1, hc1, hf1, hz1⟩ := bget hb1; (try simp at hz1); have Hb1 := Lib.hid hb1)
  go_loopw [4] (fun v wr => ∃ (o : List Int) (f k : Nat), f + o.length = 40 ∧ k < 10 ^ f ∧ k ≤ M ∧ Own wr (w1.heap.size + 1) 5 1 v (o.map encB) ∧ o ++ left o f k = dgs 40 M ∧ Blk wr w1.heap.size 116 #[.int .u64 (whi k), .int .u64 (wlo k)] ∧ Below w1.heap.size w1 wr) (fun v _ => 40 - slen v)
  case atStart => exact ⟨[], 40, M, rfl, h40, Nat.le_refl _, Own.nil _ _ _ _, left_start M, by (repeat' (first | (with_reducible assumption) | (with_reducible refine Blk.drew ?_) | (with_reducible refine Blk.here ?_) | (with_reducible refine Blk.alloc ?_ _) | (with_reducible refine Blk.far ?_ ?_ _) | (with_reducible refine Blk.below ?_ (by with_reducible assumption) ?_) | omega | (simp; done) | (simp; omega))), by (repeat' (first | (with_reducible exact Below.refl _ _) | (with_reducible assumption) | (with_reducible refine Below.alloc ?_ ?_ _) | (with_reducible refine Below.setCell ?_ ?_ _) | (with_reducible refine Below.drew ?_) | (with_reducible refine below_drewN ?_ _) | (with_reducible refine below_via ?_ (by with_reducible assumption) ?_) | omega | (simp; done) | (simp; omega)))⟩
  case round =>
    obtain ⟨o, f, k, hfo, hkf, hkM, hown, hleft, hbk, hbl⟩ := hrel
    have hz := hbl.size
    have u0 := hbk.cell 0
    have u1 := hbk.cell 1
    have v0 := hbk.frozen 0
    have v1 := hbk.frozen 1
    have ug := hbk.lt
    simp at u0 u1
    have hn0 : wr.cell? ⟨w.heap.size, 0, none⟩ = some (.int .i64 (whi n)) := (hbl.cell (p := ⟨w.heap.size, 0, none⟩) (by simp; omega)).trans (by simp [hc1, go_sem])
    have hn1 : wr.cell? ⟨w.heap.size, 1, none⟩ = some (.int .u64 (wlo n)) := (hbl.cell (p := ⟨w.heap.size, 1, none⟩) (by simp; omega)).trans (by simp [hc1, go_sem])
    obtain ⟨AO, cO, rfl, hcO, hmO, hrO, _⟩ := hown.shape
    have HO := Lib.hid hown
    rw [List.length_map] at HO ⊢
    have Hbk := Lib.hid hbk
    have Hbl := Lib.hid hbl
    have HL := Lib.hid hleft
    have ho40 : o.length ≤ 40 := by omega
    have HF := Lib.hid hfo
    have HK := Lib.hid hkf
    clear hown hbk hbl hleft hcO hmO hrO hfo hkf hc1 hf1 fc1 fg1
    by_cases hgo : o = [] ∨ k ≠ 0
    · obtain ⟨g, hg, hst, hkg⟩ := left_step HF.out HK.out hgo
      have HST := Lib.hid hst
      have HG := Lib.hid hg
      have HKG := Lib.hid hkg
      clear hst hg hkg
      have L := long_div (m := (k : Int)) (d := 10) (by omega) (by omega)
      have L1 := Lib.hid L.1
      have L2 := Lib.hid L.2.1
      have L3 := Lib.hid L.2.2
      have hw := wlo_u (k : Int)
      have hh : 0 ≤ whi (k : Int) ∧ whi (k : Int) ≤ 18446744073709551615 := by unfold whi; omega
      have hq : 0 ≤ (k : Int) % 10 ∧ (k : Int) % 10 ≤ 9 := by omega
      clear L
      have hcond : ((o.length : Int) == 0) = true ∨ (((o.length : Int) == 0) = false ∧ decide (0 < bits .or .u64 (whi (k : Int)) (wlo (k : Int))) = true) := by
        by_cases h : o = []
        · exact .inl (by rw [h]; rfl)
        · refine .inr ⟨?_, ?_⟩
          · have := List.length_pos_iff.2 h
            simp; omega
          · have hk0 : k ≠ 0 := hgo.resolve_left h
            exact decide_eq_true (or_pos (by omega) (by omega))
      clear hgo
      rcases hcond with he | ⟨he, hor⟩
      all_goals
        go_wp2_with fail
        go_quiet (fail)
        go_wp2_with (first | (go_at_call 96; (with_reducible refine (div64 (whi (k : Int) % 10) (wlo (k : Int)) 10 _ (by omega) (by omega) (by omega) hw.1 hw.2).mono ?_); rintro e w2 ⟨rfl, hb2⟩; rw [L1.out, L2.out, L3.out]; obtain ⟨fc2, fg2, hc2, hf2, hz2⟩ := bget hb2; (try simp at hz2)) | (at_builtin; refine wpList_app rfl _ _ _ rfl elB (w1.heap.size + 1) _ _ rfl ((((HO.out.keep (show Below wr.heap.size wr w2 from (by (repeat' (first | (with_reducible exact Below.refl _ _) | (with_reducible assumption) | (with_reducible refine Below.alloc ?_ ?_ _) | (with_reducible refine Below.setCell ?_ ?_ _) | (with_reducible refine Below.drew ?_) | (with_reducible refine below_drewN ?_ _) | (with_reducible refine below_via ?_ (by with_reducible assumption) ?_) | omega | (simp; done) | (simp; omega)))))).farLow (p := ⟨w1.heap.size, 0, none⟩) (by simp) (.int .u64 (whi ((k : Int) / 10)))).farLow (p := ⟨w1.heap.size, 1, none⟩) (by simp) (.int .u64 (wlo ((k : Int) / 10)))).alloc _) (some ⟨w2.heap.size, 0, none⟩) 1 1 rfl [encB (48 + (k : Int) % 10)] rfl (fun h => by cases h) (rd_oneAt (by simp)) (by simp [encB]; rfl) (by unfold maxLen; first | (simp; done) | omega | (simp; omega)) (by first | (simp; done) | omega | (simp; omega)) (by simp; omega) ?_; intro v' w3 hown3 hb3; obtain ⟨A3, c3, rfl, _, _, _, _⟩ := hown3.shape) | fail)
        go_roundw
        case rel =>
          have hx : ((48 + k % 10 : Nat) : Int) = 48 + (k : Int) % 10 := by omega
          refine ⟨o ++ [((48 + k % 10 : Nat) : Int)], g, k / 10, ?_, HKG.out, ?_, ?_, ?_, ?_, ?_⟩
          · have h1 := HF.out; have h2 := HG.out; simp; omega
          · exact Nat.le_trans (Nat.div_le_self _ _) hkM
          · rw [List.map_append, List.map_cons, List.map_nil, hx]; simpa using hown3
          · rw [← HST.out]; exact HL.out
          · have hb2' : Below wr.heap.size wr w2 := by (repeat' (first | (with_reducible exact Below.refl _ _) | (with_reducible assumption) | (with_reducible refine Below.alloc ?_ ?_ _) | (with_reducible refine Below.setCell ?_ ?_ _) | (with_reducible refine Below.drew ?_) | (with_reducible refine below_drewN ?_ _) | (with_reducible refine below_via ?_ (by with_reducible assumption) ?_) | omega | (simp; done) | (simp; omega)))
            have h5 := ((((Hbk.out.below hb2' ug).set 0 (.int .u64 (whi ((k : Int) / 10)))).set 1 (.int .u64 (wlo ((k : Int) / 10)))).alloc (.cells #[.int .u8 (48 + (k : Int) % 10)] 5)).below hb3 (by omega)
            simpa using h5
          · have hbl := Hbl.out
            have hb3' := hb3.mono (show w1.heap.size ≤ w1.heap.size + 1 by omega)
            (repeat' (first | (with_reducible exact Below.refl _ _) | (with_reducible assumption) | (with_reducible refine Below.alloc ?_ ?_ _) | (with_reducible refine Below.setCell ?_ ?_ _) | (with_reducible refine Below.drew ?_) | (with_reducible refine below_drewN ?_ _) | (with_reducible refine below_via ?_ (by with_reducible assumption) ?_) | omega | (simp; done) | (simp; omega)))
        case measure =>
          have h1 := HF.out
          have h2 := HG.out
          simp [slen]
          omega
    · have hne : o ≠ [] := fun h => hgo (.inl h)
      have hk0 : k = 0 := Decidable.byContradiction fun h => hgo (.inr h)
      have hor : decide (0 < bits .or .u64 (whi (k : Int)) (wlo (k : Int))) = false := by rw [hk0]; decide +kernel
      have hpos := List.length_pos_iff.2 hne
      have he : ((o.length : Int) == 0) = false := by simp; omega
      have hoe : o = dgs 40 M := by rw [← HL.out]; exact (left_end hgo).symm
      have HOE := Lib.hid hoe
      have hfz := HO.out.shape
      clear hgo hk0 hne hoe hfz HF HK HL hkM
      obtain ⟨t, ht⟩ : ∃ t, t = back n := ⟨_, rfl⟩
      have HTB := Lib.hid ht
      have hbl := Hbl.out
      by_cases hneg : n < 0
      · have hsg : decide (n < 0) = true := by simpa using hneg
        have HT := Lib.hid (show t = o ++ [45] from by rw [ht]; unfold back; rw [if_pos hneg, HOE.out, HM.out])
        have ht0 : 0 < t.length := by rw [HT.out]; simp
        have ht41 : t.length ≤ 41 := by rw [HT.out]; simp; omega
        rw [hsg] at C2
        clear hsg ht hneg
        go_wp2_with (first | (go_at_call 93; (with_reducible refine (C2.out _).mono ?_); rintro e w2 ⟨rfl, hb2⟩; obtain ⟨fc2, fg2, hc2, hf2, hz2⟩ := bget hb2; (try simp at hz2)) | (at_builtin; refine wpList_app rfl _ _ _ rfl elB (w1.heap.size + 1) _ _ rfl ((HO.out.keep (show Below wr.heap.size wr w2 from (by (repeat' (first | (with_reducible exact Below.refl _ _) | (with_reducible assumption) | (with_reducible refine Below.alloc ?_ ?_ _) | (with_reducible refine Below.setCell ?_ ?_ _) | (with_reducible refine Below.drew ?_) | (with_reducible refine below_drewN ?_ _) | (with_reducible refine below_via ?_ (by with_reducible assumption) ?_) | omega | (simp; done) | (simp; omega)))))).alloc _) (some ⟨w2.heap.size, 0, none⟩) 1 1 rfl [encB 45] rfl (fun h => by cases h) (rd_oneAt (by simp)) (by simp [encB]; rfl) (by unfold maxLen; first | (simp; done) | omega | (simp; omega)) (by first | (simp; done) | omega | (simp; omega)) (by simp; omega) ?_; intro v' w3 hown3 hb3; have hown4 : Own w3 (w1.heap.size + 1) 5 1 v' (t.map encB) := (by rw [HT.out]; simpa using hown3); obtain ⟨AX, cX, rfl, _, _, _, hfX⟩ := hown4.shape; rw [List.length_map]; have HX := Lib.hid hown4; rw [List.length_map] at HX; clear hown3 hown4) | fail)
        have hbx : Below w1.heap.size w1 w3 := by have hb3' := hb3.mono (show w1.heap.size ≤ w1.heap.size + 1 by omega); (repeat' (first | (with_reducible exact Below.refl _ _) | (with_reducible assumption) | (with_reducible refine Below.alloc ?_ ?_ _) | (with_reducible refine Below.setCell ?_ ?_ _) | (with_reducible refine Below.drew ?_) | (with_reducible refine below_drewN ?_ _) | (with_reducible refine below_via ?_ (by with_reducible assumption) ?_) | omega | (simp; done) | (simp; omega)))
        obtain ⟨gX, rfl, hgX, _⟩ := hfX (by intro h; rw [List.map_eq_nil_iff] at h; rw [h] at ht0; simp at ht0)
        go_loopw [8, 9] (fun i j wr => ∃ r : Nat, i = .int .i64 r ∧ j = .int .i64 ((t.length : Int) - 1 - r) ∧ 2 * r ≤ t.length + 1 ∧ Own wr (w1.heap.size + 1) 5 1 (.slice (some ⟨gX, 0, none⟩) t.length cX) ((turned t r).map encB) ∧ Below w1.heap.size w1 wr) (fun i _ _ => t.length - (intOf i).toNat)
        case atStart => exact ⟨0, by first | rfl | go_num, by first | rfl | go_num, by omega, by rw [turned_zero]; exact HX.out, hbx⟩
        case round =>
          obtain ⟨r, rfl, rfl, hr, hownR, hblR⟩ := hrel
          clear HX hbx
          by_cases hcr : 2 * r + 1 < t.length
          · obtain ⟨q, hq⟩ : ∃ q : Nat, (t.length : Int) - 1 - r = q := ⟨t.length - 1 - r, by omega⟩
            have hqn : t.length - 1 - r = q := (by omega)
            have hrq : r < q := (by omega)
            have hql : q < t.length := (by omega)
            have HQ := Lib.hid hq
            rw [hq]
            have d1 : decide ((r : Int) < (q : Int)) = true := (by simpa using hrq)
            have x1 := own_cells hownR (turned_get t r hcr).1
            have x2 := own_cells hownR (turned_get t r hcr).2
            obtain ⟨cur, hblk⟩ := hownR.blk rfl
            have fz := fun i => hblk.frozen i
            have hsw := own_swap hownR hcr
            rw [hqn] at x2 hsw
            obtain ⟨x, hx⟩ : ∃ x, x = t.getD r 0 := ⟨_, rfl⟩
            obtain ⟨y, hy⟩ : ∃ y, y = t.getD q 0 := ⟨_, rfl⟩
            rw [← hx] at x1 hsw
            rw [← hy] at x2 hsw
            have HSW := Lib.hid hsw
            have HblR := Lib.hid hblR
            clear hx hy hsw hq hqn hownR hblk hblR hcr
            go_wp2_with fail
            go_region
            all_goals
              go_wp2_with fail
              go_roundw
              case rel =>
                have hq := HQ.out
                exact ⟨r + 1, by go_num, by go_num, by omega, HSW.out, by (have hbl := HblR.out; (repeat' (first | (with_reducible exact Below.refl _ _) | (with_reducible assumption) | (with_reducible refine Below.alloc ?_ ?_ _) | (with_reducible refine Below.setCell ?_ ?_ _) | (with_reducible refine Below.drew ?_) | (with_reducible refine below_drewN ?_ _) | (with_reducible refine below_via ?_ (by with_reducible assumption) ?_) | omega | (simp; done) | (simp; omega))))⟩
              case measure => (simp [intOf]; omega)
          · have d1 : decide ((r : Int) < (t.length : Int) - 1 - r) = false := (by simp; omega)
            have hte := turned_end t r (by omega)
            rw [hte] at hownR
            have hbB := back_byte n
            rw [← HTB.out] at hbB
            have hcells : ∀ j (hj : j < (t.reverse.map fun b => UInt8.ofNat b.toNat).length), wr.cell? ((⟨gX, 0, none⟩ : Addr).add j) = some (.int .u8 (((t.reverse.map fun b => UInt8.ofNat b.toNat)[j]).toNat : Int)) := (by
              intro j hj
              have hj2 : j < t.reverse.length := (by simpa using hj)
              obtain ⟨b, o, hA, _, hc⟩ := hownR.rd.1 j (encB t.reverse[j]) (by rw [List.getElem?_map, List.getElem?_eq_getElem hj2]; rfl)
              injection hA with hA
              injection hA with hA hB _
              subst hA hB
              have h0 := hc 0 _ rfl
              have hb := hbB t.reverse[j] (List.mem_reverse.1 (List.getElem_mem hj2))
              rw [List.getElem_map, u8_back hb.1 hb.2, addr_plain]
              simpa using h0)
            have hconv := run_convert_bytes_back (P := Try.prog) wr 31 9 5 ⟨gX, 0, none⟩ cX (t.reverse.map fun b => UInt8.ofNat b.toNat) Try.underlying31 Try.underlying5 Try.underlying9 hcells
            simp only [List.length_map, List.length_reverse] at hconv
            have HTX := Lib.hid (show (⟨(t.reverse.map fun b => UInt8.ofNat b.toNat).toArray⟩ : ByteArray) = textB n from (by rw [HTB.out]; rfl))
            rw [HTX.out] at hconv
            clear hcells hbB hte hownR
            go_wp2_with fail
            go_ret
            exact ⟨rfl, by (have hb1 := Hb1.out; (repeat' (first | (with_reducible exact Below.refl _ _) | (with_reducible assumption) | (with_reducible refine Below.alloc ?_ ?_ _) | (with_reducible refine Below.setCell ?_ ?_ _) | (with_reducible refine Below.drew ?_) | (with_reducible refine below_drewN ?_ _) | (with_reducible refine below_via ?_ (by with_reducible assumption) ?_) | omega | (simp; done) | (simp; omega))))⟩
      · have hsg : decide (n < 0) = false := by simpa using hneg
        have hto : t = o := by rw [ht]; unfold back; rw [if_neg hneg, HOE.out, HM.out, List.append_nil]
        subst hto
        have ht0 : 0 < t.length := hpos
        have ht41 : t.length ≤ 41 := by omega
        have HX := HO
        obtain ⟨_, cX, hex, -, -, -, hfX⟩ := HO.out.shape
        injection hex with hex1 hexn hex2
        clear hexn
        have hex3 := hex2.symm
        clear hex2
        subst hex1 hex3
        rw [hsg] at C2
        clear hsg ht hneg
        go_wp2_with (first | (go_at_call 93; (with_reducible refine (C2.out _).mono ?_); rintro e w2 ⟨rfl, hb2⟩; obtain ⟨fc2, fg2, hc2, hf2, hz2⟩ := bget hb2; (try simp at hz2)) | fail)
        have HX := Lib.hid (HX.out.keep (show Below wr.heap.size wr w2 from (by (repeat' (first | (with_reducible exact Below.refl _ _) | (with_reducible assumption) | (with_reducible refine Below.alloc ?_ ?_ _) | (with_reducible refine Below.setCell ?_ ?_ _) | (with_reducible refine Below.drew ?_) | (with_reducible refine below_drewN ?_ _) | (with_reducible refine below_via ?_ (by with_reducible assumption) ?_) | omega | (simp; done) | (simp; omega))))))
        have hbx : Below w1.heap.size w1 w2 := by (repeat' (first | (with_reducible exact Below.refl _ _) | (with_reducible assumption) | (with_reducible refine Below.alloc ?_ ?_ _) | (with_reducible refine Below.setCell ?_ ?_ _) | (with_reducible refine Below.drew ?_) | (with_reducible refine below_drewN ?_ _) | (with_reducible refine below_via ?_ (by with_reducible assumption) ?_) | omega | (simp; done) | (simp; omega)))
        obtain ⟨gX, rfl, hgX, _⟩ := hfX (by intro h; rw [List.map_eq_nil_iff] at h; rw [h] at ht0; simp at ht0)
        go_loopw [8, 9] (fun i j wr => ∃ r : Nat, i = .int .i64 r ∧ j = .int .i64 ((t.length : Int) - 1 - r) ∧ 2 * r ≤ t.length + 1 ∧ Own wr (w1.heap.size + 1) 5 1 (.slice (some ⟨gX, 0, none⟩) t.length cX) ((turned t r).map encB) ∧ Below w1.heap.size w1 wr) (fun i _ _ => t.length - (intOf i).toNat)
        case atStart => exact ⟨0, by first | rfl | go_num, by first | rfl | go_num, by omega, by rw [turned_zero]; exact HX.out, hbx⟩
        case round =>
          obtain ⟨r, rfl, rfl, hr, hownR, hblR⟩ := hrel
          clear HX hbx
          by_cases hcr : 2 * r + 1 < t.length
          · obtain ⟨q, hq⟩ : ∃ q : Nat, (t.length : Int) - 1 - r = q := ⟨t.length - 1 - r, by omega⟩
            have hqn : t.length - 1 - r = q := (by omega)
            have hrq : r < q := (by omega)
            have hql : q < t.length := (by omega)
            have HQ := Lib.hid hq
            rw [hq]
            have d1 : decide ((r : Int) < (q : Int)) = true := (by simpa using hrq)
            have x1 := own_cells hownR (turned_get t r hcr).1
            have x2 := own_cells hownR (turned_get t r hcr).2
            obtain ⟨cur, hblk⟩ := hownR.blk rfl
            have fz := fun i => hblk.frozen i
            have hsw := own_swap hownR hcr
            rw [hqn] at x2 hsw
            obtain ⟨x, hx⟩ : ∃ x, x = t.getD r 0 := ⟨_, rfl⟩
            obtain ⟨y, hy⟩ : ∃ y, y = t.getD q 0 := ⟨_, rfl⟩
            rw [← hx] at x1 hsw
            rw [← hy] at x2 hsw
            have HSW := Lib.hid hsw
            have HblR := Lib.hid hblR
            clear hx hy hsw hq hqn hownR hblk hblR hcr
            go_wp2_with fail
            go_region
            all_goals
              go_wp2_with fail
              go_roundw
              case rel =>
                have hq := HQ.out
                exact ⟨r + 1, by go_num, by go_num, by omega, HSW.out, by (have hbl := HblR.out; (repeat' (first | (with_reducible exact Below.refl _ _) | (with_reducible assumption) | (with_reducible refine Below.alloc ?_ ?_ _) | (with_reducible refine Below.setCell ?_ ?_ _) | (with_reducible refine Below.drew ?_) | (with_reducible refine below_drewN ?_ _) | (with_reducible refine below_via ?_ (by with_reducible assumption) ?_) | omega | (simp; done) | (simp; omega))))⟩
              case measure => (simp [intOf]; omega)
          · have d1 : decide ((r : Int) < (t.length : Int) - 1 - r) = false := (by simp; omega)
            have hte := turned_end t r (by omega)
            rw [hte] at hownR
            have hbB := back_byte n
            rw [← HTB.out] at hbB
            have hcells : ∀ j (hj : j < (t.reverse.map fun b => UInt8.ofNat b.toNat).length), wr.cell? ((⟨gX, 0, none⟩ : Addr).add j) = some (.int .u8 (((t.reverse.map fun b => UInt8.ofNat b.toNat)[j]).toNat : Int)) := (by
              intro j hj
              have hj2 : j < t.reverse.length := (by simpa using hj)
              obtain ⟨b, o, hA, _, hc⟩ := hownR.rd.1 j (encB t.reverse[j]) (by rw [List.getElem?_map, List.getElem?_eq_getElem hj2]; rfl)
              injection hA with hA
              injection hA with hA hB _
              subst hA hB
              have h0 := hc 0 _ rfl
              have hb := hbB t.reverse[j] (List.mem_reverse.1 (List.getElem_mem hj2))
              rw [List.getElem_map, u8_back hb.1 hb.2, addr_plain]
              simpa using h0)
            have hconv := run_convert_bytes_back (P := Try.prog) wr 31 9 5 ⟨gX, 0, none⟩ cX (t.reverse.map fun b => UInt8.ofNat b.toNat) Try.underlying31 Try.underlying5 Try.underlying9 hcells
            simp only [List.length_map, List.length_reverse] at hconv
            have HTX := Lib.hid (show (⟨(t.reverse.map fun b => UInt8.ofNat b.toNat).toArray⟩ : ByteArray) = textB n from (by rw [HTB.out]; rfl))
            rw [HTX.out] at hconv
            clear hcells hbB hte hownR
            go_wp2_with fail
            go_ret
            exact ⟨rfl, by (have hb1 := Hb1.out; (repeat' (first | (with_reducible exact Below.refl _ _) | (with_reducible assumption) | (with_reducible refine Below.alloc ?_ ?_ _) | (with_reducible refine Below.setCell ?_ ?_ _) | (with_reducible refine Below.drew ?_) | (with_reducible refine below_drewN ?_ _) | (with_reducible refine below_via ?_ (by with_reducible assumption) ?_) | omega | (simp; done) | (simp; omega))))⟩
end Go.Proofs.Ytpjehhkmdndcmaa

/- Instruments: the contract of inst.Shock whole; of the reference's Shock; the law's short, lives. -/
namespace Go.Proofs.Ytpjehhkmdndcmaa
open Go.RowKit
theorem shock_yes {x : Inst} {q : Int} {k : Nat} (h : okI x) (hk : k < x.moves.length) : shockI x q k = x.moves[k] * x.mult * q := by
  unfold shockI
  rw [if_pos ⟨h, by omega, by omega⟩, Int.toNat_natCast, getD_at hk, Int.mul_comm q, Int.mul_comm (x.mult * q), Int.mul_assoc]
theorem okS_nat {x : Inst} {s : Int} (h : okS x s) : ∃ k : Nat, s = k ∧ k < x.moves.length := ⟨s.toNat, by have := h.2; omega, by have := h.2; omega⟩
theorem shock_in {x : Inst} {q s : Int} (hq : In64 q) : In128 (shockI x q s) := by
  by_cases h : okS x s
  · obtain ⟨k, rfl, hk⟩ := okS_nat h
    rw [shock_yes h.1 hk]
    have hmv := okI_move h.1 hk
    have hm := h.1.2.2
    have e1 := mul_le_of (a := x.moves[k]) (b := x.mult) (A := 2147483647) (B := 65536) (by omega) (by omega) 140737488289792 (by omega)
    have e2 := mul_le_of (a := x.moves[k] * x.mult) (b := q) (A := 140737488355328) (B := 9223372036854775808) (by omega) (by unfold In64 at hq; omega) 1298074214633706907132624082305024 (by omega)
    unfold In128; omega
  · rw [shock_no h]; unfold In128; omega
theorem instShock (x : Inst) (q s : Int) (A : Option Addr) (c : Nat) (w : World) (hq : In64 q) (hl : x.moves.length ≤ 1099511627776) (hr : Rd w A 1 (x.moves.map encI)) :
    Calls Try.prog 12 #[.agg #[.int .i64 (x).id, .int .i64 (x).mult, .int .i64 (x).price, .int .i64 (x).next, .slice A (x).moves.length c], .int .i64 q, .int .i64 s] w fun e w' => e = .returned (.agg #[.int .i64 (whi (shockI x q s)), .int .u64 (wlo (shockI x q s))]) ∧ Below w.heap.size w w' := by
  by_cases h : okS x s
  · obtain ⟨k, rfl, hk⟩ := okS_nat h
    rw [shock_yes h.1 hk]
    exact instShockYes x q k A c w hq hr hk h.1
  · rw [shock_no h, whi_zero, wlo_zero]
    exact instShockNo x q s A c w hl hr h
set_option maxRecDepth 100000 in
set_option maxHeartbeats 8000000 in
theorem ref13ShockNo (x : Inst) (q s : Int) (A : Option Addr) (c : Nat) (w : World) (hl : x.moves.length ≤ 1099511627776) (hr : Rd w A 1 (x.moves.map encI)) (h : ¬ okS x s) :
    Calls Try.prog 15 #[.agg #[.int .i64 (x).id, .int .i64 (x).mult, .int .i64 (x).price, .int .i64 (x).next, .slice A (x).moves.length c], .int .i64 q, .int .i64 s] w (BigPost w 0 300) := by
  have c1 := fun W h => ref13Is x A c W hl h
  have HR := Lib.hid hr
  clear hr
  by_cases h1 : okI x
  · rw [decide_eq_true h1] at c1
    have C1 := Lib.hid c1
    clear c1
    generalize hn : x.moves.length = n at *
    by_cases h2 : s < 0
    · have d2 : decide (s < 0) = true := by simpa using h2
      clear h h1 hn
      go_enter Try.func15, Try.ntmps15
      go_wp2_with (first | (go_at_call 17; (with_reducible refine (C1.out _ (HR.out.keep (by (repeat' (first | (with_reducible exact Below.refl _ _) | (with_reducible assumption) | (with_reducible refine Below.alloc ?_ ?_ _) | (with_reducible refine Below.setCell ?_ ?_ _) | (with_reducible refine Below.drew ?_) | (with_reducible refine below_drewN ?_ _) | (with_reducible refine below_via ?_ (by with_reducible assumption) ?_) | omega | (simp; done) | (simp; omega)))))).mono ?_); rintro e w1 ⟨rfl, hb1⟩; obtain ⟨fc1, fg1, hc1, hf1, hz1⟩ := bget hb1; (try simp at hz1)) | fail)
      all_goals
        refine bigRet (s := false) (A := none) (l := []) (c := 0) rfl rfl rfl ?_ ?_ isBig_nil2 (by simp) ?_
        · (first | (simp [go_sem, *]; done) | (simp [go_sem, *, ↓IntWalk.iteOmega]; done))
        · (first | (simp [go_sem, *]; done) | (simp [go_sem, *, ↓IntWalk.iteOmega]; done))
        · (repeat' (first | (with_reducible exact Below.refl _ _) | (with_reducible assumption) | (with_reducible refine Below.alloc ?_ ?_ _) | (with_reducible refine Below.setCell ?_ ?_ _) | (with_reducible refine Below.drew ?_) | (with_reducible refine below_drewN ?_ _) | (with_reducible refine below_via ?_ (by with_reducible assumption) ?_) | omega | (simp; done) | (simp; omega)))
    · have d2 : decide (s < 0) = false := by simpa using h2
      have d3 : decide ((n : Int) ≤ s) = true := by
        rw [← hn]
        rw [decide_eq_true_iff]
        by_cases h3 : s < (x.moves.length : Int)
        · exact absurd ⟨h1, by omega, h3⟩ h
        · omega
      clear h h1 hn
      go_enter Try.func15, Try.ntmps15
      go_wp2_with (first | (go_at_call 17; (with_reducible refine (C1.out _ (HR.out.keep (by (repeat' (first | (with_reducible exact Below.refl _ _) | (with_reducible assumption) | (with_reducible refine Below.alloc ?_ ?_ _) | (with_reducible refine Below.setCell ?_ ?_ _) | (with_reducible refine Below.drew ?_) | (with_reducible refine below_drewN ?_ _) | (with_reducible refine below_via ?_ (by with_reducible assumption) ?_) | omega | (simp; done) | (simp; omega)))))).mono ?_); rintro e w1 ⟨rfl, hb1⟩; obtain ⟨fc1, fg1, hc1, hf1, hz1⟩ := bget hb1; (try simp at hz1)) | fail)
      all_goals
        refine bigRet (s := false) (A := none) (l := []) (c := 0) rfl rfl rfl ?_ ?_ isBig_nil2 (by simp) ?_
        · (first | (simp [go_sem, *]; done) | (simp [go_sem, *, ↓IntWalk.iteOmega]; done))
        · (first | (simp [go_sem, *]; done) | (simp [go_sem, *, ↓IntWalk.iteOmega]; done))
        · (repeat' (first | (with_reducible exact Below.refl _ _) | (with_reducible assumption) | (with_reducible refine Below.alloc ?_ ?_ _) | (with_reducible refine Below.setCell ?_ ?_ _) | (with_reducible refine Below.drew ?_) | (with_reducible refine below_drewN ?_ _) | (with_reducible refine below_via ?_ (by with_reducible assumption) ?_) | omega | (simp; done) | (simp; omega)))
  · rw [decide_eq_false h1] at c1
    have C1 := Lib.hid c1
    clear c1 h h1
    go_enter Try.func15, Try.ntmps15
    go_wp2_with (first | (go_at_call 17; (with_reducible refine (C1.out _ (HR.out.keep (by (repeat' (first | (with_reducible exact Below.refl _ _) | (with_reducible assumption) | (with_reducible refine Below.alloc ?_ ?_ _) | (with_reducible refine Below.setCell ?_ ?_ _) | (with_reducible refine Below.drew ?_) | (with_reducible refine below_drewN ?_ _) | (with_reducible refine below_via ?_ (by with_reducible assumption) ?_) | omega | (simp; done) | (simp; omega)))))).mono ?_); rintro e w1 ⟨rfl, hb1⟩; obtain ⟨fc1, fg1, hc1, hf1, hz1⟩ := bget hb1; (try simp at hz1)) | fail)
    all_goals
      refine bigRet (s := false) (A := none) (l := []) (c := 0) rfl rfl rfl ?_ ?_ isBig_nil2 (by simp) ?_
      · (first | (simp [go_sem, *]; done) | (simp [go_sem, *, ↓IntWalk.iteOmega]; done))
      · (first | (simp [go_sem, *]; done) | (simp [go_sem, *, ↓IntWalk.iteOmega]; done))
      · (repeat' (first | (with_reducible exact Below.refl _ _) | (with_reducible assumption) | (with_reducible refine Below.alloc ?_ ?_ _) | (with_reducible refine Below.setCell ?_ ?_ _) | (with_reducible refine Below.drew ?_) | (with_reducible refine below_drewN ?_ _) | (with_reducible refine below_via ?_ (by with_reducible assumption) ?_) | omega | (simp; done) | (simp; omega)))
set_option maxRecDepth 100000 in
set_option maxHeartbeats 8000000 in
theorem ref13ShockYes (x : Inst) (q : Int) (k : Nat) (A : Option Addr) (c : Nat) (w : World) (hq : In64 q) (hr : Rd w A 1 (x.moves.map encI)) (hk : k < x.moves.length) (h : okI x) :
    Calls Try.prog 15 #[.agg #[.int .i64 (x).id, .int .i64 (x).mult, .int .i64 (x).price, .int .i64 (x).next, .slice A (x).moves.length c], .int .i64 q, .int .i64 k] w (BigPost w (q * x.mult * x.moves[k]) 300) := by
  have hl8 := h.2.2.2.2.2.2.1
  have c1 := fun W h => ref13Is x A c W (by omega) h
  have HR := Lib.hid hr
  rw [decide_eq_true h] at c1
  have C1 := Lib.hid c1
  have hm := h.2.2
  obtain ⟨b, o, rfl, hb, hcm⟩ := hr k (encI x.moves[k]) (by simp [hk])
  have e0 := hcm 0 _ rfl
  have hmv := okI_move h hk
  generalize x.moves[k] = m at *
  have i1 : In64 m := by unfold In64; omega
  have i2 : In64 x.mult := by unfold In64; omega
  have d2 : decide ((k : Int) < 0) = false := by simp
  have hkn : (k : Int) < (x.moves.length : Int) := by omega
  have d3 : decide ((x.moves.length : Int) ≤ (k : Int)) = false := by simp; omega
  simp at e0
  generalize x.moves.length = n at *
  clear c1 h hm hr hcm hmv
  go_enter Try.func15, Try.ntmps15
  go_wp2_with (first | (go_at_call 17; (with_reducible refine (C1.out _ (HR.out.keep (by (repeat' (first | (with_reducible exact Below.refl _ _) | (with_reducible assumption) | (with_reducible refine Below.alloc ?_ ?_ _) | (with_reducible refine Below.setCell ?_ ?_ _) | (with_reducible refine Below.drew ?_) | (with_reducible refine below_drewN ?_ _) | (with_reducible refine below_via ?_ (by with_reducible assumption) ?_) | omega | (simp; done) | (simp; omega)))))).mono ?_); rintro e w1 ⟨rfl, hb1⟩; obtain ⟨fc1, fg1, hc1, hf1, hz1⟩ := bget hb1; (try simp at hz1)) | fail)
  go_region_held3 (fun w' => (w'.cell? ⟨w.heap.size, 1, none⟩ = some (.int .i64 x.mult) ∧ w'.cell? ⟨w.heap.size, 4, none⟩ = some (.slice (some ⟨b, o, none⟩) n c)) ∧ w'.cell? ⟨b, o + k, none⟩ = some (.int .i64 m)) (first | (simp [go_sem]; done) | (repeat' (first | (with_reducible assumption) | (with_reducible refine And.intro ?_ ?_) | (with_reducible refine cell_drew ?_) | (with_reducible refine cell_via (by with_reducible assumption) ?_ ?_) | (simp [*]; done) | (simp [go_sem]; done) | (with_reducible refine cell_alloc ?_ ?_) | (with_reducible refine cell_set_far ?_ ?_) | omega | (simp; omega)))) (first | (go_at_call 22; (with_reducible refine (bigOf q _ hq).mono ?_); rintro e w2 ⟨s2, A2, l2, c2, rfl, hB2, hl2, hb2⟩; have HB2 := Lib.hid hB2; clear hB2; obtain ⟨fc2, fg2, hc2, hf2, hz2⟩ := bget hb2; (try simp at hz2)) | (go_at_call 22; (with_reducible refine (bigOf x.mult _ i2).mono ?_); rintro e w3 ⟨s3, A3, l3, c3, rfl, hB3, hl3, hb3⟩; have HB3 := Lib.hid hB3; clear hB3; obtain ⟨fc3, fg3, hc3, hf3, hz3⟩ := bget hb3; (try simp at hz3)) | (go_at_call 59; (with_reducible refine (bigMul q x.mult s2 s3 l2 l3 A2 A3 c2 c3 65 _ (by omega) hl2 hl3 (HB2.out.keep (by (repeat' (first | (with_reducible exact Below.refl _ _) | (with_reducible assumption) | (with_reducible refine Below.alloc ?_ ?_ _) | (with_reducible refine Below.setCell ?_ ?_ _) | (with_reducible refine Below.drew ?_) | (with_reducible refine below_drewN ?_ _) | (with_reducible refine below_via ?_ (by with_reducible assumption) ?_) | omega | (simp; done) | (simp; omega))))) (HB3.out.keep (by (repeat' (first | (with_reducible exact Below.refl _ _) | (with_reducible assumption) | (with_reducible refine Below.alloc ?_ ?_ _) | (with_reducible refine Below.setCell ?_ ?_ _) | (with_reducible refine Below.drew ?_) | (with_reducible refine below_drewN ?_ _) | (with_reducible refine below_via ?_ (by with_reducible assumption) ?_) | omega | (simp; done) | (simp; omega)))))).mono ?_); rintro e w4 ⟨s4, A4, l4, c4, rfl, hB4, hl4, hb4⟩; have HB4 := Lib.hid hB4; clear hB4; obtain ⟨fc4, fg4, hc4, hf4, hz4⟩ := bget hb4; (try simp at hz4)) | (go_at_call 22; (with_reducible refine (bigOf m _ i1).mono ?_); rintro e w5 ⟨s5, A5, l5, c5, rfl, hB5, hl5, hb5⟩; have HB5 := Lib.hid hB5; clear hB5; obtain ⟨fc5, fg5, hc5, hf5, hz5⟩ := bget hb5; (try simp at hz5)) | (go_at_call 59; (with_reducible refine (bigMul (q * x.mult) m s4 s5 l4 l5 A4 A5 c4 c5 130 _ (by omega) (by omega) (by omega) (HB4.out.keep (by (repeat' (first | (with_reducible exact Below.refl _ _) | (with_reducible assumption) | (with_reducible refine Below.alloc ?_ ?_ _) | (with_reducible refine Below.setCell ?_ ?_ _) | (with_reducible refine Below.drew ?_) | (with_reducible refine below_drewN ?_ _) | (with_reducible refine below_via ?_ (by with_reducible assumption) ?_) | omega | (simp; done) | (simp; omega))))) (HB5.out.keep (by (repeat' (first | (with_reducible exact Below.refl _ _) | (with_reducible assumption) | (with_reducible refine Below.alloc ?_ ?_ _) | (with_reducible refine Below.setCell ?_ ?_ _) | (with_reducible refine Below.drew ?_) | (with_reducible refine below_drewN ?_ _) | (with_reducible refine below_via ?_ (by with_reducible assumption) ?_) | omega | (simp; done) | (simp; omega)))))).mono ?_); rintro e w6 ⟨s6, A6, l6, c6, rfl, hB6, hl6, hb6⟩; have HB6 := Lib.hid hB6; clear hB6; obtain ⟨fc6, fg6, hc6, hf6, hz6⟩ := bget hb6; (try simp at hz6)) | fail)
  all_goals
    go_wp2_with fail
    refine bigRet rfl rfl rfl ?_ ?_ ?_ (by omega) ?_
    · (first | (simp [go_sem, *]; done) | (simp [go_sem, *, ↓IntWalk.iteOmega]; done))
    · (first | (simp [go_sem, *]; done) | (simp [go_sem, *, ↓IntWalk.iteOmega]; done))
    · (repeat' (first | (focus ((refine (HB6.out).keep ?_); (repeat' (first | (with_reducible exact Below.refl _ _) | (with_reducible assumption) | (with_reducible refine Below.alloc ?_ ?_ _) | (with_reducible refine Below.setCell ?_ ?_ _) | (with_reducible refine Below.drew ?_) | (with_reducible refine below_drewN ?_ _) | (with_reducible refine below_via ?_ (by with_reducible assumption) ?_) | omega | (simp; done) | (simp; omega))); done)) | (refine IsBig.far (v0 := .slice none 0 0) ?_ ?_ ?_ _; rotate_left; (focus (simp [go_sem, *]; done)); (focus (simp; done))) | (refine IsBig.far (v0 := .bool false) ?_ ?_ ?_ _; rotate_left; (focus (simp [go_sem, *]; done)); (focus (simp; done))) | fail))
    · (repeat' (first | (with_reducible exact Below.refl _ _) | (with_reducible assumption) | (with_reducible refine Below.alloc ?_ ?_ _) | (with_reducible refine Below.setCell ?_ ?_ _) | (with_reducible refine Below.drew ?_) | (with_reducible refine below_drewN ?_ _) | (with_reducible refine below_via ?_ (by with_reducible assumption) ?_) | omega | (simp; done) | (simp; omega)))
theorem ref13Shock (x : Inst) (q s : Int) (A : Option Addr) (c : Nat) (w : World) (hq : In64 q) (hl : x.moves.length ≤ 1099511627776) (hr : Rd w A 1 (x.moves.map encI)) :
    Calls Try.prog 15 #[.agg #[.int .i64 (x).id, .int .i64 (x).mult, .int .i64 (x).price, .int .i64 (x).next, .slice A (x).moves.length c], .int .i64 q, .int .i64 s] w (BigPost w (shockI x q s) 300) := by
  by_cases h : okS x s
  · obtain ⟨k, rfl, hk⟩ := okS_nat h
    rw [shock_yes h.1 hk]
    have e : x.moves[k] * x.mult * q = q * x.mult * x.moves[k] := by rw [Int.mul_comm _ q, Int.mul_comm x.moves[k], Int.mul_assoc]
    rw [e]
    exact ref13ShockYes x q k A c w hq hr hk h.1
  · rw [shock_no h]
    exact ref13ShockNo x q s A c w hl hr h
/-- An instrument of 12 moves at most. -/
def shortI (x : Inst) : Inst := { x with moves := x.moves.take 12 }
theorem rd_takeI {w : World} {A : Option Addr} {l : List Int} (h : Rd w A 1 (l.map encI)) (k : Nat) : Rd w A 1 ((l.take k).map encI) := by
  intro i r hr
  rw [List.map_take, List.getElem?_take] at hr
  split at hr
  · exact h i r hr
  · cases hr
set_option maxRecDepth 100000 in
set_option maxHeartbeats 8000000 in
theorem law13short (x y : Inst) (A : Option Addr) (c : Nat) (w : World) (hy : y = shortI x) (hlc : x.moves.length ≤ c) (hcm : c ≤ maxLen) (hr : Rd w A 1 (x.moves.map encI)) :
    Calls Try.prog 11 #[.agg #[.int .i64 (x).id, .int .i64 (x).mult, .int .i64 (x).price, .int .i64 (x).next, .slice A (x).moves.length c]] w fun e w' => e = .returned (.agg #[.int .i64 (y).id, .int .i64 (y).mult, .int .i64 (y).price, .int .i64 (y).next, .slice A (y).moves.length c]) ∧ Below w.heap.size w w' := by
  unfold maxLen at hcm
  obtain ⟨n, hn⟩ : ∃ n, n = x.moves.length := ⟨_, rfl⟩
  obtain ⟨m, hm⟩ : ∃ m, m = y.moves.length := ⟨_, rfl⟩
  have e1 : y.id = x.id ∧ y.mult = x.mult ∧ y.price = x.price ∧ y.next = x.next := by subst hy; exact ⟨rfl, rfl, rfl, rfl⟩
  have e2 : m = min 12 n := by rw [hm, hn, hy]; simp [shortI]
  rw [e1.1, e1.2.1, e1.2.2.1, e1.2.2.2, ← hm, ← hn]
  rw [← hn] at hlc
  by_cases h : 12 < n
  · have e3 : m = 12 := by omega
    rw [e3]
    have d1 : decide (12 < (n : Int)) = true := by simp; omega
    obtain ⟨b, o, rfl, hq⟩ := hr 0 (encI (x.moves[0]'(by omega))) (by rw [List.getElem?_map, List.getElem?_eq_getElem (by omega)]; rfl)
    clear hq hr hn hm hy e1 e2 e3
    go_enter Try.func11, Try.ntmps11
    go_wp2_with fail
    all_goals
      refine bodyPost_ret (by simp [results, Try.results11, go_sem, ]; try rfl) rfl ⟨rfl, ?_⟩
      (repeat' (first | (with_reducible exact Below.refl _ _) | (with_reducible assumption) | (with_reducible refine Below.alloc ?_ ?_ _) | (with_reducible refine Below.setCell ?_ ?_ _) | (with_reducible refine Below.drew ?_) | (with_reducible refine below_drewN ?_ _) | (with_reducible refine below_via ?_ (by with_reducible assumption) ?_) | omega | (simp; done) | (simp; omega)))
  · have e3 : m = n := by omega
    rw [e3]
    have d1 : decide (12 < (n : Int)) = false := by simp; omega
    clear hr hn hm hy e1 e2 e3
    go_enter Try.func11, Try.ntmps11
    go_wp2_with fail
    all_goals
      refine bodyPost_ret (by simp [results, Try.results11, go_sem, ]; try rfl) rfl ⟨rfl, ?_⟩
      (repeat' (first | (with_reducible exact Below.refl _ _) | (with_reducible assumption) | (with_reducible refine Below.alloc ?_ ?_ _) | (with_reducible refine Below.setCell ?_ ?_ _) | (with_reducible refine Below.drew ?_) | (with_reducible refine below_drewN ?_ _) | (with_reducible refine below_via ?_ (by with_reducible assumption) ?_) | omega | (simp; done) | (simp; omega)))
end Go.Proofs.Ytpjehhkmdndcmaa

/- Layer 13's laws: lives; InstGains' walk. -/
namespace Go.Proofs.Ytpjehhkmdndcmaa
open Go.RowKit
theorem textB_60 : textB (-60) = ⟨#[45, 54, 48]⟩ := by decide +kernel
theorem rd_ints1 {w : World} {g : Nat} {x : Int} (hg : g < w.heap.size) (h0 : w.cell? ⟨g, 0, none⟩ = some (.int .i64 x)) : Rd w (some ⟨g, 0, none⟩) 1 ([x].map encI) := by
  intro i r hr
  match i, hr with
  | 0, hr =>
    simp at hr
    subst hr
    refine ⟨g, 0, rfl, hg, fun j v hv => ?_⟩
    match j, hv with
    | 0, hv => simp [encI] at hv; subst hv; simpa using h0
set_option maxRecDepth 100000 in
set_option maxHeartbeats 8000000 in
theorem law13lives (w : World) : Calls Try.prog 18 #[] w fun e w' => e = .returned (.bool true) ∧ Below w.heap.size w w' := by
  have c1 := fun g W hg h0 => instGain ⟨1, 10, 0, 0, [-2]⟩ 3 5 7 (some ⟨g, 0, none⟩) 1 W (by unfold In64; omega) (by simp) (rd_ints1 hg h0)
  have c2 := fun g W hg h0 => instShock ⟨1, 10, 0, 0, [-2]⟩ 3 0 (some ⟨g, 0, none⟩) 1 W (by unfold In64; omega) (by simp) (rd_ints1 hg h0)
  have c3 := fun W => wideText (-60) W (by unfold In128; omega)
  rw [show gainN ⟨1, 10, 0, 0, [-2]⟩ 3 5 7 = 60 from by decide +kernel, show gainE ⟨1, 10, 0, 0, [-2]⟩ 3 5 7 = 0 from by decide +kernel] at c1
  rw [show shockI ⟨1, 10, 0, 0, [-2]⟩ 3 0 = -60 from by decide +kernel] at c2
  rw [textB_60] at c3
  generalize whi (-60) = h60 at c2 c3
  generalize wlo (-60) = l60 at c2 c3
  simp only [List.length_singleton] at c1 c2
  have C1 := Lib.hid c1
  have C2 := Lib.hid c2
  have C3 := Lib.hid c3
  clear c1 c2 c3
  go_enter Try.func18, Try.ntmps18
  go_wp2_with (first | (go_at_call 16; (with_reducible refine (C1.out _ _ ?_ ?_).mono ?_); (focus (first | (simp; done) | (simp; omega))); (focus (first | (simp [go_sem]; done) | (simp [go_sem, ↓IntWalk.iteOmega]; done))); rintro e w1 ⟨rfl, hb1⟩; obtain ⟨fc1, fg1, hc1, hf1, hz1⟩ := bget hb1; (try simp at hz1)) | (go_at_call 12; (with_reducible refine (C2.out w.heap.size _ ?_ ?_).mono ?_); (focus (first | omega | (simp; done) | (simp; omega))); (focus (simp [go_sem, hc1]; done)); rintro e w2 ⟨rfl, hb2⟩; obtain ⟨fc2, fg2, hc2, hf2, hz2⟩ := bget hb2; (try simp at hz2)) | (go_at_call 64; (with_reducible refine (C3.out _).mono ?_); rintro e w3 ⟨rfl, hb3⟩; obtain ⟨fc3, fg3, hc3, hf3, hz3⟩ := bget hb3; (try simp at hz3)) | fail)
  all_goals
    go_ret
    exact ⟨rfl, by (repeat' (first | (with_reducible exact Below.refl _ _) | (with_reducible assumption) | (with_reducible refine Below.alloc ?_ ?_ _) | (with_reducible refine Below.setCell ?_ ?_ _) | (with_reducible refine Below.drew ?_) | (with_reducible refine below_drewN ?_ _) | (with_reducible refine below_via ?_ (by with_reducible assumption) ?_) | omega | (simp; done) | (simp; omega)))⟩
end Go.Proofs.Ytpjehhkmdndcmaa

/- Layer 13's laws: few; plain facts for InstTables. -/
namespace Go.Proofs.Ytpjehhkmdndcmaa
open Go.RowKit
def shortV (x : InstV) : InstV := { x with moves := ⟨x.moves.A, x.moves.c, x.moves.val.take 12⟩ }
theorem law13shortV (x : InstV) (w : World) (hg : Rs w 1 (x.moves.val.map encI) x.moves.A x.moves.c) :
    Calls Try.prog 11 #[.agg #[.int .i64 x.id, .int .i64 x.mult, .int .i64 x.price, .int .i64 x.next, .slice x.moves.A x.moves.val.length x.moves.c]] w fun e w' => e = .returned (.agg #[.int .i64 (shortV x).id, .int .i64 (shortV x).mult, .int .i64 (shortV x).price, .int .i64 (shortV x).next, .slice (shortV x).moves.A (shortV x).moves.val.length (shortV x).moves.c]) ∧ Below w.heap.size w w' :=
  law13short (lgI x) (shortI (lgI x)) x.moves.A x.moves.c w rfl (by have := hg.cap; rw [List.length_map] at this; exact this) hg.room hg.rd
theorem good_short {w : World} {x : InstV} (h : GoodI w x) : GoodI w (shortV x) ∧ (shortV x).moves.val.length ≤ 12 := by
  refine ⟨?_, by simp [shortV]; omega⟩
  unfold GoodI at *
  have := h.take 12
  rw [← List.map_take] at this
  exact this
set_option maxRecDepth 100000 in
set_option maxHeartbeats 8000000 in
theorem law13few (l : List InstV) (A : Option Addr) (c : Nat) (w : World) (hl : l.length ≤ maxLen) (hr : Rd w A 5 (l.map encInstV)) (hg : ∀ x ∈ l, GoodI w x) :
    Calls Try.prog 35 #[.slice A l.length c] w fun e w' => ∃ v, e = .returned v ∧ Own w' w.heap.size 24 5 v (((l.take 12).map shortV).map encInstV) ∧ Below w.heap.size w w' := by
  have HR := Lib.hid hr
  have HG := Lib.hid hg
  have hml : (l.length : Int) ≤ 9223372036854775807 := by unfold maxLen at hl; omega
  clear hr hg hl
  go_enter Try.func35, Try.ntmps35
  go_wp2_with fail
  go_loopw [3, 4] (fun v i wr => ∃ q : Nat, q ≤ l.length ∧ q ≤ 12 ∧ i = .int .i64 q ∧ Own wr w.heap.size 24 5 v (((l.take q).map shortV).map encInstV) ∧ Below w.heap.size w wr) (fun _ i _ => l.length - (intOf i).toNat)
  case atStart => exact ⟨0, Nat.zero_le _, Nat.zero_le _, rfl, Own.nil _ _ _ _, by (repeat' (first | (with_reducible exact Below.refl _ _) | (with_reducible assumption) | (with_reducible refine Below.alloc ?_ ?_ _) | (with_reducible refine Below.setCell ?_ ?_ _) | (with_reducible refine Below.drew ?_) | (with_reducible refine below_drewN ?_ _) | (with_reducible refine below_via ?_ (by with_reducible assumption) ?_) | omega | (simp; done) | (simp; omega)))⟩
  case round =>
    obtain ⟨q, hq, hq12, rfl, hown, hbl⟩ := hrel
    have Hown := Lib.hid hown
    have Hbl := Lib.hid hbl
    have hz := hbl.size
    clear hown hbl
    by_cases hgo : q < l.length ∧ q < 12
    · obtain ⟨hlt, h12⟩ := hgo
      have hqi : (q : Int) < (l.length : Int) := by omega
      have dl : decide ((q : Int) < (l.length : Int)) = true := by simpa using hlt
      have d12 : decide ((q : Int) < 12) = true := by simp; omega
      obtain ⟨b, o, rfl, hb, hc⟩ := HR.out q (encInstV l[q]) (by simp [hlt])
      have e0 := (Hbl.out.cell (p := ⟨b, o + q * 5 + 0, none⟩) hb).trans (hc 0 _ rfl)
      have e1 := (Hbl.out.cell (p := ⟨b, o + q * 5 + 1, none⟩) hb).trans (hc 1 _ rfl)
      have e2 := (Hbl.out.cell (p := ⟨b, o + q * 5 + 2, none⟩) hb).trans (hc 2 _ rfl)
      have e3 := (Hbl.out.cell (p := ⟨b, o + q * 5 + 3, none⟩) hb).trans (hc 3 _ rfl)
      have e4 := (Hbl.out.cell (p := ⟨b, o + q * 5 + 4, none⟩) hb).trans (hc 4 _ rfl)
      simp only [Nat.add_zero] at e0
      clear hc
      have HX := Lib.hid (fun W (h : Below w.heap.size w W) => law13shortV l[q] W ((HG.out l[q] (List.getElem_mem hlt)).keep h))
      have HS := Lib.hid (map_snoc hlt shortV)
      have hlen : ((l.take q).map shortV).length ≤ 12 := by simp; omega
      obtain ⟨y, hy⟩ : ∃ y, y = shortV l[q] := ⟨_, rfl⟩
      rw [← hy] at HX HS
      clear hy
      go_wp2_with (first | (go_at_call 11; (with_reducible refine (HX.out _ (by have hbl := Hbl.out; (repeat' (first | (with_reducible exact Below.refl _ _) | (with_reducible assumption) | (with_reducible refine Below.alloc ?_ ?_ _) | (with_reducible refine Below.setCell ?_ ?_ _) | (with_reducible refine Below.drew ?_) | (with_reducible refine below_drewN ?_ _) | (with_reducible refine below_via ?_ (by with_reducible assumption) ?_) | omega | (simp; done) | (simp; omega))))).mono ?_); rintro e w1 ⟨rfl, hb1⟩; have hz1 := hb1.size; have Hb1 := Lib.hid hb1; clear hb1) | (at_builtin; refine wpList_app rfl _ _ _ rfl elInstV w.heap.size _ _ rfl ((Hown.out.keep Hb1.out).alloc _) (some ⟨_, 0, none⟩) 1 1 rfl [encInstV y] rfl (fun h => by cases h) (rd_oneN (by simp)) (rowsInstV [y]) (by unfold maxLen; simp; omega) (by simp; omega) (by first | omega | (simp; done) | (simp; omega)) ?_; intro v3 w3 hown3 hb3) | fail)
      go_roundw
      case rel => exact ⟨q + 1, by omega, by omega, by go_num, by rw [HS.out, List.map_append]; exact hown3, by have hbl := Hbl.out; have hb1 := Hb1.out; (repeat' (first | (with_reducible exact Below.refl _ _) | (with_reducible assumption) | (with_reducible refine Below.alloc ?_ ?_ _) | (with_reducible refine Below.setCell ?_ ?_ _) | (with_reducible refine Below.drew ?_) | (with_reducible refine below_drewN ?_ _) | (with_reducible refine below_via ?_ (by with_reducible assumption) ?_) | omega | (simp; done) | (simp; omega)))⟩
      case measure => simp [intOf]; omega
    · have HT := Lib.hid (show l.take q = l.take 12 from by
        rcases Nat.lt_or_ge q 12 with h | h
        · rw [List.take_of_length_le (by omega), List.take_of_length_le (by omega)]
        · rw [show q = 12 by omega])
      by_cases hlt : q < l.length
      · have dl : decide ((q : Int) < (l.length : Int)) = true := by simpa using hlt
        have d12 : decide ((q : Int) < 12) = false := by simp; omega
        go_wp2_with fail
        go_ret
        exact ⟨_, rfl, by rw [← HT.out]; exact Hown.out, Hbl.out⟩
      · have dl : decide ((q : Int) < (l.length : Int)) = false := by simpa using hlt
        go_wp2_with fail
        go_ret
        exact ⟨_, rfl, by rw [← HT.out]; exact Hown.out, Hbl.out⟩
theorem put_mem {ob : Bool} {t : List InstV} {m x : InstV} (h : x ∈ putInstVL ob t m) : x ∈ t ∨ x = m := by
  unfold putInstVL at h
  split at h
  · unfold insInstV at h
    rcases List.mem_append.1 h with h | h
    · exact .inl ((List.takeWhile_sublist _).subset h)
    · rcases List.mem_cons.1 h with h | h
      · exact .inr h
      · exact .inl ((List.dropWhile_sublist _).subset h)
  · cases h
theorem tab_mem (okf : InstV → Bool) (l : List InstV) : ∀ k, ∀ x ∈ tabInstVN okf l k, x ∈ l
  | 0, x, h => by simp [tabInstVN] at h
  | k + 1, x, h => by
    rcases Nat.lt_or_ge k l.length with hk | hk
    · rw [tabInstVN_succ hk] at h
      unfold stepInstV at h
      split at h
      · rcases put_mem h with h | h
        · exact tab_mem okf l k x h
        · subst h; exact List.getElem_mem hk
      · exact tab_mem okf l k x h
    · have e : tabInstVN okf l (k + 1) = tabInstVN okf l k := by unfold tabInstVN; rw [List.take_of_length_le (by omega), List.take_of_length_le hk]
      rw [e] at h
      exact tab_mem okf l k x h
theorem next_mem {l : List InstV} {id p : Int} {x : InstV} (h : x ∈ nextL l id p) : ∃ y ∈ l, x.moves = y.moves := by
  unfold nextL at h
  split at h
  · obtain ⟨y, hy, rfl⟩ := List.mem_map.1 h
    refine ⟨y, hy, ?_⟩
    unfold nextOne
    split <;> rfl
  · cases h
end Go.Proofs.Ytpjehhkmdndcmaa
