/- Joined: Pur2. -/
import Derived.Test.YtalgfpegaobacaaGreatKz17
import Derived.Test.YtalgfpegaobacaaGreatKz8
import Derived.Test.YtalgfpegaobacaaGreatKz13
/- Purses: contract of the reference's Units. -/
namespace Go.Proofs.YtalgfpegaobacaaGreat
open Go.RowKit
theorem rd_dropU {w : World} {b o : Nat} {rows : List (List Value)} (h : Rd w (some ⟨b, o, none⟩) 2 rows) (k : Nat) : Rd w (some ⟨b, o + k * 2, none⟩) 2 (rows.drop k) := by
  intro i r hr
  rw [List.getElem?_drop] at hr
  obtain ⟨b', o', e, hb, hc⟩ := h (k + i) r hr
  injection e with e
  injection e with e1 e2 _
  subst e1 e2
  exact ⟨b, o + k * 2, rfl, hb, fun j v hv => by rw [show o + k * 2 + i * 2 + j = o + (k + i) * 2 + j from by omega]; exact hc j v hv⟩
theorem rd_dropU0 {w : World} {b : Nat} {rows : List (List Value)} (h : Rd w (some ⟨b, 0, none⟩) 2 rows) (k : Nat) : Rd w (some ⟨b, k * 2, none⟩) 2 (rows.drop k) := by
  have h1 := rd_dropU h k
  rwa [Nat.zero_add] at h1
theorem pl_in {o : List Un} {u : Un} (hs : SortU o) {k : Nat} (hk : k < o.length) : lessU o[k] u = decide (k < plU o u) := by
  by_cases h : k < plU o u
  · rw [pl_lt hk h, decide_eq_true h]
  · rw [pl_ge hs hk (by omega), decide_eq_false h]
set_option maxRecDepth 100000 in
set_option maxHeartbeats 32000000 in
theorem ref17Units (l : List Flow) (A : Option Addr) (c : Nat) (w : World) (hl : l.length ≤ 1000) (hr : Rd w A 3 (l.map encFlow)) :
    Calls Tryz.prog 32 #[.slice A l.length c] w fun e w' => ∃ B d, e = .returned (.slice B (unitsP l).length d) ∧ Rs w' 2 ((unitsP l).map encUn) B d ∧ Below w.heap.size w w' := by
  have HR := Lib.hid hr
  clear hr
  go_enter Tryz.func32, Tryz.ntmps32
  go_wp2_with fail
  go_loopw [3, 4] (fun v i wr => ∃ k : Nat, k ≤ l.length ∧ i = .int .i64 k ∧ Own wr w.heap.size 41 2 v ((unitsP (l.take k)).map encUn) ∧ Below w.heap.size w wr) (fun _ i _ => l.length - (intOf i).toNat)
  case atStart => exact ⟨0, Nat.zero_le _, rfl, Own.nil _ _ _ _, Below.refl _ _⟩
  case round =>
    obtain ⟨k, hk, rfl, hown, hbl⟩ := hrel
    have Hown := Lib.hid hown
    have Hbl := Lib.hid hbl
    have hz := hbl.size
    by_cases hlt : k < l.length
    · have kl : (k : Int) < (l.length : Int) := by omega
      have dl : decide ((k : Int) < (l.length : Int)) = true := by simpa using hlt
      obtain ⟨b, o, rfl, hb, hc⟩ := HR.out k (encFlow l[k]) (by simp [hlt])
      have e0 := (Hbl.out.cell (p := ⟨b, o + k * 3 + 0, none⟩) hb).trans (hc 0 _ rfl)
      have e1 := (Hbl.out.cell (p := ⟨b, o + k * 3 + 1, none⟩) hb).trans (hc 1 _ rfl)
      have e2 := (Hbl.out.cell (p := ⟨b, o + k * 3 + 2, none⟩) hb).trans (hc 2 _ rfl)
      simp only [Nat.add_zero] at e0
      clear hc
      have hbw : b < wr.heap.size := by omega
      obtain ⟨hs, hol, _⟩ := unitsP_facts l k hk
      have HSN := Lib.hid (unitsP_snoc hlt)
      obtain ⟨A2, c2, hv2, hrs2, hfm2⟩ := hown.rs
      rw [List.length_map] at hv2
      subst hv2
      generalize l[k].unit = u at *
      generalize l[k].amount = am at *
      generalize unitsP (l.take k) = us at *
      have HS := Lib.hid hs
      have H2 := Lib.hid hrs2
      have HFM := Lib.hid hfm2
      have hpl := plU_le us u
      have usl : us.length ≤ 1000 := by omega
      clear hown hbl hs hrs2 hfm2
      go_wp2_with fail
      have hwz : (wr.alloc (.cells #[.int .i64 u.acc, .int .i64 u.cli] 41)).heap.size = wr.heap.size + 1 := by simp
      have u0 : (wr.alloc (.cells #[.int .i64 u.acc, .int .i64 u.cli] 41)).cell? ⟨wr.heap.size, 0, none⟩ = some (.int .i64 u.acc) := by simp [go_sem]
      have u1 : (wr.alloc (.cells #[.int .i64 u.acc, .int .i64 u.cli] 41)).cell? ⟨wr.heap.size, 1, none⟩ = some (.int .i64 u.cli) := by simp [go_sem]
      have hwo : Below wr.heap.size wr (wr.alloc (.cells #[.int .i64 u.acc, .int .i64 u.cli] 41)) := by (repeat' (first | (with_reducible exact Below.refl _ _) | (with_reducible assumption) | (with_reducible refine Below.alloc ?_ ?_ _) | (with_reducible refine Below.setCell ?_ ?_ _) | (with_reducible refine Below.drew ?_) | (with_reducible refine below_drewN ?_ _) | (with_reducible refine below_via ?_ (by with_reducible assumption) ?_) | omega | (simp; done) | (simp; omega)))
      have HU := Lib.hid (And.intro u0 u1)
      have Hwo := Lib.hid hwo
      clear u0 u1 hwo
      generalize hwoe : wr.alloc (.cells #[.int .i64 u.acc, .int .i64 u.cli] 41) = wo at *
      have hgw : wr.heap.size < wo.heap.size := by omega
      have HB0 := Lib.hid (Hbl.out.trans (Hwo.out.mono hz))
      clear hwoe hwz e0 e1 e2 hbw hb
      generalize hgue : wr.heap.size = gu at *
      have hgu := Nat.le_of_eq hgue
      clear hgue
      go_loopw [6, 7, 8] (fun p th j w2 => ∃ q : Nat, q ≤ us.length ∧ j = .int .i64 q ∧ p = .int .i64 ((min q (plU us u) : Nat) : Int) ∧ th = .bool (decide (u ∈ us.take q)) ∧ Below wo.heap.size wo w2) (fun _ _ j _ => us.length - (intOf j).toNat)
      case atStart => exact ⟨0, Nat.zero_le _, rfl, by simp, by simp, Below.refl _ _⟩
      case round =>
        obtain ⟨q, hq, rfl, rfl, rfl, hbi⟩ := hrel
        have HBI := Lib.hid hbi
        have hzi := hbi.size
        have HW2 := Lib.hid (show Below gu _ wr from Hwo.out.trans (hbi.mono (by omega)))
        have HWW := Lib.hid (HB0.out.trans (hbi.mono (by omega)))
        have g0 := (hbi.cell (p := ⟨gu, 0, none⟩) hgw).trans HU.out.1
        have g1 := (hbi.cell (p := ⟨gu, 1, none⟩) hgw).trans HU.out.2
        have hgr : gu < wr.heap.size := by omega
        clear hbi
        by_cases hq2 : q < us.length
        · have kq : (q : Int) < (us.length : Int) := by omega
          have dq : decide ((q : Int) < (us.length : Int)) = true := by simpa using hq2
          obtain ⟨b2, o2, rfl, hb2, hc2⟩ := H2.out.rd q (encUn us[q]) (by simp [hq2])
          have f0 := (HW2.out.cell (p := ⟨b2, o2 + q * 2 + 0, none⟩) (by simp; omega)).trans (hc2 0 _ rfl)
          have f1 := (HW2.out.cell (p := ⟨b2, o2 + q * 2 + 1, none⟩) (by simp; omega)).trans (hc2 1 _ rfl)
          simp only [Nat.add_zero] at f0
          clear hc2
          have hb2w : b2 < wr.heap.size := by omega
          have htk : ∀ v, v ∈ us.take (q + 1) ↔ v ∈ us.take q ∨ v = us[q] := fun v => by rw [List.take_succ_eq_append_getElem hq2, List.mem_append, List.mem_singleton]
          cases hth : decide (u ∈ us.take q)
          · have hnt := of_decide_eq_false hth
            rcases un_tF (x := us[q]) (u := u) with h | h
            · have HTH := Lib.hid (show decide (u ∈ us.take (q + 1)) = true from decide_eq_true ((htk u).2 (.inr h.symm)))
              have CO := Lib.hid (fun W => (lessU_irr u) ▸ ref15Less u u W)
              have hge : plU us u ≤ q := by
                have h1 := pl_in HS.out hq2 (u := u)
                rw [h, lessU_irr] at h1
                have := of_decide_eq_false h1.symm
                omega
              have HMN := Lib.hid (show min (q + 1) (plU us u) = min q (plU us u) by omega)
              rw [h] at f0 f1
              clear h htk hnt hth hge
              go_wp2_with fail
              go_quiet (fail)
              go_wp2_with fail
              go_region_held3 (fun w' => (w'.cell? ⟨b2, o2 + q * 2, none⟩ = some (.int .i64 u.acc) ∧ w'.cell? ⟨b2, o2 + q * 2 + 1, none⟩ = some (.int .i64 u.cli)) ∧ w'.cell? ⟨gu, 0, none⟩ = some (.int .i64 u.acc) ∧ w'.cell? ⟨gu, 1, none⟩ = some (.int .i64 u.cli)) (first | (simp [go_sem]; done) | (repeat' (first | (with_reducible assumption) | (with_reducible refine And.intro ?_ ?_) | (with_reducible refine cell_drew ?_) | (with_reducible refine cell_via (by with_reducible assumption) ?_ ?_) | (simp [*]; done) | (simp [go_sem]; done) | (with_reducible refine cell_alloc ?_ ?_) | (with_reducible refine cell_set_far ?_ ?_) | omega | (simp; omega)))) (first | (go_at_call 58; (with_reducible refine (CO.out _).mono ?_); rintro e w4 ⟨rfl, hb4⟩; obtain ⟨fc4, fg4, hc4, hf4, hz4⟩ := bget hb4; (try simp at hz4)) | fail)
              go_wp2_with fail
              go_roundw
              case rel => exact ⟨q + 1, by omega, by go_num, by rw [HMN.out], by rw [HTH.out], by have h2 := HBI.out; (repeat' (first | (with_reducible exact Below.refl _ _) | (with_reducible assumption) | (with_reducible refine Below.alloc ?_ ?_ _) | (with_reducible refine Below.setCell ?_ ?_ _) | (with_reducible refine Below.drew ?_) | (with_reducible refine below_drewN ?_ _) | (with_reducible refine below_via ?_ (by with_reducible assumption) ?_) | omega | (simp; done) | (simp; omega)))⟩
              case measure => simp [intOf]; omega
            · have HTH := Lib.hid (show decide (u ∈ us.take (q + 1)) = false from decide_eq_false fun h1 => ((htk u).1 h1).elim hnt (fun e => un_dF h e.symm))
              clear htk hnt hth
              rcases h with h | h
              · cases hlo : decide (q < plU us u)
                · have CO := Lib.hid (fun W => (pl_in HS.out hq2).trans hlo ▸ ref15Less us[q] u W)
                  have hge := of_decide_eq_false hlo
                  have HMN := Lib.hid (show min (q + 1) (plU us u) = min q (plU us u) by omega)
                  clear hlo
                  go_wp2_with fail
                  go_quiet (fail)
                  go_wp2_with fail
                  go_region_held3 (fun w' => (w'.cell? ⟨b2, o2 + q * 2, none⟩ = some (.int .i64 us[q].acc) ∧ w'.cell? ⟨b2, o2 + q * 2 + 1, none⟩ = some (.int .i64 us[q].cli)) ∧ w'.cell? ⟨gu, 0, none⟩ = some (.int .i64 u.acc) ∧ w'.cell? ⟨gu, 1, none⟩ = some (.int .i64 u.cli)) (first | (simp [go_sem]; done) | (repeat' (first | (with_reducible assumption) | (with_reducible refine And.intro ?_ ?_) | (with_reducible refine cell_drew ?_) | (with_reducible refine cell_via (by with_reducible assumption) ?_ ?_) | (simp [*]; done) | (simp [go_sem]; done) | (with_reducible refine cell_alloc ?_ ?_) | (with_reducible refine cell_set_far ?_ ?_) | omega | (simp; omega)))) (first | (go_at_call 58; (with_reducible refine (CO.out _).mono ?_); rintro e w4 ⟨rfl, hb4⟩; obtain ⟨fc4, fg4, hc4, hf4, hz4⟩ := bget hb4; (try simp at hz4)) | fail)
                  go_wp2_with fail
                  go_roundw
                  case rel => exact ⟨q + 1, by omega, by go_num, by rw [HMN.out], by rw [HTH.out], by have h2 := HBI.out; (repeat' (first | (with_reducible exact Below.refl _ _) | (with_reducible assumption) | (with_reducible refine Below.alloc ?_ ?_ _) | (with_reducible refine Below.setCell ?_ ?_ _) | (with_reducible refine Below.drew ?_) | (with_reducible refine below_drewN ?_ _) | (with_reducible refine below_via ?_ (by with_reducible assumption) ?_) | omega | (simp; done) | (simp; omega)))⟩
                  case measure => simp [intOf]; omega
                · have CO := Lib.hid (fun W => (pl_in HS.out hq2).trans hlo ▸ ref15Less us[q] u W)
                  have hge := of_decide_eq_true hlo
                  have HMN := Lib.hid (show min (q + 1) (plU us u) = q + 1 by omega)
                  clear hlo
                  go_wp2_with fail
                  go_quiet (fail)
                  go_wp2_with fail
                  go_region_held3 (fun w' => (w'.cell? ⟨b2, o2 + q * 2, none⟩ = some (.int .i64 us[q].acc) ∧ w'.cell? ⟨b2, o2 + q * 2 + 1, none⟩ = some (.int .i64 us[q].cli)) ∧ w'.cell? ⟨gu, 0, none⟩ = some (.int .i64 u.acc) ∧ w'.cell? ⟨gu, 1, none⟩ = some (.int .i64 u.cli)) (first | (simp [go_sem]; done) | (repeat' (first | (with_reducible assumption) | (with_reducible refine And.intro ?_ ?_) | (with_reducible refine cell_drew ?_) | (with_reducible refine cell_via (by with_reducible assumption) ?_ ?_) | (simp [*]; done) | (simp [go_sem]; done) | (with_reducible refine cell_alloc ?_ ?_) | (with_reducible refine cell_set_far ?_ ?_) | omega | (simp; omega)))) (first | (go_at_call 58; (with_reducible refine (CO.out _).mono ?_); rintro e w4 ⟨rfl, hb4⟩; obtain ⟨fc4, fg4, hc4, hf4, hz4⟩ := bget hb4; (try simp at hz4)) | fail)
                  go_wp2_with fail
                  go_roundw
                  case rel => exact ⟨q + 1, by omega, by go_num, by rw [HMN.out]; go_num, by rw [HTH.out], by have h2 := HBI.out; (repeat' (first | (with_reducible exact Below.refl _ _) | (with_reducible assumption) | (with_reducible refine Below.alloc ?_ ?_ _) | (with_reducible refine Below.setCell ?_ ?_ _) | (with_reducible refine Below.drew ?_) | (with_reducible refine below_drewN ?_ _) | (with_reducible refine below_via ?_ (by with_reducible assumption) ?_) | omega | (simp; done) | (simp; omega)))⟩
                  case measure => simp [intOf]; omega
              · cases hlo : decide (q < plU us u)
                · have CO := Lib.hid (fun W => (pl_in HS.out hq2).trans hlo ▸ ref15Less us[q] u W)
                  have hge := of_decide_eq_false hlo
                  have HMN := Lib.hid (show min (q + 1) (plU us u) = min q (plU us u) by omega)
                  clear hlo
                  go_wp2_with fail
                  go_quiet (fail)
                  go_wp2_with fail
                  go_region_held3 (fun w' => (w'.cell? ⟨b2, o2 + q * 2, none⟩ = some (.int .i64 us[q].acc) ∧ w'.cell? ⟨b2, o2 + q * 2 + 1, none⟩ = some (.int .i64 us[q].cli)) ∧ w'.cell? ⟨gu, 0, none⟩ = some (.int .i64 u.acc) ∧ w'.cell? ⟨gu, 1, none⟩ = some (.int .i64 u.cli)) (first | (simp [go_sem]; done) | (repeat' (first | (with_reducible assumption) | (with_reducible refine And.intro ?_ ?_) | (with_reducible refine cell_drew ?_) | (with_reducible refine cell_via (by with_reducible assumption) ?_ ?_) | (simp [*]; done) | (simp [go_sem]; done) | (with_reducible refine cell_alloc ?_ ?_) | (with_reducible refine cell_set_far ?_ ?_) | omega | (simp; omega)))) (first | (go_at_call 58; (with_reducible refine (CO.out _).mono ?_); rintro e w4 ⟨rfl, hb4⟩; obtain ⟨fc4, fg4, hc4, hf4, hz4⟩ := bget hb4; (try simp at hz4)) | fail)
                  go_wp2_with fail
                  go_roundw
                  case rel => exact ⟨q + 1, by omega, by go_num, by rw [HMN.out], by rw [HTH.out], by have h2 := HBI.out; (repeat' (first | (with_reducible exact Below.refl _ _) | (with_reducible assumption) | (with_reducible refine Below.alloc ?_ ?_ _) | (with_reducible refine Below.setCell ?_ ?_ _) | (with_reducible refine Below.drew ?_) | (with_reducible refine below_drewN ?_ _) | (with_reducible refine below_via ?_ (by with_reducible assumption) ?_) | omega | (simp; done) | (simp; omega)))⟩
                  case measure => simp [intOf]; omega
                · have CO := Lib.hid (fun W => (pl_in HS.out hq2).trans hlo ▸ ref15Less us[q] u W)
                  have hge := of_decide_eq_true hlo
                  have HMN := Lib.hid (show min (q + 1) (plU us u) = q + 1 by omega)
                  clear hlo
                  go_wp2_with fail
                  go_quiet (fail)
                  go_wp2_with fail
                  go_region_held3 (fun w' => (w'.cell? ⟨b2, o2 + q * 2, none⟩ = some (.int .i64 us[q].acc) ∧ w'.cell? ⟨b2, o2 + q * 2 + 1, none⟩ = some (.int .i64 us[q].cli)) ∧ w'.cell? ⟨gu, 0, none⟩ = some (.int .i64 u.acc) ∧ w'.cell? ⟨gu, 1, none⟩ = some (.int .i64 u.cli)) (first | (simp [go_sem]; done) | (repeat' (first | (with_reducible assumption) | (with_reducible refine And.intro ?_ ?_) | (with_reducible refine cell_drew ?_) | (with_reducible refine cell_via (by with_reducible assumption) ?_ ?_) | (simp [*]; done) | (simp [go_sem]; done) | (with_reducible refine cell_alloc ?_ ?_) | (with_reducible refine cell_set_far ?_ ?_) | omega | (simp; omega)))) (first | (go_at_call 58; (with_reducible refine (CO.out _).mono ?_); rintro e w4 ⟨rfl, hb4⟩; obtain ⟨fc4, fg4, hc4, hf4, hz4⟩ := bget hb4; (try simp at hz4)) | fail)
                  go_wp2_with fail
                  go_roundw
                  case rel => exact ⟨q + 1, by omega, by go_num, by rw [HMN.out]; go_num, by rw [HTH.out], by have h2 := HBI.out; (repeat' (first | (with_reducible exact Below.refl _ _) | (with_reducible assumption) | (with_reducible refine Below.alloc ?_ ?_ _) | (with_reducible refine Below.setCell ?_ ?_ _) | (with_reducible refine Below.drew ?_) | (with_reducible refine below_drewN ?_ _) | (with_reducible refine below_via ?_ (by with_reducible assumption) ?_) | omega | (simp; done) | (simp; omega)))⟩
                  case measure => simp [intOf]; omega
          · have HTH := Lib.hid (show decide (u ∈ us.take (q + 1)) = true from decide_eq_true ((htk u).2 (.inl (of_decide_eq_true hth))))
            clear htk hth
            cases hlo : decide (q < plU us u)
            · have CO := Lib.hid (fun W => (pl_in HS.out hq2).trans hlo ▸ ref15Less us[q] u W)
              have hge := of_decide_eq_false hlo
              have HMN := Lib.hid (show min (q + 1) (plU us u) = min q (plU us u) by omega)
              clear hlo
              go_wp2_with fail
              go_quiet (fail)
              go_wp2_with fail
              go_region_held3 (fun w' => (w'.cell? ⟨b2, o2 + q * 2, none⟩ = some (.int .i64 us[q].acc) ∧ w'.cell? ⟨b2, o2 + q * 2 + 1, none⟩ = some (.int .i64 us[q].cli)) ∧ w'.cell? ⟨gu, 0, none⟩ = some (.int .i64 u.acc) ∧ w'.cell? ⟨gu, 1, none⟩ = some (.int .i64 u.cli)) (first | (simp [go_sem]; done) | (repeat' (first | (with_reducible assumption) | (with_reducible refine And.intro ?_ ?_) | (with_reducible refine cell_drew ?_) | (with_reducible refine cell_via (by with_reducible assumption) ?_ ?_) | (simp [*]; done) | (simp [go_sem]; done) | (with_reducible refine cell_alloc ?_ ?_) | (with_reducible refine cell_set_far ?_ ?_) | omega | (simp; omega)))) (first | (go_at_call 58; (with_reducible refine (CO.out _).mono ?_); rintro e w4 ⟨rfl, hb4⟩; obtain ⟨fc4, fg4, hc4, hf4, hz4⟩ := bget hb4; (try simp at hz4)) | fail)
              go_wp2_with fail
              go_roundw
              case rel => exact ⟨q + 1, by omega, by go_num, by rw [HMN.out], by rw [HTH.out], by have h2 := HBI.out; (repeat' (first | (with_reducible exact Below.refl _ _) | (with_reducible assumption) | (with_reducible refine Below.alloc ?_ ?_ _) | (with_reducible refine Below.setCell ?_ ?_ _) | (with_reducible refine Below.drew ?_) | (with_reducible refine below_drewN ?_ _) | (with_reducible refine below_via ?_ (by with_reducible assumption) ?_) | omega | (simp; done) | (simp; omega)))⟩
              case measure => simp [intOf]; omega
            · have CO := Lib.hid (fun W => (pl_in HS.out hq2).trans hlo ▸ ref15Less us[q] u W)
              have hge := of_decide_eq_true hlo
              have HMN := Lib.hid (show min (q + 1) (plU us u) = q + 1 by omega)
              clear hlo
              go_wp2_with fail
              go_quiet (fail)
              go_wp2_with fail
              go_region_held3 (fun w' => (w'.cell? ⟨b2, o2 + q * 2, none⟩ = some (.int .i64 us[q].acc) ∧ w'.cell? ⟨b2, o2 + q * 2 + 1, none⟩ = some (.int .i64 us[q].cli)) ∧ w'.cell? ⟨gu, 0, none⟩ = some (.int .i64 u.acc) ∧ w'.cell? ⟨gu, 1, none⟩ = some (.int .i64 u.cli)) (first | (simp [go_sem]; done) | (repeat' (first | (with_reducible assumption) | (with_reducible refine And.intro ?_ ?_) | (with_reducible refine cell_drew ?_) | (with_reducible refine cell_via (by with_reducible assumption) ?_ ?_) | (simp [*]; done) | (simp [go_sem]; done) | (with_reducible refine cell_alloc ?_ ?_) | (with_reducible refine cell_set_far ?_ ?_) | omega | (simp; omega)))) (first | (go_at_call 58; (with_reducible refine (CO.out _).mono ?_); rintro e w4 ⟨rfl, hb4⟩; obtain ⟨fc4, fg4, hc4, hf4, hz4⟩ := bget hb4; (try simp at hz4)) | fail)
              go_wp2_with fail
              go_roundw
              case rel => exact ⟨q + 1, by omega, by go_num, by rw [HMN.out]; go_num, by rw [HTH.out], by have h2 := HBI.out; (repeat' (first | (with_reducible exact Below.refl _ _) | (with_reducible assumption) | (with_reducible refine Below.alloc ?_ ?_ _) | (with_reducible refine Below.setCell ?_ ?_ _) | (with_reducible refine Below.drew ?_) | (with_reducible refine below_drewN ?_ _) | (with_reducible refine below_via ?_ (by with_reducible assumption) ?_) | omega | (simp; done) | (simp; omega)))⟩
              case measure => simp [intOf]; omega
        · have dq : decide ((q : Int) < (us.length : Int)) = false := by simpa using hq2
          have hqe : us.take q = us := List.take_of_length_le (by omega)
          have HMN := Lib.hid (show min q (plU us u) = plU us u by omega)
          rw [hqe, HMN.out]
          clear hqe
          by_cases hm : u ∈ us
          · have hd := decide_eq_true hm
            have HI := Lib.hid (show insU us u = us from by unfold insU; rw [if_pos hm])
            rw [hd]
            clear hm hd
            go_wp2_with fail
            go_roundw
            case rel => exact ⟨k + 1, by omega, by go_num, by rw [HSN.out, HI.out]; exact Hown.out.keep (HW2.out.mono hgu), HWW.out⟩
            case measure => simp [intOf]; omega
          · have hd := decide_eq_false hm
            have HI := Lib.hid (show (insU us u).map encUn = (us.take (plU us u)).map encUn ++ [encUn u] ++ (us.drop (plU us u)).map encUn from by unfold insU; rw [if_neg hm, List.map_append, List.map_cons]; simp)
            rw [hd]
            have hlc := H2.out.cap
            have hcm := H2.out.room
            rw [List.length_map] at hlc
            unfold maxLen at hcm
            have hpi : ((plU us u : Nat) : Int) ≤ (us.length : Int) := by omega
            clear hm hd
            rcases HFM.out with ⟨ha, hb, hc0⟩ | ⟨b2, hb2, hb2a, hb2b⟩
            · have hus : us = [] := List.map_eq_nil_iff.1 hb
              subst ha hc0 hus
              clear hb
              go_wp2_with (first | (at_builtin; refine wpList_app rfl _ _ _ rfl elUn wr.heap.size _ [] rfl (Own.nil _ _ _ _) none 0 0 rfl [] rfl (fun _ => rfl) (fun i r h => by simp at h) (fun r h => by simp at h) (by unfold maxLen; simp) (by simp) (by first | omega | (simp; done) | (simp; omega)) ?_; intro v5 w5 hown5 hb5; obtain ⟨fc5, fg5, hc5, hf5, hz5⟩ := bget hb5; (try simp at hz5)) | (at_builtin; refine wpList_app rfl _ _ _ rfl elUn wr.heap.size _ _ rfl (hown5.keep (by (repeat' (first | (with_reducible exact Below.refl _ _) | (with_reducible assumption) | (with_reducible refine Below.alloc ?_ ?_ _) | (with_reducible refine Below.setCell ?_ ?_ _) | (with_reducible refine Below.drew ?_) | (with_reducible refine below_drewN ?_ _) | (with_reducible refine below_via ?_ (by with_reducible assumption) ?_) | omega | (simp; done) | (simp; omega))))) (some ⟨_, 0, none⟩) 1 1 rfl [encUn u] rfl (fun h => by cases h) (rd_oneN (by simp)) (rowsUn [u]) (by unfold maxLen; simp) (by simp) (by first | omega | (simp; done) | (simp; omega)) ?_; intro v6 w6 hown6 hb6; obtain ⟨fc6, fg6, hc6, hf6, hz6⟩ := bget hb6; (try simp at hz6)) | (at_builtin; refine wpList_app rfl _ _ _ rfl elUn wr.heap.size _ _ rfl (hown6.keep (by (repeat' (first | (with_reducible exact Below.refl _ _) | (with_reducible assumption) | (with_reducible refine Below.alloc ?_ ?_ _) | (with_reducible refine Below.setCell ?_ ?_ _) | (with_reducible refine Below.drew ?_) | (with_reducible refine below_drewN ?_ _) | (with_reducible refine below_via ?_ (by with_reducible assumption) ?_) | omega | (simp; done) | (simp; omega))))) none 0 0 rfl [] rfl (fun _ => rfl) (fun i r h => by simp at h) (fun r h => by simp at h) (by unfold maxLen; simp) (by simp) (by first | omega | (simp; done) | (simp; omega)) ?_; intro v7 w7 hown7 hb7; obtain ⟨fc7, fg7, hc7, hf7, hz7⟩ := bget hb7; (try simp at hz7)) | fail)
              go_roundw
              case rel => exact ⟨k + 1, by omega, by go_num, by rw [HSN.out, HI.out]; simpa using hown7.mono (by omega), by have h1 := HWW.out; (repeat' (first | (with_reducible exact Below.refl _ _) | (with_reducible assumption) | (with_reducible refine Below.alloc ?_ ?_ _) | (with_reducible refine Below.setCell ?_ ?_ _) | (with_reducible refine Below.drew ?_) | (with_reducible refine below_drewN ?_ _) | (with_reducible refine below_via ?_ (by with_reducible assumption) ?_) | omega | (simp; done) | (simp; omega)))⟩
              case measure => simp [intOf]; omega
            · subst hb2
              have hpc : ((plU us u : Nat) : Int) ≤ (c2 : Int) := by omega
              by_cases hcp : c2 = plU us u
              · go_wp2_with (first | (at_builtin; refine wpList_app rfl _ _ _ rfl elUn wr.heap.size _ [] rfl (Own.nil _ _ _ _) (some ⟨b2, 0, none⟩) (plU us u) _ rfl ((us.take (plU us u)).map encUn) (by simp; omega) (fun h => by cases h) (by rw [List.map_take]; exact rd_take' (H2.out.rd.keep (by have h2 := HW2.out; (repeat' (first | (with_reducible exact Below.refl _ _) | (with_reducible assumption) | (with_reducible refine Below.alloc ?_ ?_ _) | (with_reducible refine Below.setCell ?_ ?_ _) | (with_reducible refine Below.drew ?_) | (with_reducible refine below_drewN ?_ _) | (with_reducible refine below_via ?_ (by with_reducible assumption) ?_) | omega | (simp; done) | (simp; omega))))) _) (rowsUn _) (by unfold maxLen; simp; omega) (by simp; omega) (by first | omega | (simp; done) | (simp; omega)) ?_; intro v5 w5 hown5 hb5; obtain ⟨fc5, fg5, hc5, hf5, hz5⟩ := bget hb5; (try simp at hz5)) | (at_builtin; refine wpList_app rfl _ _ _ rfl elUn wr.heap.size _ _ rfl (hown5.keep (by (repeat' (first | (with_reducible exact Below.refl _ _) | (with_reducible assumption) | (with_reducible refine Below.alloc ?_ ?_ _) | (with_reducible refine Below.setCell ?_ ?_ _) | (with_reducible refine Below.drew ?_) | (with_reducible refine below_drewN ?_ _) | (with_reducible refine below_via ?_ (by with_reducible assumption) ?_) | omega | (simp; done) | (simp; omega))))) (some ⟨_, 0, none⟩) 1 1 rfl [encUn u] rfl (fun h => by cases h) (rd_oneN (by simp)) (rowsUn [u]) (by unfold maxLen; simp; omega) (by simp; omega) (by first | omega | (simp; done) | (simp; omega)) ?_; intro v6 w6 hown6 hb6; obtain ⟨fc6, fg6, hc6, hf6, hz6⟩ := bget hb6; (try simp at hz6)) | (at_builtin; refine wpList_app rfl _ _ _ rfl elUn wr.heap.size _ _ rfl (hown6.keep (by (repeat' (first | (with_reducible exact Below.refl _ _) | (with_reducible assumption) | (with_reducible refine Below.alloc ?_ ?_ _) | (with_reducible refine Below.setCell ?_ ?_ _) | (with_reducible refine Below.drew ?_) | (with_reducible refine below_drewN ?_ _) | (with_reducible refine below_via ?_ (by with_reducible assumption) ?_) | omega | (simp; done) | (simp; omega))))) (some ⟨b2, plU us u * 2, none⟩) (us.length - plU us u) _ rfl ((us.drop (plU us u)).map encUn) (by simp) (fun h => by cases h) (by rw [List.map_drop]; exact rd_dropU0 (H2.out.rd.keep (by have h2 := HW2.out; (repeat' (first | (with_reducible exact Below.refl _ _) | (with_reducible assumption) | (with_reducible refine Below.alloc ?_ ?_ _) | (with_reducible refine Below.setCell ?_ ?_ _) | (with_reducible refine Below.drew ?_) | (with_reducible refine below_drewN ?_ _) | (with_reducible refine below_via ?_ (by with_reducible assumption) ?_) | omega | (simp; done) | (simp; omega))))) _) (rowsUn _) (by unfold maxLen; simp; omega) (by simp; omega) (by first | omega | (simp; done) | (simp; omega)) ?_; intro v7 w7 hown7 hb7; obtain ⟨fc7, fg7, hc7, hf7, hz7⟩ := bget hb7; (try simp at hz7)) | (at_builtin; refine wpList_app rfl _ _ _ rfl elUn wr.heap.size _ _ rfl (hown6.keep (by (repeat' (first | (with_reducible exact Below.refl _ _) | (with_reducible assumption) | (with_reducible refine Below.alloc ?_ ?_ _) | (with_reducible refine Below.setCell ?_ ?_ _) | (with_reducible refine Below.drew ?_) | (with_reducible refine below_drewN ?_ _) | (with_reducible refine below_via ?_ (by with_reducible assumption) ?_) | omega | (simp; done) | (simp; omega))))) (some ⟨b2, 0, none⟩) _ _ rfl ((us.drop (plU us u)).map encUn) (by simp <;> omega) (fun h => by cases h) (by rw [List.drop_eq_nil_of_le (by omega)]; exact fun i r h => by simp at h) (rowsUn _) (by unfold maxLen; simp <;> omega) (by simp <;> omega) (by first | omega | (simp; done) | (simp; omega)) ?_; intro v7 w7 hown7 hb7; obtain ⟨fc7, fg7, hc7, hf7, hz7⟩ := bget hb7; (try simp at hz7)) | fail)
                go_roundw
                case rel => exact ⟨k + 1, by omega, by go_num, by rw [HSN.out, HI.out]; exact hown7.mono (by omega), by have h1 := HWW.out; (repeat' (first | (with_reducible exact Below.refl _ _) | (with_reducible assumption) | (with_reducible refine Below.alloc ?_ ?_ _) | (with_reducible refine Below.setCell ?_ ?_ _) | (with_reducible refine Below.drew ?_) | (with_reducible refine below_drewN ?_ _) | (with_reducible refine below_via ?_ (by with_reducible assumption) ?_) | omega | (simp; done) | (simp; omega)))⟩
                case measure => simp [intOf]; omega
              · go_wp2_with (first | (at_builtin; refine wpList_app rfl _ _ _ rfl elUn wr.heap.size _ [] rfl (Own.nil _ _ _ _) (some ⟨b2, 0, none⟩) (plU us u) _ rfl ((us.take (plU us u)).map encUn) (by simp; omega) (fun h => by cases h) (by rw [List.map_take]; exact rd_take' (H2.out.rd.keep (by have h2 := HW2.out; (repeat' (first | (with_reducible exact Below.refl _ _) | (with_reducible assumption) | (with_reducible refine Below.alloc ?_ ?_ _) | (with_reducible refine Below.setCell ?_ ?_ _) | (with_reducible refine Below.drew ?_) | (with_reducible refine below_drewN ?_ _) | (with_reducible refine below_via ?_ (by with_reducible assumption) ?_) | omega | (simp; done) | (simp; omega))))) _) (rowsUn _) (by unfold maxLen; simp; omega) (by simp; omega) (by first | omega | (simp; done) | (simp; omega)) ?_; intro v5 w5 hown5 hb5; obtain ⟨fc5, fg5, hc5, hf5, hz5⟩ := bget hb5; (try simp at hz5)) | (at_builtin; refine wpList_app rfl _ _ _ rfl elUn wr.heap.size _ _ rfl (hown5.keep (by (repeat' (first | (with_reducible exact Below.refl _ _) | (with_reducible assumption) | (with_reducible refine Below.alloc ?_ ?_ _) | (with_reducible refine Below.setCell ?_ ?_ _) | (with_reducible refine Below.drew ?_) | (with_reducible refine below_drewN ?_ _) | (with_reducible refine below_via ?_ (by with_reducible assumption) ?_) | omega | (simp; done) | (simp; omega))))) (some ⟨_, 0, none⟩) 1 1 rfl [encUn u] rfl (fun h => by cases h) (rd_oneN (by simp)) (rowsUn [u]) (by unfold maxLen; simp; omega) (by simp; omega) (by first | omega | (simp; done) | (simp; omega)) ?_; intro v6 w6 hown6 hb6; obtain ⟨fc6, fg6, hc6, hf6, hz6⟩ := bget hb6; (try simp at hz6)) | (at_builtin; refine wpList_app rfl _ _ _ rfl elUn wr.heap.size _ _ rfl (hown6.keep (by (repeat' (first | (with_reducible exact Below.refl _ _) | (with_reducible assumption) | (with_reducible refine Below.alloc ?_ ?_ _) | (with_reducible refine Below.setCell ?_ ?_ _) | (with_reducible refine Below.drew ?_) | (with_reducible refine below_drewN ?_ _) | (with_reducible refine below_via ?_ (by with_reducible assumption) ?_) | omega | (simp; done) | (simp; omega))))) (some ⟨b2, plU us u * 2, none⟩) (us.length - plU us u) _ rfl ((us.drop (plU us u)).map encUn) (by simp) (fun h => by cases h) (by rw [List.map_drop]; exact rd_dropU0 (H2.out.rd.keep (by have h2 := HW2.out; (repeat' (first | (with_reducible exact Below.refl _ _) | (with_reducible assumption) | (with_reducible refine Below.alloc ?_ ?_ _) | (with_reducible refine Below.setCell ?_ ?_ _) | (with_reducible refine Below.drew ?_) | (with_reducible refine below_drewN ?_ _) | (with_reducible refine below_via ?_ (by with_reducible assumption) ?_) | omega | (simp; done) | (simp; omega))))) _) (rowsUn _) (by unfold maxLen; simp; omega) (by simp; omega) (by first | omega | (simp; done) | (simp; omega)) ?_; intro v7 w7 hown7 hb7; obtain ⟨fc7, fg7, hc7, hf7, hz7⟩ := bget hb7; (try simp at hz7)) | (at_builtin; refine wpList_app rfl _ _ _ rfl elUn wr.heap.size _ _ rfl (hown6.keep (by (repeat' (first | (with_reducible exact Below.refl _ _) | (with_reducible assumption) | (with_reducible refine Below.alloc ?_ ?_ _) | (with_reducible refine Below.setCell ?_ ?_ _) | (with_reducible refine Below.drew ?_) | (with_reducible refine below_drewN ?_ _) | (with_reducible refine below_via ?_ (by with_reducible assumption) ?_) | omega | (simp; done) | (simp; omega))))) (some ⟨b2, 0, none⟩) _ _ rfl ((us.drop (plU us u)).map encUn) (by simp <;> omega) (fun h => by cases h) (by rw [List.drop_eq_nil_of_le (by omega)]; exact fun i r h => by simp at h) (rowsUn _) (by unfold maxLen; simp <;> omega) (by simp <;> omega) (by first | omega | (simp; done) | (simp; omega)) ?_; intro v7 w7 hown7 hb7; obtain ⟨fc7, fg7, hc7, hf7, hz7⟩ := bget hb7; (try simp at hz7)) | fail)
                go_roundw
                case rel => exact ⟨k + 1, by omega, by go_num, by rw [HSN.out, HI.out]; exact hown7.mono (by omega), by have h1 := HWW.out; (repeat' (first | (with_reducible exact Below.refl _ _) | (with_reducible assumption) | (with_reducible refine Below.alloc ?_ ?_ _) | (with_reducible refine Below.setCell ?_ ?_ _) | (with_reducible refine Below.drew ?_) | (with_reducible refine below_drewN ?_ _) | (with_reducible refine below_via ?_ (by with_reducible assumption) ?_) | omega | (simp; done) | (simp; omega)))⟩
                case measure => simp [intOf]; omega
    · have dl : decide ((k : Int) < (l.length : Int)) = false := by simpa using hlt
      have ho := Hown.out
      rw [List.take_of_length_le (show l.length ≤ k by omega)] at ho
      obtain ⟨A2, c2, hv2, hrs2, _⟩ := ho.rs
      rw [List.length_map] at hv2
      subst hv2
      have H2 := Lib.hid hrs2
      clear ho hown hrs2
      go_wp2_with fail
      go_ret
      exact ⟨_, _, rfl, H2.out, Hbl.out⟩
end Go.Proofs.YtalgfpegaobacaaGreat
