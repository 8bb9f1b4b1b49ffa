/- Joined: Ref26. -/
import Derived.Test.YtalgfpegaobacaaGreatKz21
import Derived.Test.YtalgfpegaobacaaGreatKz6
/- Holds: contract of the reference's With. -/
namespace Go.Proofs.YtalgfpegaobacaaGreat
open Go.RowKit
theorem plK_at {l : List HoldV} {u : Un} {k : Nat} (hno : ∀ j (_ : j < l.length), j < k → lessU l[j].unit u = true) (hk : k ≤ l.length) (hn : ∀ h : k < l.length, lessU l[k].unit u = false) : plK (l.map lgHoldV) u = k := by
  have h := while_cut (p := fun x : HoldV => lessU x.unit u) hno hk hn
  unfold plK
  rw [List.takeWhile_map, List.length_map]
  have e : (l.takeWhile ((fun x : Row Lot => lessU x.unit u) ∘ lgHoldV)) = l.take k := h.1
  rw [e, List.length_take]; omega
theorem thK_in {l : List HoldV} {u : Un} {k : Nat} (h : plK (l.map lgHoldV) u = k) (hk : k < l.length) : thK (l.map lgHoldV) u = decide (l[k].unit = u) := by
  unfold thK atB
  rw [h, List.getElem?_map, List.getElem?_eq_getElem hk]
  rfl
theorem thK_end {l : List HoldV} {u : Un} (h : plK (l.map lgHoldV) u = l.length) : thK (l.map lgHoldV) u = false := by
  unfold thK atB
  rw [h, List.getElem?_map, List.getElem?_eq_none (Nat.le_refl _)]
  rfl
theorem rd_oneD {w : World} {cs : Array Value} {t : TypeId} {n k : Nat} (h : n = w.heap.size) : Rd (w.alloc (.cells cs t)).drew (some ⟨n, 0, none⟩) k [cs.toList] := (rd_oneN h).keep ((Below.refl _ _).drew)
set_option maxRecDepth 100000 in
set_option maxHeartbeats 64000000 in
theorem ref26WithS (S : Nat → Prop) (l : List HoldV) (u : Un) (all : List Lot) (A B : Option Addr) (c d : Nat) (w : World) (hS : ∀ g, S g → (∀ x ∈ l, OffB g x) ∧ ∀ a, B = some a → a.block ≠ g) (hl : l.length ≤ 2000) (hal : all.length ≤ 1000000) (hs : SortK (l.map lgHoldV)) (hr : Rs w 3 (l.map encHoldV) A c) (hform : (A = none ∧ l = [] ∧ c = 0) ∨ ∃ b o, A = some ⟨b, o, none⟩) (hg : ∀ x ∈ l, GoodHoldV w x) (hrl : Rs w 3 (all.map encLot) B d) :
    Calls Tryz.prog 30 #[.slice A l.length c, .agg #[.int .i64 u.acc, .int .i64 u.cli], .slice B all.length d] w (HoldPostS1 w S (withK (l.map lgHoldV) u all)) := by
  have HSS := Lib.hid hS
  have hlc := hr.cap
  have hcm := hr.room
  rw [List.length_map] at hlc
  unfold maxLen at hcm
  have HRD := Lib.hid hr.rd
  have HGG := Lib.hid hg
  have HMG := Lib.hid (show GoodHoldV w ⟨u, ⟨B, d, all⟩⟩ from ⟨hal, hrl⟩)
  have HWW := Lib.hid (fun now : List Lot => with_place hs u now)
  clear hr hg hrl hs hS
  rcases hform with ⟨rfl, rfl, rfl⟩ | ⟨b, o, rfl⟩
  · have hpl := plK_at (l := []) (u := u) (k := 0) (fun j h => absurd h (by simp)) (Nat.zero_le _) (fun h => absurd h (by simp))
    have hth := thK_end (l := []) hpl
    have HWP := Lib.hid (show withK (([] : List HoldV).map lgHoldV) u all = oneK u all from by rw [HWW.out all, hpl, hth]; simp)
    clear hpl hth HWW hlc hcm
    cases hne : decide (0 < all.length)
    · have HWK := Lib.hid (HWP.out.trans (by unfold oneK; rw [if_pos (by rw [List.isEmpty_iff]; exact List.eq_nil_of_length_eq_zero (by have := of_decide_eq_false hne; omega))]))
      go_enter Tryz.func30, Tryz.ntmps30
      go_wp2_with fail
      refine wp_loop_rounds 1 ?_
      rw [rounds_succ]
      go_wp2_with fail
      go_quiet (fail)
      go_wp2_with fail
      go_quiet (fail)
      go_wp2_with (at_builtin; refine wpList_app rfl _ _ _ rfl elHoldV (w.heap.size + 1) _ _ rfl ((Own.nil _ _ _ _).keep (by (repeat' (first | (with_reducible exact Below.refl _ _) | (with_reducible assumption) | (with_reducible refine Below.alloc ?_ ?_ _) | (with_reducible refine Below.setCell ?_ ?_ _) | (with_reducible refine Below.drew ?_) | (with_reducible refine below_drewN ?_ _) | (with_reducible refine below_via ?_ (by with_reducible assumption) ?_) | omega | (simp; done) | (simp; omega))))) none 0 0 rfl [] rfl (fun _ => rfl) (fun i r h => by simp at h) (fun r h => by simp at h) (by unfold maxLen; simp <;> omega) (by simp <;> omega) (by first | omega | (simp; done) | (simp; omega)) ?_; intro v6 w6 hown6 hb6; have HO6 := Lib.hid hown6; clear hown6; obtain ⟨fc6, fg6, hc6, hf6, hz6⟩ := bget hb6; (try simp at hz6))
      go_ret
      exact ⟨_, [], rfl, by rw [HWK.out]; rfl, by have h6 := HO6.out.mono (b := w.heap.size) (by omega); simpa using h6, fun y hy => by simp at hy, fun g hg y hy => by simp at hy, by (repeat' (first | (with_reducible exact Below.refl _ _) | (with_reducible assumption) | (with_reducible refine Below.alloc ?_ ?_ _) | (with_reducible refine Below.setCell ?_ ?_ _) | (with_reducible refine Below.drew ?_) | (with_reducible refine below_drewN ?_ _) | (with_reducible refine below_via ?_ (by with_reducible assumption) ?_) | omega | (simp; done) | (simp; omega)))⟩
    · have HWK := Lib.hid (HWP.out.trans (show _ = [⟨u, all⟩] from by unfold oneK; rw [if_neg (by rw [List.isEmpty_iff]; intro e; rw [e] at hne; simp at hne)]))
      go_enter Tryz.func30, Tryz.ntmps30
      go_wp2_with fail
      refine wp_loop_rounds 1 ?_
      rw [rounds_succ]
      go_wp2_with fail
      go_quiet (fail)
      go_wp2_with (at_builtin; refine wpList_app rfl _ _ _ rfl elHoldV (w.heap.size + 1) _ [] rfl (Own.nil _ _ _ _) (some ⟨_, 0, none⟩) 1 1 rfl [[.int .i64 u.acc, .int .i64 u.cli, .slice B all.length d]] rfl (fun h => by cases h) (by first | exact rd_oneN (by simp) | exact rd_oneD (by simp)) (row3HoldV _ _ _ _ _) (by unfold maxLen; simp <;> omega) (by simp <;> omega) (by first | omega | (simp; done) | (simp; omega)) ?_; intro v5 w5 hown5 hb5; have HO5 := Lib.hid hown5; clear hown5; obtain ⟨fc5, fg5, hc5, hf5, hz5⟩ := bget hb5; (try simp at hz5))
      go_quiet (fail)
      go_wp2_with (at_builtin; refine wpList_app rfl _ _ _ rfl elHoldV (w.heap.size + 1) _ _ rfl ((HO5.out).keep (by (repeat' (first | (with_reducible exact Below.refl _ _) | (with_reducible assumption) | (with_reducible refine Below.alloc ?_ ?_ _) | (with_reducible refine Below.setCell ?_ ?_ _) | (with_reducible refine Below.drew ?_) | (with_reducible refine below_drewN ?_ _) | (with_reducible refine below_via ?_ (by with_reducible assumption) ?_) | omega | (simp; done) | (simp; omega))))) none 0 0 rfl [] rfl (fun _ => rfl) (fun i r h => by simp at h) (fun r h => by simp at h) (by unfold maxLen; simp <;> omega) (by simp <;> omega) (by first | omega | (simp; done) | (simp; omega)) ?_; intro v6 w6 hown6 hb6; have HO6 := Lib.hid hown6; clear hown6; obtain ⟨fc6, fg6, hc6, hf6, hz6⟩ := bget hb6; (try simp at hz6))
      go_ret
      have hbx : Below w.heap.size w w6 := by (repeat' (first | (with_reducible exact Below.refl _ _) | (with_reducible assumption) | (with_reducible refine Below.alloc ?_ ?_ _) | (with_reducible refine Below.setCell ?_ ?_ _) | (with_reducible refine Below.drew ?_) | (with_reducible refine below_drewN ?_ _) | (with_reducible refine below_via ?_ (by with_reducible assumption) ?_) | omega | (simp; done) | (simp; omega)))
      exact ⟨_, [⟨u, ⟨B, d, all⟩⟩], rfl, by rw [HWK.out]; rfl, by have h6 := HO6.out.mono (b := w.heap.size) (by omega); exact h6, fun y hy => by simp only [List.mem_cons, List.not_mem_nil, or_false] at hy; subst hy; exact HMG.out.keep hbx, fun g hg y hy => by simp only [List.mem_cons, List.not_mem_nil, or_false] at hy; subst hy; exact (HSS.out g hg).2, hbx⟩
  have HF := Lib.hid HRD.out
  go_enter Tryz.func30, Tryz.ntmps30
  go_wp2_with fail
  go_loopw [7, 8] (fun v i wr => ∃ k : Nat, k ≤ l.length ∧ i = .int .i64 k ∧ Own wr (w.heap.size + 1) 97 3 v ((l.take k).map encHoldV) ∧ Below (w.heap.size + 1) (w.alloc (.cells #[.int .i64 u.acc, .int .i64 u.cli] 41)) wr ∧ ∀ j (_ : j < l.length), j < k → lessU l[j].unit u = true) (fun _ i _ => l.length - (intOf i).toNat)
  case atStart => exact ⟨0, Nat.zero_le _, rfl, Own.nil _ _ _ _, by (repeat' (first | (with_reducible exact Below.refl _ _) | (with_reducible assumption) | (with_reducible refine Below.alloc ?_ ?_ _) | (with_reducible refine Below.setCell ?_ ?_ _) | (with_reducible refine Below.drew ?_) | (with_reducible refine below_drewN ?_ _) | (with_reducible refine below_via ?_ (by with_reducible assumption) ?_) | omega | (simp; done) | (simp; omega))), fun j _ h => absurd h (by omega)⟩
  case round =>
    obtain ⟨k, hk, rfl, hown, hbl, hno⟩ := hrel
    have hzr := hbl.size
    simp at hzr
    have g0 : wr.cell? ⟨w.heap.size, 0, none⟩ = some (.int .i64 u.acc) := (hbl.cell (p := ⟨w.heap.size, 0, none⟩) (by simp)).trans (by simp [go_sem])
    have g1 : wr.cell? ⟨w.heap.size, 1, none⟩ = some (.int .i64 u.cli) := (hbl.cell (p := ⟨w.heap.size, 1, none⟩) (by simp)).trans (by simp [go_sem])
    have Hown := Lib.hid hown
    have Hno := Lib.hid hno
    have Hbw := Lib.hid (show Below w.heap.size w wr from ((Below.refl _ _).alloc (Nat.le_refl _) _).trans (hbl.mono (Nat.le_succ _)))
    have Hbl := Lib.hid hbl
    have hlk : (l.take k).length = k := by rw [List.length_take]; omega
    have HLK := Lib.hid hlk
    have hlen : ((l.take k).map encHoldV).length ≤ 2000 := by rw [List.length_map, hlk]; omega
    have wk : IntKind.i64.wrap ((k : Int) + 1) = (k : Int) + 1 := IntWalk.i64_in _ (by omega)
    have tk : ((k : Int) + 1).toNat = k + 1 := by omega
    clear hown hno hbl hlk
    by_cases hlt : k < l.length
    · have kl : (k : Int) < (l.length : Int) := by omega
      have dl : decide ((k : Int) < (l.length : Int)) = true := by simpa using hlt
      obtain ⟨b', o', e, hb, hc⟩ := HF.out k (encHoldV l[k]) (by simp [hlt])
      injection e with e
      injection e with e1 e2 _
      subst e1 e2
      have e0 := (Hbw.out.cell (p := ⟨b, o + k * 3 + 0, none⟩) hb).trans (hc 0 _ rfl)
      have e1 := (Hbw.out.cell (p := ⟨b, o + k * 3 + 1, none⟩) hb).trans (hc 1 _ rfl)
      have e2 := (Hbw.out.cell (p := ⟨b, o + k * 3 + 2, none⟩) hb).trans (hc 2 _ rfl)
      simp only [Nat.add_zero] at e0
      clear hc
      have hbw : b < wr.heap.size := by omega
      have kl2 : (k : Int) ≤ (l.length : Int) := by omega
      cases hm : lessU l[k].unit u
      · have CO := Lib.hid (fun W => hm ▸ ref15Less l[k].unit u W)
        have hpl := plK_at Hno.out hk (fun _ => hm)
        have hth := thK_in hpl hlt
        have hck : ¬ c = k := by omega
        have hck' : ¬ k = c := by omega
        rcases un_tHoldV (x := l[k].unit) (u := u) with h | h
        · have HWP := Lib.hid (show withK (l.map lgHoldV) u all = (l.map lgHoldV).take k ++ (oneK u all ++ (l.map lgHoldV).drop (k + 1)) from by rw [HWW.out all, hpl, hth, if_pos (decide_eq_true h)])
          rw [h] at CO e0 e1
          clear hm hpl hth h
          have wk1 : IntKind.i64.wrap ((k : Int) + 1) = ((k + 1 : Nat) : Int) := wk
          have kl3 : ((k + 1 : Nat) : Int) ≤ (l.length : Int) := by omega
          by_cases hcq : c = k + 1
          · cases hne : decide (0 < all.length)
            · have HWK := Lib.hid (HWP.out.trans (by rw [show oneK u all = [] from by unfold oneK; rw [if_pos (by rw [List.isEmpty_iff]; exact List.eq_nil_of_length_eq_zero (by have := of_decide_eq_false hne; omega))], List.nil_append]))
              go_wp2_with fail
              go_region_held3 (fun w' => (w'.cell? ⟨b, o + k * 3, none⟩ = some (.int .i64 u.acc) ∧ w'.cell? ⟨b, o + k * 3 + 1, none⟩ = some (.int .i64 u.cli)) ∧ (w'.cell? ⟨w.heap.size, 0, none⟩ = some (.int .i64 u.acc) ∧ w'.cell? ⟨w.heap.size, 1, none⟩ = some (.int .i64 u.cli))) (first | (simp [go_sem]; done) | (repeat' (first | (with_reducible assumption) | (with_reducible refine And.intro ?_ ?_) | (with_reducible refine cell_drew ?_) | (with_reducible refine cell_via (by with_reducible assumption) ?_ ?_) | (simp [*]; done) | (simp [go_sem]; done) | (with_reducible refine cell_alloc ?_ ?_) | (with_reducible refine cell_set_far ?_ ?_) | omega | (simp; omega)))) (first | (go_at_call 58; (with_reducible refine (CO.out _).mono ?_); rintro e w1 ⟨rfl, hb1⟩; obtain ⟨fc1, fg1, hc1, hf1, hz1⟩ := bget hb1; (try simp at hz1)) | fail)
              go_wp2_with fail
              go_quiet (fail)
              go_wp2_with (first | (at_builtin; refine wpList_app rfl _ _ _ rfl elHoldV (w.heap.size + 1) _ _ rfl (Hown.out.keep (by (repeat' (first | (with_reducible exact Below.refl _ _) | (with_reducible assumption) | (with_reducible refine Below.alloc ?_ ?_ _) | (with_reducible refine Below.setCell ?_ ?_ _) | (with_reducible refine Below.drew ?_) | (with_reducible refine below_drewN ?_ _) | (with_reducible refine below_via ?_ (by with_reducible assumption) ?_) | omega | (simp; done) | (simp; omega))))) (some ⟨b, o + (k + 1) * 3, none⟩) _ _ rfl ((l.drop (k + 1)).map encHoldV) (by simp) (fun h => by cases h) (by rw [List.map_drop]; exact rd_dropR (HF.out.keep (by have hbw := Hbw.out; (repeat' (first | (with_reducible exact Below.refl _ _) | (with_reducible assumption) | (with_reducible refine Below.alloc ?_ ?_ _) | (with_reducible refine Below.setCell ?_ ?_ _) | (with_reducible refine Below.drew ?_) | (with_reducible refine below_drewN ?_ _) | (with_reducible refine below_via ?_ (by with_reducible assumption) ?_) | omega | (simp; done) | (simp; omega))))) (k + 1)) (rowsHoldV _) (by unfold maxLen; simp <;> omega) (by simp <;> omega) (by first | omega | (simp; done) | (simp; omega)) ?_; intro v6 w6 hown6 hb6; have HO6 := Lib.hid hown6; clear hown6; obtain ⟨fc6, fg6, hc6, hf6, hz6⟩ := bget hb6; (try simp at hz6)) | (at_builtin; refine wpList_app rfl _ _ _ rfl elHoldV (w.heap.size + 1) _ _ rfl (Hown.out.keep (by (repeat' (first | (with_reducible exact Below.refl _ _) | (with_reducible assumption) | (with_reducible refine Below.alloc ?_ ?_ _) | (with_reducible refine Below.setCell ?_ ?_ _) | (with_reducible refine Below.drew ?_) | (with_reducible refine below_drewN ?_ _) | (with_reducible refine below_via ?_ (by with_reducible assumption) ?_) | omega | (simp; done) | (simp; omega))))) (some ⟨b, o, none⟩) _ _ rfl ((l.drop (k + 1)).map encHoldV) (by simp <;> omega) (fun h => by cases h) (by rw [List.drop_eq_nil_of_le (by omega)]; exact fun i r h => by simp at h) (rowsHoldV _) (by unfold maxLen; simp <;> omega) (by simp <;> omega) (by first | omega | (simp; done) | (simp; omega)) ?_; intro v6 w6 hown6 hb6; have HO6 := Lib.hid hown6; clear hown6; obtain ⟨fc6, fg6, hc6, hf6, hz6⟩ := bget hb6; (try simp at hz6)) | fail)
              go_ret
              have hbx : Below w.heap.size w w6 := by have hbw := Hbw.out; (repeat' (first | (with_reducible exact Below.refl _ _) | (with_reducible assumption) | (with_reducible refine Below.alloc ?_ ?_ _) | (with_reducible refine Below.setCell ?_ ?_ _) | (with_reducible refine Below.drew ?_) | (with_reducible refine below_drewN ?_ _) | (with_reducible refine below_via ?_ (by with_reducible assumption) ?_) | omega | (simp; done) | (simp; omega)))
              refine ⟨_, l.take k ++ l.drop (k + 1), rfl, by rw [HWK.out]; rw [List.map_append, List.map_take, List.map_drop], ?_, fun y hy => ?_, fun g hg y hy => ?_, hbx⟩
              · have h6 := HO6.out.mono (b := w.heap.size) (by omega)
                (try rw [List.append_assoc] at h6)
                (repeat rw [List.map_append])
                exact h6
              · first | rw [List.mem_append, List.mem_cons] at hy | rw [List.mem_append] at hy
                (first | (rcases hy with hy | hy; exact (HGG.out y (List.mem_of_mem_take hy)).keep hbx; exact (HGG.out y (List.mem_of_mem_drop hy)).keep hbx) | (rcases hy with hy | rfl | hy; exact (HGG.out y (List.mem_of_mem_take hy)).keep hbx; exact HMG.out.keep hbx; exact (HGG.out y (List.mem_of_mem_drop hy)).keep hbx))
              · first | rw [List.mem_append, List.mem_cons] at hy | rw [List.mem_append] at hy
                (first | (rcases hy with hy | hy; exact (HSS.out g hg).1 y (List.mem_of_mem_take hy); exact (HSS.out g hg).1 y (List.mem_of_mem_drop hy)) | (rcases hy with hy | rfl | hy; exact (HSS.out g hg).1 y (List.mem_of_mem_take hy); exact (HSS.out g hg).2; exact (HSS.out g hg).1 y (List.mem_of_mem_drop hy)))
            · have HWK := Lib.hid (HWP.out.trans (by rw [show oneK u all = [⟨u, all⟩] from by unfold oneK; rw [if_neg (by rw [List.isEmpty_iff]; intro e; rw [e] at hne; simp at hne)]]))
              go_wp2_with fail
              go_region_held3 (fun w' => (w'.cell? ⟨b, o + k * 3, none⟩ = some (.int .i64 u.acc) ∧ w'.cell? ⟨b, o + k * 3 + 1, none⟩ = some (.int .i64 u.cli)) ∧ (w'.cell? ⟨w.heap.size, 0, none⟩ = some (.int .i64 u.acc) ∧ w'.cell? ⟨w.heap.size, 1, none⟩ = some (.int .i64 u.cli))) (first | (simp [go_sem]; done) | (repeat' (first | (with_reducible assumption) | (with_reducible refine And.intro ?_ ?_) | (with_reducible refine cell_drew ?_) | (with_reducible refine cell_via (by with_reducible assumption) ?_ ?_) | (simp [*]; done) | (simp [go_sem]; done) | (with_reducible refine cell_alloc ?_ ?_) | (with_reducible refine cell_set_far ?_ ?_) | omega | (simp; omega)))) (first | (go_at_call 58; (with_reducible refine (CO.out _).mono ?_); rintro e w1 ⟨rfl, hb1⟩; obtain ⟨fc1, fg1, hc1, hf1, hz1⟩ := bget hb1; (try simp at hz1)) | fail)
              go_wp2_with (at_builtin; refine wpList_app rfl _ _ _ rfl elHoldV (w.heap.size + 1) _ _ rfl (Hown.out.keep (by (repeat' (first | (with_reducible exact Below.refl _ _) | (with_reducible assumption) | (with_reducible refine Below.alloc ?_ ?_ _) | (with_reducible refine Below.setCell ?_ ?_ _) | (with_reducible refine Below.drew ?_) | (with_reducible refine below_drewN ?_ _) | (with_reducible refine below_via ?_ (by with_reducible assumption) ?_) | omega | (simp; done) | (simp; omega))))) (some ⟨_, 0, none⟩) 1 1 rfl [[.int .i64 u.acc, .int .i64 u.cli, .slice B all.length d]] rfl (fun h => by cases h) (by first | exact rd_oneN (by simp) | exact rd_oneD (by simp)) (row3HoldV _ _ _ _ _) (by unfold maxLen; simp <;> omega) (by simp <;> omega) (by first | omega | (simp; done) | (simp; omega)) ?_; intro v5 w5 hown5 hb5; have HO5 := Lib.hid hown5; clear hown5; obtain ⟨fc5, fg5, hc5, hf5, hz5⟩ := bget hb5; (try simp at hz5))
              go_quiet (fail)
              go_wp2_with (first | (at_builtin; refine wpList_app rfl _ _ _ rfl elHoldV (w.heap.size + 1) _ _ rfl (HO5.out.keep (by (repeat' (first | (with_reducible exact Below.refl _ _) | (with_reducible assumption) | (with_reducible refine Below.alloc ?_ ?_ _) | (with_reducible refine Below.setCell ?_ ?_ _) | (with_reducible refine Below.drew ?_) | (with_reducible refine below_drewN ?_ _) | (with_reducible refine below_via ?_ (by with_reducible assumption) ?_) | omega | (simp; done) | (simp; omega))))) (some ⟨b, o + (k + 1) * 3, none⟩) _ _ rfl ((l.drop (k + 1)).map encHoldV) (by simp) (fun h => by cases h) (by rw [List.map_drop]; exact rd_dropR (HF.out.keep (by have hbw := Hbw.out; (repeat' (first | (with_reducible exact Below.refl _ _) | (with_reducible assumption) | (with_reducible refine Below.alloc ?_ ?_ _) | (with_reducible refine Below.setCell ?_ ?_ _) | (with_reducible refine Below.drew ?_) | (with_reducible refine below_drewN ?_ _) | (with_reducible refine below_via ?_ (by with_reducible assumption) ?_) | omega | (simp; done) | (simp; omega))))) (k + 1)) (rowsHoldV _) (by unfold maxLen; simp <;> omega) (by simp <;> omega) (by first | omega | (simp; done) | (simp; omega)) ?_; intro v6 w6 hown6 hb6; have HO6 := Lib.hid hown6; clear hown6; obtain ⟨fc6, fg6, hc6, hf6, hz6⟩ := bget hb6; (try simp at hz6)) | (at_builtin; refine wpList_app rfl _ _ _ rfl elHoldV (w.heap.size + 1) _ _ rfl (HO5.out.keep (by (repeat' (first | (with_reducible exact Below.refl _ _) | (with_reducible assumption) | (with_reducible refine Below.alloc ?_ ?_ _) | (with_reducible refine Below.setCell ?_ ?_ _) | (with_reducible refine Below.drew ?_) | (with_reducible refine below_drewN ?_ _) | (with_reducible refine below_via ?_ (by with_reducible assumption) ?_) | omega | (simp; done) | (simp; omega))))) (some ⟨b, o, none⟩) _ _ rfl ((l.drop (k + 1)).map encHoldV) (by simp <;> omega) (fun h => by cases h) (by rw [List.drop_eq_nil_of_le (by omega)]; exact fun i r h => by simp at h) (rowsHoldV _) (by unfold maxLen; simp <;> omega) (by simp <;> omega) (by first | omega | (simp; done) | (simp; omega)) ?_; intro v6 w6 hown6 hb6; have HO6 := Lib.hid hown6; clear hown6; obtain ⟨fc6, fg6, hc6, hf6, hz6⟩ := bget hb6; (try simp at hz6)) | fail)
              go_ret
              have hbx : Below w.heap.size w w6 := by have hbw := Hbw.out; (repeat' (first | (with_reducible exact Below.refl _ _) | (with_reducible assumption) | (with_reducible refine Below.alloc ?_ ?_ _) | (with_reducible refine Below.setCell ?_ ?_ _) | (with_reducible refine Below.drew ?_) | (with_reducible refine below_drewN ?_ _) | (with_reducible refine below_via ?_ (by with_reducible assumption) ?_) | omega | (simp; done) | (simp; omega)))
              refine ⟨_, l.take k ++ (⟨u, ⟨B, d, all⟩⟩ :: l.drop (k + 1)), rfl, by rw [HWK.out]; (rw [List.map_append, List.map_cons, List.map_take, List.map_drop]; rfl), ?_, fun y hy => ?_, fun g hg y hy => ?_, hbx⟩
              · have h6 := HO6.out.mono (b := w.heap.size) (by omega)
                (try rw [List.append_assoc] at h6)
                (repeat rw [List.map_append])
                exact h6
              · first | rw [List.mem_append, List.mem_cons] at hy | rw [List.mem_append] at hy
                (first | (rcases hy with hy | hy; exact (HGG.out y (List.mem_of_mem_take hy)).keep hbx; exact (HGG.out y (List.mem_of_mem_drop hy)).keep hbx) | (rcases hy with hy | rfl | hy; exact (HGG.out y (List.mem_of_mem_take hy)).keep hbx; exact HMG.out.keep hbx; exact (HGG.out y (List.mem_of_mem_drop hy)).keep hbx))
              · first | rw [List.mem_append, List.mem_cons] at hy | rw [List.mem_append] at hy
                (first | (rcases hy with hy | hy; exact (HSS.out g hg).1 y (List.mem_of_mem_take hy); exact (HSS.out g hg).1 y (List.mem_of_mem_drop hy)) | (rcases hy with hy | rfl | hy; exact (HSS.out g hg).1 y (List.mem_of_mem_take hy); exact (HSS.out g hg).2; exact (HSS.out g hg).1 y (List.mem_of_mem_drop hy)))
          · cases hne : decide (0 < all.length)
            · have HWK := Lib.hid (HWP.out.trans (by rw [show oneK u all = [] from by unfold oneK; rw [if_pos (by rw [List.isEmpty_iff]; exact List.eq_nil_of_length_eq_zero (by have := of_decide_eq_false hne; omega))], List.nil_append]))
              go_wp2_with fail
              go_region_held3 (fun w' => (w'.cell? ⟨b, o + k * 3, none⟩ = some (.int .i64 u.acc) ∧ w'.cell? ⟨b, o + k * 3 + 1, none⟩ = some (.int .i64 u.cli)) ∧ (w'.cell? ⟨w.heap.size, 0, none⟩ = some (.int .i64 u.acc) ∧ w'.cell? ⟨w.heap.size, 1, none⟩ = some (.int .i64 u.cli))) (first | (simp [go_sem]; done) | (repeat' (first | (with_reducible assumption) | (with_reducible refine And.intro ?_ ?_) | (with_reducible refine cell_drew ?_) | (with_reducible refine cell_via (by with_reducible assumption) ?_ ?_) | (simp [*]; done) | (simp [go_sem]; done) | (with_reducible refine cell_alloc ?_ ?_) | (with_reducible refine cell_set_far ?_ ?_) | omega | (simp; omega)))) (first | (go_at_call 58; (with_reducible refine (CO.out _).mono ?_); rintro e w1 ⟨rfl, hb1⟩; obtain ⟨fc1, fg1, hc1, hf1, hz1⟩ := bget hb1; (try simp at hz1)) | fail)
              go_wp2_with fail
              go_quiet (fail)
              go_wp2_with (first | (at_builtin; refine wpList_app rfl _ _ _ rfl elHoldV (w.heap.size + 1) _ _ rfl (Hown.out.keep (by (repeat' (first | (with_reducible exact Below.refl _ _) | (with_reducible assumption) | (with_reducible refine Below.alloc ?_ ?_ _) | (with_reducible refine Below.setCell ?_ ?_ _) | (with_reducible refine Below.drew ?_) | (with_reducible refine below_drewN ?_ _) | (with_reducible refine below_via ?_ (by with_reducible assumption) ?_) | omega | (simp; done) | (simp; omega))))) (some ⟨b, o + (k + 1) * 3, none⟩) _ _ rfl ((l.drop (k + 1)).map encHoldV) (by simp) (fun h => by cases h) (by rw [List.map_drop]; exact rd_dropR (HF.out.keep (by have hbw := Hbw.out; (repeat' (first | (with_reducible exact Below.refl _ _) | (with_reducible assumption) | (with_reducible refine Below.alloc ?_ ?_ _) | (with_reducible refine Below.setCell ?_ ?_ _) | (with_reducible refine Below.drew ?_) | (with_reducible refine below_drewN ?_ _) | (with_reducible refine below_via ?_ (by with_reducible assumption) ?_) | omega | (simp; done) | (simp; omega))))) (k + 1)) (rowsHoldV _) (by unfold maxLen; simp <;> omega) (by simp <;> omega) (by first | omega | (simp; done) | (simp; omega)) ?_; intro v6 w6 hown6 hb6; have HO6 := Lib.hid hown6; clear hown6; obtain ⟨fc6, fg6, hc6, hf6, hz6⟩ := bget hb6; (try simp at hz6)) | (at_builtin; refine wpList_app rfl _ _ _ rfl elHoldV (w.heap.size + 1) _ _ rfl (Hown.out.keep (by (repeat' (first | (with_reducible exact Below.refl _ _) | (with_reducible assumption) | (with_reducible refine Below.alloc ?_ ?_ _) | (with_reducible refine Below.setCell ?_ ?_ _) | (with_reducible refine Below.drew ?_) | (with_reducible refine below_drewN ?_ _) | (with_reducible refine below_via ?_ (by with_reducible assumption) ?_) | omega | (simp; done) | (simp; omega))))) (some ⟨b, o, none⟩) _ _ rfl ((l.drop (k + 1)).map encHoldV) (by simp <;> omega) (fun h => by cases h) (by rw [List.drop_eq_nil_of_le (by omega)]; exact fun i r h => by simp at h) (rowsHoldV _) (by unfold maxLen; simp <;> omega) (by simp <;> omega) (by first | omega | (simp; done) | (simp; omega)) ?_; intro v6 w6 hown6 hb6; have HO6 := Lib.hid hown6; clear hown6; obtain ⟨fc6, fg6, hc6, hf6, hz6⟩ := bget hb6; (try simp at hz6)) | fail)
              go_ret
              have hbx : Below w.heap.size w w6 := by have hbw := Hbw.out; (repeat' (first | (with_reducible exact Below.refl _ _) | (with_reducible assumption) | (with_reducible refine Below.alloc ?_ ?_ _) | (with_reducible refine Below.setCell ?_ ?_ _) | (with_reducible refine Below.drew ?_) | (with_reducible refine below_drewN ?_ _) | (with_reducible refine below_via ?_ (by with_reducible assumption) ?_) | omega | (simp; done) | (simp; omega)))
              refine ⟨_, l.take k ++ l.drop (k + 1), rfl, by rw [HWK.out]; rw [List.map_append, List.map_take, List.map_drop], ?_, fun y hy => ?_, fun g hg y hy => ?_, hbx⟩
              · have h6 := HO6.out.mono (b := w.heap.size) (by omega)
                (try rw [List.append_assoc] at h6)
                (repeat rw [List.map_append])
                exact h6
              · first | rw [List.mem_append, List.mem_cons] at hy | rw [List.mem_append] at hy
                (first | (rcases hy with hy | hy; exact (HGG.out y (List.mem_of_mem_take hy)).keep hbx; exact (HGG.out y (List.mem_of_mem_drop hy)).keep hbx) | (rcases hy with hy | rfl | hy; exact (HGG.out y (List.mem_of_mem_take hy)).keep hbx; exact HMG.out.keep hbx; exact (HGG.out y (List.mem_of_mem_drop hy)).keep hbx))
              · first | rw [List.mem_append, List.mem_cons] at hy | rw [List.mem_append] at hy
                (first | (rcases hy with hy | hy; exact (HSS.out g hg).1 y (List.mem_of_mem_take hy); exact (HSS.out g hg).1 y (List.mem_of_mem_drop hy)) | (rcases hy with hy | rfl | hy; exact (HSS.out g hg).1 y (List.mem_of_mem_take hy); exact (HSS.out g hg).2; exact (HSS.out g hg).1 y (List.mem_of_mem_drop hy)))
            · have HWK := Lib.hid (HWP.out.trans (by rw [show oneK u all = [⟨u, all⟩] from by unfold oneK; rw [if_neg (by rw [List.isEmpty_iff]; intro e; rw [e] at hne; simp at hne)]]))
              go_wp2_with fail
              go_region_held3 (fun w' => (w'.cell? ⟨b, o + k * 3, none⟩ = some (.int .i64 u.acc) ∧ w'.cell? ⟨b, o + k * 3 + 1, none⟩ = some (.int .i64 u.cli)) ∧ (w'.cell? ⟨w.heap.size, 0, none⟩ = some (.int .i64 u.acc) ∧ w'.cell? ⟨w.heap.size, 1, none⟩ = some (.int .i64 u.cli))) (first | (simp [go_sem]; done) | (repeat' (first | (with_reducible assumption) | (with_reducible refine And.intro ?_ ?_) | (with_reducible refine cell_drew ?_) | (with_reducible refine cell_via (by with_reducible assumption) ?_ ?_) | (simp [*]; done) | (simp [go_sem]; done) | (with_reducible refine cell_alloc ?_ ?_) | (with_reducible refine cell_set_far ?_ ?_) | omega | (simp; omega)))) (first | (go_at_call 58; (with_reducible refine (CO.out _).mono ?_); rintro e w1 ⟨rfl, hb1⟩; obtain ⟨fc1, fg1, hc1, hf1, hz1⟩ := bget hb1; (try simp at hz1)) | fail)
              go_wp2_with (at_builtin; refine wpList_app rfl _ _ _ rfl elHoldV (w.heap.size + 1) _ _ rfl (Hown.out.keep (by (repeat' (first | (with_reducible exact Below.refl _ _) | (with_reducible assumption) | (with_reducible refine Below.alloc ?_ ?_ _) | (with_reducible refine Below.setCell ?_ ?_ _) | (with_reducible refine Below.drew ?_) | (with_reducible refine below_drewN ?_ _) | (with_reducible refine below_via ?_ (by with_reducible assumption) ?_) | omega | (simp; done) | (simp; omega))))) (some ⟨_, 0, none⟩) 1 1 rfl [[.int .i64 u.acc, .int .i64 u.cli, .slice B all.length d]] rfl (fun h => by cases h) (by first | exact rd_oneN (by simp) | exact rd_oneD (by simp)) (row3HoldV _ _ _ _ _) (by unfold maxLen; simp <;> omega) (by simp <;> omega) (by first | omega | (simp; done) | (simp; omega)) ?_; intro v5 w5 hown5 hb5; have HO5 := Lib.hid hown5; clear hown5; obtain ⟨fc5, fg5, hc5, hf5, hz5⟩ := bget hb5; (try simp at hz5))
              go_quiet (fail)
              go_wp2_with (first | (at_builtin; refine wpList_app rfl _ _ _ rfl elHoldV (w.heap.size + 1) _ _ rfl (HO5.out.keep (by (repeat' (first | (with_reducible exact Below.refl _ _) | (with_reducible assumption) | (with_reducible refine Below.alloc ?_ ?_ _) | (with_reducible refine Below.setCell ?_ ?_ _) | (with_reducible refine Below.drew ?_) | (with_reducible refine below_drewN ?_ _) | (with_reducible refine below_via ?_ (by with_reducible assumption) ?_) | omega | (simp; done) | (simp; omega))))) (some ⟨b, o + (k + 1) * 3, none⟩) _ _ rfl ((l.drop (k + 1)).map encHoldV) (by simp) (fun h => by cases h) (by rw [List.map_drop]; exact rd_dropR (HF.out.keep (by have hbw := Hbw.out; (repeat' (first | (with_reducible exact Below.refl _ _) | (with_reducible assumption) | (with_reducible refine Below.alloc ?_ ?_ _) | (with_reducible refine Below.setCell ?_ ?_ _) | (with_reducible refine Below.drew ?_) | (with_reducible refine below_drewN ?_ _) | (with_reducible refine below_via ?_ (by with_reducible assumption) ?_) | omega | (simp; done) | (simp; omega))))) (k + 1)) (rowsHoldV _) (by unfold maxLen; simp <;> omega) (by simp <;> omega) (by first | omega | (simp; done) | (simp; omega)) ?_; intro v6 w6 hown6 hb6; have HO6 := Lib.hid hown6; clear hown6; obtain ⟨fc6, fg6, hc6, hf6, hz6⟩ := bget hb6; (try simp at hz6)) | (at_builtin; refine wpList_app rfl _ _ _ rfl elHoldV (w.heap.size + 1) _ _ rfl (HO5.out.keep (by (repeat' (first | (with_reducible exact Below.refl _ _) | (with_reducible assumption) | (with_reducible refine Below.alloc ?_ ?_ _) | (with_reducible refine Below.setCell ?_ ?_ _) | (with_reducible refine Below.drew ?_) | (with_reducible refine below_drewN ?_ _) | (with_reducible refine below_via ?_ (by with_reducible assumption) ?_) | omega | (simp; done) | (simp; omega))))) (some ⟨b, o, none⟩) _ _ rfl ((l.drop (k + 1)).map encHoldV) (by simp <;> omega) (fun h => by cases h) (by rw [List.drop_eq_nil_of_le (by omega)]; exact fun i r h => by simp at h) (rowsHoldV _) (by unfold maxLen; simp <;> omega) (by simp <;> omega) (by first | omega | (simp; done) | (simp; omega)) ?_; intro v6 w6 hown6 hb6; have HO6 := Lib.hid hown6; clear hown6; obtain ⟨fc6, fg6, hc6, hf6, hz6⟩ := bget hb6; (try simp at hz6)) | fail)
              go_ret
              have hbx : Below w.heap.size w w6 := by have hbw := Hbw.out; (repeat' (first | (with_reducible exact Below.refl _ _) | (with_reducible assumption) | (with_reducible refine Below.alloc ?_ ?_ _) | (with_reducible refine Below.setCell ?_ ?_ _) | (with_reducible refine Below.drew ?_) | (with_reducible refine below_drewN ?_ _) | (with_reducible refine below_via ?_ (by with_reducible assumption) ?_) | omega | (simp; done) | (simp; omega)))
              refine ⟨_, l.take k ++ (⟨u, ⟨B, d, all⟩⟩ :: l.drop (k + 1)), rfl, by rw [HWK.out]; (rw [List.map_append, List.map_cons, List.map_take, List.map_drop]; rfl), ?_, fun y hy => ?_, fun g hg y hy => ?_, hbx⟩
              · have h6 := HO6.out.mono (b := w.heap.size) (by omega)
                (try rw [List.append_assoc] at h6)
                (repeat rw [List.map_append])
                exact h6
              · first | rw [List.mem_append, List.mem_cons] at hy | rw [List.mem_append] at hy
                (first | (rcases hy with hy | hy; exact (HGG.out y (List.mem_of_mem_take hy)).keep hbx; exact (HGG.out y (List.mem_of_mem_drop hy)).keep hbx) | (rcases hy with hy | rfl | hy; exact (HGG.out y (List.mem_of_mem_take hy)).keep hbx; exact HMG.out.keep hbx; exact (HGG.out y (List.mem_of_mem_drop hy)).keep hbx))
              · first | rw [List.mem_append, List.mem_cons] at hy | rw [List.mem_append] at hy
                (first | (rcases hy with hy | hy; exact (HSS.out g hg).1 y (List.mem_of_mem_take hy); exact (HSS.out g hg).1 y (List.mem_of_mem_drop hy)) | (rcases hy with hy | rfl | hy; exact (HSS.out g hg).1 y (List.mem_of_mem_take hy); exact (HSS.out g hg).2; exact (HSS.out g hg).1 y (List.mem_of_mem_drop hy)))
        · have HWP := Lib.hid (show withK (l.map lgHoldV) u all = (l.map lgHoldV).take k ++ (oneK u all ++ (l.map lgHoldV).drop k) from by rw [HWW.out all, hpl, hth, if_neg (by rw [decide_eq_false (un_dHoldV h)]; simp)]; rfl)
          clear hm hpl hth
          rcases h with h | h
          · cases hne : decide (0 < all.length)
            · have HWK := Lib.hid (HWP.out.trans (by rw [show oneK u all = [] from by unfold oneK; rw [if_pos (by rw [List.isEmpty_iff]; exact List.eq_nil_of_length_eq_zero (by have := of_decide_eq_false hne; omega))], List.nil_append]))
              go_wp2_with fail
              go_region_held3 (fun w' => (w'.cell? ⟨b, o + k * 3, none⟩ = some (.int .i64 l[k].unit.acc) ∧ w'.cell? ⟨b, o + k * 3 + 1, none⟩ = some (.int .i64 l[k].unit.cli)) ∧ (w'.cell? ⟨w.heap.size, 0, none⟩ = some (.int .i64 u.acc) ∧ w'.cell? ⟨w.heap.size, 1, none⟩ = some (.int .i64 u.cli))) (first | (simp [go_sem]; done) | (repeat' (first | (with_reducible assumption) | (with_reducible refine And.intro ?_ ?_) | (with_reducible refine cell_drew ?_) | (with_reducible refine cell_via (by with_reducible assumption) ?_ ?_) | (simp [*]; done) | (simp [go_sem]; done) | (with_reducible refine cell_alloc ?_ ?_) | (with_reducible refine cell_set_far ?_ ?_) | omega | (simp; omega)))) (first | (go_at_call 58; (with_reducible refine (CO.out _).mono ?_); rintro e w1 ⟨rfl, hb1⟩; obtain ⟨fc1, fg1, hc1, hf1, hz1⟩ := bget hb1; (try simp at hz1)) | fail)
              go_wp2_with fail
              go_quiet (fail)
              go_wp2_with (first | (at_builtin; refine wpList_app rfl _ _ _ rfl elHoldV (w.heap.size + 1) _ _ rfl (Hown.out.keep (by (repeat' (first | (with_reducible exact Below.refl _ _) | (with_reducible assumption) | (with_reducible refine Below.alloc ?_ ?_ _) | (with_reducible refine Below.setCell ?_ ?_ _) | (with_reducible refine Below.drew ?_) | (with_reducible refine below_drewN ?_ _) | (with_reducible refine below_via ?_ (by with_reducible assumption) ?_) | omega | (simp; done) | (simp; omega))))) (some ⟨b, o + (k) * 3, none⟩) _ _ rfl ((l.drop (k)).map encHoldV) (by simp) (fun h => by cases h) (by rw [List.map_drop]; exact rd_dropR (HF.out.keep (by have hbw := Hbw.out; (repeat' (first | (with_reducible exact Below.refl _ _) | (with_reducible assumption) | (with_reducible refine Below.alloc ?_ ?_ _) | (with_reducible refine Below.setCell ?_ ?_ _) | (with_reducible refine Below.drew ?_) | (with_reducible refine below_drewN ?_ _) | (with_reducible refine below_via ?_ (by with_reducible assumption) ?_) | omega | (simp; done) | (simp; omega))))) (k)) (rowsHoldV _) (by unfold maxLen; simp <;> omega) (by simp <;> omega) (by first | omega | (simp; done) | (simp; omega)) ?_; intro v6 w6 hown6 hb6; have HO6 := Lib.hid hown6; clear hown6; obtain ⟨fc6, fg6, hc6, hf6, hz6⟩ := bget hb6; (try simp at hz6)) | (at_builtin; refine wpList_app rfl _ _ _ rfl elHoldV (w.heap.size + 1) _ _ rfl (Hown.out.keep (by (repeat' (first | (with_reducible exact Below.refl _ _) | (with_reducible assumption) | (with_reducible refine Below.alloc ?_ ?_ _) | (with_reducible refine Below.setCell ?_ ?_ _) | (with_reducible refine Below.drew ?_) | (with_reducible refine below_drewN ?_ _) | (with_reducible refine below_via ?_ (by with_reducible assumption) ?_) | omega | (simp; done) | (simp; omega))))) (some ⟨b, o, none⟩) _ _ rfl ((l.drop (k)).map encHoldV) (by simp <;> omega) (fun h => by cases h) (by rw [List.drop_eq_nil_of_le (by omega)]; exact fun i r h => by simp at h) (rowsHoldV _) (by unfold maxLen; simp <;> omega) (by simp <;> omega) (by first | omega | (simp; done) | (simp; omega)) ?_; intro v6 w6 hown6 hb6; have HO6 := Lib.hid hown6; clear hown6; obtain ⟨fc6, fg6, hc6, hf6, hz6⟩ := bget hb6; (try simp at hz6)) | fail)
              go_ret
              have hbx : Below w.heap.size w w6 := by have hbw := Hbw.out; (repeat' (first | (with_reducible exact Below.refl _ _) | (with_reducible assumption) | (with_reducible refine Below.alloc ?_ ?_ _) | (with_reducible refine Below.setCell ?_ ?_ _) | (with_reducible refine Below.drew ?_) | (with_reducible refine below_drewN ?_ _) | (with_reducible refine below_via ?_ (by with_reducible assumption) ?_) | omega | (simp; done) | (simp; omega)))
              refine ⟨_, l.take k ++ l.drop (k), rfl, by rw [HWK.out]; rw [List.map_append, List.map_take, List.map_drop], ?_, fun y hy => ?_, fun g hg y hy => ?_, hbx⟩
              · have h6 := HO6.out.mono (b := w.heap.size) (by omega)
                (try rw [List.append_assoc] at h6)
                (repeat rw [List.map_append])
                exact h6
              · first | rw [List.mem_append, List.mem_cons] at hy | rw [List.mem_append] at hy
                (first | (rcases hy with hy | hy; exact (HGG.out y (List.mem_of_mem_take hy)).keep hbx; exact (HGG.out y (List.mem_of_mem_drop hy)).keep hbx) | (rcases hy with hy | rfl | hy; exact (HGG.out y (List.mem_of_mem_take hy)).keep hbx; exact HMG.out.keep hbx; exact (HGG.out y (List.mem_of_mem_drop hy)).keep hbx))
              · first | rw [List.mem_append, List.mem_cons] at hy | rw [List.mem_append] at hy
                (first | (rcases hy with hy | hy; exact (HSS.out g hg).1 y (List.mem_of_mem_take hy); exact (HSS.out g hg).1 y (List.mem_of_mem_drop hy)) | (rcases hy with hy | rfl | hy; exact (HSS.out g hg).1 y (List.mem_of_mem_take hy); exact (HSS.out g hg).2; exact (HSS.out g hg).1 y (List.mem_of_mem_drop hy)))
            · have HWK := Lib.hid (HWP.out.trans (by rw [show oneK u all = [⟨u, all⟩] from by unfold oneK; rw [if_neg (by rw [List.isEmpty_iff]; intro e; rw [e] at hne; simp at hne)]]))
              go_wp2_with fail
              go_region_held3 (fun w' => (w'.cell? ⟨b, o + k * 3, none⟩ = some (.int .i64 l[k].unit.acc) ∧ w'.cell? ⟨b, o + k * 3 + 1, none⟩ = some (.int .i64 l[k].unit.cli)) ∧ (w'.cell? ⟨w.heap.size, 0, none⟩ = some (.int .i64 u.acc) ∧ w'.cell? ⟨w.heap.size, 1, none⟩ = some (.int .i64 u.cli))) (first | (simp [go_sem]; done) | (repeat' (first | (with_reducible assumption) | (with_reducible refine And.intro ?_ ?_) | (with_reducible refine cell_drew ?_) | (with_reducible refine cell_via (by with_reducible assumption) ?_ ?_) | (simp [*]; done) | (simp [go_sem]; done) | (with_reducible refine cell_alloc ?_ ?_) | (with_reducible refine cell_set_far ?_ ?_) | omega | (simp; omega)))) (first | (go_at_call 58; (with_reducible refine (CO.out _).mono ?_); rintro e w1 ⟨rfl, hb1⟩; obtain ⟨fc1, fg1, hc1, hf1, hz1⟩ := bget hb1; (try simp at hz1)) | fail)
              go_wp2_with (at_builtin; refine wpList_app rfl _ _ _ rfl elHoldV (w.heap.size + 1) _ _ rfl (Hown.out.keep (by (repeat' (first | (with_reducible exact Below.refl _ _) | (with_reducible assumption) | (with_reducible refine Below.alloc ?_ ?_ _) | (with_reducible refine Below.setCell ?_ ?_ _) | (with_reducible refine Below.drew ?_) | (with_reducible refine below_drewN ?_ _) | (with_reducible refine below_via ?_ (by with_reducible assumption) ?_) | omega | (simp; done) | (simp; omega))))) (some ⟨_, 0, none⟩) 1 1 rfl [[.int .i64 u.acc, .int .i64 u.cli, .slice B all.length d]] rfl (fun h => by cases h) (by first | exact rd_oneN (by simp) | exact rd_oneD (by simp)) (row3HoldV _ _ _ _ _) (by unfold maxLen; simp <;> omega) (by simp <;> omega) (by first | omega | (simp; done) | (simp; omega)) ?_; intro v5 w5 hown5 hb5; have HO5 := Lib.hid hown5; clear hown5; obtain ⟨fc5, fg5, hc5, hf5, hz5⟩ := bget hb5; (try simp at hz5))
              go_quiet (fail)
              go_wp2_with (first | (at_builtin; refine wpList_app rfl _ _ _ rfl elHoldV (w.heap.size + 1) _ _ rfl (HO5.out.keep (by (repeat' (first | (with_reducible exact Below.refl _ _) | (with_reducible assumption) | (with_reducible refine Below.alloc ?_ ?_ _) | (with_reducible refine Below.setCell ?_ ?_ _) | (with_reducible refine Below.drew ?_) | (with_reducible refine below_drewN ?_ _) | (with_reducible refine below_via ?_ (by with_reducible assumption) ?_) | omega | (simp; done) | (simp; omega))))) (some ⟨b, o + (k) * 3, none⟩) _ _ rfl ((l.drop (k)).map encHoldV) (by simp) (fun h => by cases h) (by rw [List.map_drop]; exact rd_dropR (HF.out.keep (by have hbw := Hbw.out; (repeat' (first | (with_reducible exact Below.refl _ _) | (with_reducible assumption) | (with_reducible refine Below.alloc ?_ ?_ _) | (with_reducible refine Below.setCell ?_ ?_ _) | (with_reducible refine Below.drew ?_) | (with_reducible refine below_drewN ?_ _) | (with_reducible refine below_via ?_ (by with_reducible assumption) ?_) | omega | (simp; done) | (simp; omega))))) (k)) (rowsHoldV _) (by unfold maxLen; simp <;> omega) (by simp <;> omega) (by first | omega | (simp; done) | (simp; omega)) ?_; intro v6 w6 hown6 hb6; have HO6 := Lib.hid hown6; clear hown6; obtain ⟨fc6, fg6, hc6, hf6, hz6⟩ := bget hb6; (try simp at hz6)) | (at_builtin; refine wpList_app rfl _ _ _ rfl elHoldV (w.heap.size + 1) _ _ rfl (HO5.out.keep (by (repeat' (first | (with_reducible exact Below.refl _ _) | (with_reducible assumption) | (with_reducible refine Below.alloc ?_ ?_ _) | (with_reducible refine Below.setCell ?_ ?_ _) | (with_reducible refine Below.drew ?_) | (with_reducible refine below_drewN ?_ _) | (with_reducible refine below_via ?_ (by with_reducible assumption) ?_) | omega | (simp; done) | (simp; omega))))) (some ⟨b, o, none⟩) _ _ rfl ((l.drop (k)).map encHoldV) (by simp <;> omega) (fun h => by cases h) (by rw [List.drop_eq_nil_of_le (by omega)]; exact fun i r h => by simp at h) (rowsHoldV _) (by unfold maxLen; simp <;> omega) (by simp <;> omega) (by first | omega | (simp; done) | (simp; omega)) ?_; intro v6 w6 hown6 hb6; have HO6 := Lib.hid hown6; clear hown6; obtain ⟨fc6, fg6, hc6, hf6, hz6⟩ := bget hb6; (try simp at hz6)) | fail)
              go_ret
              have hbx : Below w.heap.size w w6 := by have hbw := Hbw.out; (repeat' (first | (with_reducible exact Below.refl _ _) | (with_reducible assumption) | (with_reducible refine Below.alloc ?_ ?_ _) | (with_reducible refine Below.setCell ?_ ?_ _) | (with_reducible refine Below.drew ?_) | (with_reducible refine below_drewN ?_ _) | (with_reducible refine below_via ?_ (by with_reducible assumption) ?_) | omega | (simp; done) | (simp; omega)))
              refine ⟨_, l.take k ++ (⟨u, ⟨B, d, all⟩⟩ :: l.drop (k)), rfl, by rw [HWK.out]; (rw [List.map_append, List.map_cons, List.map_take, List.map_drop]; rfl), ?_, fun y hy => ?_, fun g hg y hy => ?_, hbx⟩
              · have h6 := HO6.out.mono (b := w.heap.size) (by omega)
                (try rw [List.append_assoc] at h6)
                (repeat rw [List.map_append])
                exact h6
              · first | rw [List.mem_append, List.mem_cons] at hy | rw [List.mem_append] at hy
                (first | (rcases hy with hy | hy; exact (HGG.out y (List.mem_of_mem_take hy)).keep hbx; exact (HGG.out y (List.mem_of_mem_drop hy)).keep hbx) | (rcases hy with hy | rfl | hy; exact (HGG.out y (List.mem_of_mem_take hy)).keep hbx; exact HMG.out.keep hbx; exact (HGG.out y (List.mem_of_mem_drop hy)).keep hbx))
              · first | rw [List.mem_append, List.mem_cons] at hy | rw [List.mem_append] at hy
                (first | (rcases hy with hy | hy; exact (HSS.out g hg).1 y (List.mem_of_mem_take hy); exact (HSS.out g hg).1 y (List.mem_of_mem_drop hy)) | (rcases hy with hy | rfl | hy; exact (HSS.out g hg).1 y (List.mem_of_mem_take hy); exact (HSS.out g hg).2; exact (HSS.out g hg).1 y (List.mem_of_mem_drop hy)))
          · cases hne : decide (0 < all.length)
            · have HWK := Lib.hid (HWP.out.trans (by rw [show oneK u all = [] from by unfold oneK; rw [if_pos (by rw [List.isEmpty_iff]; exact List.eq_nil_of_length_eq_zero (by have := of_decide_eq_false hne; omega))], List.nil_append]))
              go_wp2_with fail
              go_region_held3 (fun w' => (w'.cell? ⟨b, o + k * 3, none⟩ = some (.int .i64 l[k].unit.acc) ∧ w'.cell? ⟨b, o + k * 3 + 1, none⟩ = some (.int .i64 l[k].unit.cli)) ∧ (w'.cell? ⟨w.heap.size, 0, none⟩ = some (.int .i64 u.acc) ∧ w'.cell? ⟨w.heap.size, 1, none⟩ = some (.int .i64 u.cli))) (first | (simp [go_sem]; done) | (repeat' (first | (with_reducible assumption) | (with_reducible refine And.intro ?_ ?_) | (with_reducible refine cell_drew ?_) | (with_reducible refine cell_via (by with_reducible assumption) ?_ ?_) | (simp [*]; done) | (simp [go_sem]; done) | (with_reducible refine cell_alloc ?_ ?_) | (with_reducible refine cell_set_far ?_ ?_) | omega | (simp; omega)))) (first | (go_at_call 58; (with_reducible refine (CO.out _).mono ?_); rintro e w1 ⟨rfl, hb1⟩; obtain ⟨fc1, fg1, hc1, hf1, hz1⟩ := bget hb1; (try simp at hz1)) | fail)
              go_wp2_with fail
              go_quiet (fail)
              go_wp2_with (first | (at_builtin; refine wpList_app rfl _ _ _ rfl elHoldV (w.heap.size + 1) _ _ rfl (Hown.out.keep (by (repeat' (first | (with_reducible exact Below.refl _ _) | (with_reducible assumption) | (with_reducible refine Below.alloc ?_ ?_ _) | (with_reducible refine Below.setCell ?_ ?_ _) | (with_reducible refine Below.drew ?_) | (with_reducible refine below_drewN ?_ _) | (with_reducible refine below_via ?_ (by with_reducible assumption) ?_) | omega | (simp; done) | (simp; omega))))) (some ⟨b, o + (k) * 3, none⟩) _ _ rfl ((l.drop (k)).map encHoldV) (by simp) (fun h => by cases h) (by rw [List.map_drop]; exact rd_dropR (HF.out.keep (by have hbw := Hbw.out; (repeat' (first | (with_reducible exact Below.refl _ _) | (with_reducible assumption) | (with_reducible refine Below.alloc ?_ ?_ _) | (with_reducible refine Below.setCell ?_ ?_ _) | (with_reducible refine Below.drew ?_) | (with_reducible refine below_drewN ?_ _) | (with_reducible refine below_via ?_ (by with_reducible assumption) ?_) | omega | (simp; done) | (simp; omega))))) (k)) (rowsHoldV _) (by unfold maxLen; simp <;> omega) (by simp <;> omega) (by first | omega | (simp; done) | (simp; omega)) ?_; intro v6 w6 hown6 hb6; have HO6 := Lib.hid hown6; clear hown6; obtain ⟨fc6, fg6, hc6, hf6, hz6⟩ := bget hb6; (try simp at hz6)) | (at_builtin; refine wpList_app rfl _ _ _ rfl elHoldV (w.heap.size + 1) _ _ rfl (Hown.out.keep (by (repeat' (first | (with_reducible exact Below.refl _ _) | (with_reducible assumption) | (with_reducible refine Below.alloc ?_ ?_ _) | (with_reducible refine Below.setCell ?_ ?_ _) | (with_reducible refine Below.drew ?_) | (with_reducible refine below_drewN ?_ _) | (with_reducible refine below_via ?_ (by with_reducible assumption) ?_) | omega | (simp; done) | (simp; omega))))) (some ⟨b, o, none⟩) _ _ rfl ((l.drop (k)).map encHoldV) (by simp <;> omega) (fun h => by cases h) (by rw [List.drop_eq_nil_of_le (by omega)]; exact fun i r h => by simp at h) (rowsHoldV _) (by unfold maxLen; simp <;> omega) (by simp <;> omega) (by first | omega | (simp; done) | (simp; omega)) ?_; intro v6 w6 hown6 hb6; have HO6 := Lib.hid hown6; clear hown6; obtain ⟨fc6, fg6, hc6, hf6, hz6⟩ := bget hb6; (try simp at hz6)) | fail)
              go_ret
              have hbx : Below w.heap.size w w6 := by have hbw := Hbw.out; (repeat' (first | (with_reducible exact Below.refl _ _) | (with_reducible assumption) | (with_reducible refine Below.alloc ?_ ?_ _) | (with_reducible refine Below.setCell ?_ ?_ _) | (with_reducible refine Below.drew ?_) | (with_reducible refine below_drewN ?_ _) | (with_reducible refine below_via ?_ (by with_reducible assumption) ?_) | omega | (simp; done) | (simp; omega)))
              refine ⟨_, l.take k ++ l.drop (k), rfl, by rw [HWK.out]; rw [List.map_append, List.map_take, List.map_drop], ?_, fun y hy => ?_, fun g hg y hy => ?_, hbx⟩
              · have h6 := HO6.out.mono (b := w.heap.size) (by omega)
                (try rw [List.append_assoc] at h6)
                (repeat rw [List.map_append])
                exact h6
              · first | rw [List.mem_append, List.mem_cons] at hy | rw [List.mem_append] at hy
                (first | (rcases hy with hy | hy; exact (HGG.out y (List.mem_of_mem_take hy)).keep hbx; exact (HGG.out y (List.mem_of_mem_drop hy)).keep hbx) | (rcases hy with hy | rfl | hy; exact (HGG.out y (List.mem_of_mem_take hy)).keep hbx; exact HMG.out.keep hbx; exact (HGG.out y (List.mem_of_mem_drop hy)).keep hbx))
              · first | rw [List.mem_append, List.mem_cons] at hy | rw [List.mem_append] at hy
                (first | (rcases hy with hy | hy; exact (HSS.out g hg).1 y (List.mem_of_mem_take hy); exact (HSS.out g hg).1 y (List.mem_of_mem_drop hy)) | (rcases hy with hy | rfl | hy; exact (HSS.out g hg).1 y (List.mem_of_mem_take hy); exact (HSS.out g hg).2; exact (HSS.out g hg).1 y (List.mem_of_mem_drop hy)))
            · have HWK := Lib.hid (HWP.out.trans (by rw [show oneK u all = [⟨u, all⟩] from by unfold oneK; rw [if_neg (by rw [List.isEmpty_iff]; intro e; rw [e] at hne; simp at hne)]]))
              go_wp2_with fail
              go_region_held3 (fun w' => (w'.cell? ⟨b, o + k * 3, none⟩ = some (.int .i64 l[k].unit.acc) ∧ w'.cell? ⟨b, o + k * 3 + 1, none⟩ = some (.int .i64 l[k].unit.cli)) ∧ (w'.cell? ⟨w.heap.size, 0, none⟩ = some (.int .i64 u.acc) ∧ w'.cell? ⟨w.heap.size, 1, none⟩ = some (.int .i64 u.cli))) (first | (simp [go_sem]; done) | (repeat' (first | (with_reducible assumption) | (with_reducible refine And.intro ?_ ?_) | (with_reducible refine cell_drew ?_) | (with_reducible refine cell_via (by with_reducible assumption) ?_ ?_) | (simp [*]; done) | (simp [go_sem]; done) | (with_reducible refine cell_alloc ?_ ?_) | (with_reducible refine cell_set_far ?_ ?_) | omega | (simp; omega)))) (first | (go_at_call 58; (with_reducible refine (CO.out _).mono ?_); rintro e w1 ⟨rfl, hb1⟩; obtain ⟨fc1, fg1, hc1, hf1, hz1⟩ := bget hb1; (try simp at hz1)) | fail)
              go_wp2_with (at_builtin; refine wpList_app rfl _ _ _ rfl elHoldV (w.heap.size + 1) _ _ rfl (Hown.out.keep (by (repeat' (first | (with_reducible exact Below.refl _ _) | (with_reducible assumption) | (with_reducible refine Below.alloc ?_ ?_ _) | (with_reducible refine Below.setCell ?_ ?_ _) | (with_reducible refine Below.drew ?_) | (with_reducible refine below_drewN ?_ _) | (with_reducible refine below_via ?_ (by with_reducible assumption) ?_) | omega | (simp; done) | (simp; omega))))) (some ⟨_, 0, none⟩) 1 1 rfl [[.int .i64 u.acc, .int .i64 u.cli, .slice B all.length d]] rfl (fun h => by cases h) (by first | exact rd_oneN (by simp) | exact rd_oneD (by simp)) (row3HoldV _ _ _ _ _) (by unfold maxLen; simp <;> omega) (by simp <;> omega) (by first | omega | (simp; done) | (simp; omega)) ?_; intro v5 w5 hown5 hb5; have HO5 := Lib.hid hown5; clear hown5; obtain ⟨fc5, fg5, hc5, hf5, hz5⟩ := bget hb5; (try simp at hz5))
              go_quiet (fail)
              go_wp2_with (first | (at_builtin; refine wpList_app rfl _ _ _ rfl elHoldV (w.heap.size + 1) _ _ rfl (HO5.out.keep (by (repeat' (first | (with_reducible exact Below.refl _ _) | (with_reducible assumption) | (with_reducible refine Below.alloc ?_ ?_ _) | (with_reducible refine Below.setCell ?_ ?_ _) | (with_reducible refine Below.drew ?_) | (with_reducible refine below_drewN ?_ _) | (with_reducible refine below_via ?_ (by with_reducible assumption) ?_) | omega | (simp; done) | (simp; omega))))) (some ⟨b, o + (k) * 3, none⟩) _ _ rfl ((l.drop (k)).map encHoldV) (by simp) (fun h => by cases h) (by rw [List.map_drop]; exact rd_dropR (HF.out.keep (by have hbw := Hbw.out; (repeat' (first | (with_reducible exact Below.refl _ _) | (with_reducible assumption) | (with_reducible refine Below.alloc ?_ ?_ _) | (with_reducible refine Below.setCell ?_ ?_ _) | (with_reducible refine Below.drew ?_) | (with_reducible refine below_drewN ?_ _) | (with_reducible refine below_via ?_ (by with_reducible assumption) ?_) | omega | (simp; done) | (simp; omega))))) (k)) (rowsHoldV _) (by unfold maxLen; simp <;> omega) (by simp <;> omega) (by first | omega | (simp; done) | (simp; omega)) ?_; intro v6 w6 hown6 hb6; have HO6 := Lib.hid hown6; clear hown6; obtain ⟨fc6, fg6, hc6, hf6, hz6⟩ := bget hb6; (try simp at hz6)) | (at_builtin; refine wpList_app rfl _ _ _ rfl elHoldV (w.heap.size + 1) _ _ rfl (HO5.out.keep (by (repeat' (first | (with_reducible exact Below.refl _ _) | (with_reducible assumption) | (with_reducible refine Below.alloc ?_ ?_ _) | (with_reducible refine Below.setCell ?_ ?_ _) | (with_reducible refine Below.drew ?_) | (with_reducible refine below_drewN ?_ _) | (with_reducible refine below_via ?_ (by with_reducible assumption) ?_) | omega | (simp; done) | (simp; omega))))) (some ⟨b, o, none⟩) _ _ rfl ((l.drop (k)).map encHoldV) (by simp <;> omega) (fun h => by cases h) (by rw [List.drop_eq_nil_of_le (by omega)]; exact fun i r h => by simp at h) (rowsHoldV _) (by unfold maxLen; simp <;> omega) (by simp <;> omega) (by first | omega | (simp; done) | (simp; omega)) ?_; intro v6 w6 hown6 hb6; have HO6 := Lib.hid hown6; clear hown6; obtain ⟨fc6, fg6, hc6, hf6, hz6⟩ := bget hb6; (try simp at hz6)) | fail)
              go_ret
              have hbx : Below w.heap.size w w6 := by have hbw := Hbw.out; (repeat' (first | (with_reducible exact Below.refl _ _) | (with_reducible assumption) | (with_reducible refine Below.alloc ?_ ?_ _) | (with_reducible refine Below.setCell ?_ ?_ _) | (with_reducible refine Below.drew ?_) | (with_reducible refine below_drewN ?_ _) | (with_reducible refine below_via ?_ (by with_reducible assumption) ?_) | omega | (simp; done) | (simp; omega)))
              refine ⟨_, l.take k ++ (⟨u, ⟨B, d, all⟩⟩ :: l.drop (k)), rfl, by rw [HWK.out]; (rw [List.map_append, List.map_cons, List.map_take, List.map_drop]; rfl), ?_, fun y hy => ?_, fun g hg y hy => ?_, hbx⟩
              · have h6 := HO6.out.mono (b := w.heap.size) (by omega)
                (try rw [List.append_assoc] at h6)
                (repeat rw [List.map_append])
                exact h6
              · first | rw [List.mem_append, List.mem_cons] at hy | rw [List.mem_append] at hy
                (first | (rcases hy with hy | hy; exact (HGG.out y (List.mem_of_mem_take hy)).keep hbx; exact (HGG.out y (List.mem_of_mem_drop hy)).keep hbx) | (rcases hy with hy | rfl | hy; exact (HGG.out y (List.mem_of_mem_take hy)).keep hbx; exact HMG.out.keep hbx; exact (HGG.out y (List.mem_of_mem_drop hy)).keep hbx))
              · first | rw [List.mem_append, List.mem_cons] at hy | rw [List.mem_append] at hy
                (first | (rcases hy with hy | hy; exact (HSS.out g hg).1 y (List.mem_of_mem_take hy); exact (HSS.out g hg).1 y (List.mem_of_mem_drop hy)) | (rcases hy with hy | rfl | hy; exact (HSS.out g hg).1 y (List.mem_of_mem_take hy); exact (HSS.out g hg).2; exact (HSS.out g hg).1 y (List.mem_of_mem_drop hy)))
      · have CO := Lib.hid (fun W => hm ▸ ref15Less l[k].unit u W)
        have Hm := Lib.hid hm
        have HSN := Lib.hid (show (l.take (k + 1)).map encHoldV = (l.take k).map encHoldV ++ [encHoldV l[k]] from map_snoc hlt _)
        clear hm
        go_wp2_with fail
        go_region_held3 (fun w' => (w'.cell? ⟨b, o + k * 3, none⟩ = some (.int .i64 l[k].unit.acc) ∧ w'.cell? ⟨b, o + k * 3 + 1, none⟩ = some (.int .i64 l[k].unit.cli)) ∧ (w'.cell? ⟨w.heap.size, 0, none⟩ = some (.int .i64 u.acc) ∧ w'.cell? ⟨w.heap.size, 1, none⟩ = some (.int .i64 u.cli))) (first | (simp [go_sem]; done) | (repeat' (first | (with_reducible assumption) | (with_reducible refine And.intro ?_ ?_) | (with_reducible refine cell_drew ?_) | (with_reducible refine cell_via (by with_reducible assumption) ?_ ?_) | (simp [*]; done) | (simp [go_sem]; done) | (with_reducible refine cell_alloc ?_ ?_) | (with_reducible refine cell_set_far ?_ ?_) | omega | (simp; omega)))) (first | (go_at_call 58; (with_reducible refine (CO.out _).mono ?_); rintro e w1 ⟨rfl, hb1⟩; obtain ⟨fc1, fg1, hc1, hf1, hz1⟩ := bget hb1; (try simp at hz1)) | fail)
        go_wp2_with (at_builtin; refine wpList_app rfl _ _ _ rfl elHoldV (w.heap.size + 1) _ _ rfl (Hown.out.keep (by (repeat' (first | (with_reducible exact Below.refl _ _) | (with_reducible assumption) | (with_reducible refine Below.alloc ?_ ?_ _) | (with_reducible refine Below.setCell ?_ ?_ _) | (with_reducible refine Below.drew ?_) | (with_reducible refine below_drewN ?_ _) | (with_reducible refine below_via ?_ (by with_reducible assumption) ?_) | omega | (simp; done) | (simp; omega))))) (some ⟨_, 0, none⟩) 1 1 rfl [[.int .i64 l[k].unit.acc, .int .i64 l[k].unit.cli, .slice l[k].lots.A l[k].lots.val.length l[k].lots.c]] rfl (fun h => by cases h) (by first | exact rd_oneN (by simp) | exact rd_oneD (by simp)) (row3HoldV _ _ _ _ _) (by unfold maxLen; simp <;> omega) (by simp <;> omega) (by first | omega | (simp; done) | (simp; omega)) ?_; intro v4 w4 hown4 hb4; have HO4 := Lib.hid hown4; clear hown4; obtain ⟨fc4, fg4, hc4, hf4, hz4⟩ := bget hb4; (try simp at hz4))
        go_roundw
        case rel => exact ⟨k + 1, by omega, by go_num, by rw [HSN.out]; exact HO4.out, by have hbl := Hbl.out; (repeat' (first | (with_reducible exact Below.refl _ _) | (with_reducible assumption) | (with_reducible refine Below.alloc ?_ ?_ _) | (with_reducible refine Below.setCell ?_ ?_ _) | (with_reducible refine Below.drew ?_) | (with_reducible refine below_drewN ?_ _) | (with_reducible refine below_via ?_ (by with_reducible assumption) ?_) | omega | (simp; done) | (simp; omega))), fun j hj h => by
          rcases Nat.lt_or_ge j k with h1 | h1
          · exact Hno.out j hj h1
          · obtain rfl : j = k := by omega
            exact Hm.out⟩
        case measure => simp [intOf]; omega
    · have hkl : k = l.length := by omega
      have kl : ¬ (k : Int) < (l.length : Int) := by omega
      have dl : decide ((k : Int) < (l.length : Int)) = false := by simpa using hlt
      have kl2 : (k : Int) ≤ (l.length : Int) := by omega
      have hpl := plK_at Hno.out hk (fun h => absurd h hlt)
      have hth := thK_end (hkl ▸ hpl)
      have HWP := Lib.hid (show withK (l.map lgHoldV) u all = (l.map lgHoldV).take k ++ (oneK u all ++ (l.map lgHoldV).drop k) from by rw [HWW.out all, hpl, hth, if_neg (by simp)]; rfl)
      have HKL := Lib.hid hkl
      clear hpl hth hkl
      by_cases hcq : c = k
      · cases hne : decide (0 < all.length)
        · have HWK := Lib.hid (HWP.out.trans (by rw [show oneK u all = [] from by unfold oneK; rw [if_pos (by rw [List.isEmpty_iff]; exact List.eq_nil_of_length_eq_zero (by have := of_decide_eq_false hne; omega))], List.nil_append]))
          go_wp2_with fail
          refine wp_region_held_drew (S := (fun w' => (w'.cell? ⟨w.heap.size, 0, none⟩ = some (.int .i64 u.acc) ∧ w'.cell? ⟨w.heap.size, 1, none⟩ = some (.int .i64 u.cli)))) (by kernel_rfl) ?_ (fun hHeld => ?_)
          · (first | (simp [go_sem]; done) | (repeat' (first | (with_reducible assumption) | (with_reducible refine And.intro ?_ ?_) | (with_reducible refine cell_drew ?_) | (with_reducible refine cell_via (by with_reducible assumption) ?_ ?_) | (simp [*]; done) | (simp [go_sem]; done) | (with_reducible refine cell_alloc ?_ ?_) | (with_reducible refine cell_set_far ?_ ?_) | omega | (simp; omega))))
          refine wpAnyH_take (i := 0) (v := ?_) rfl (by kernel_rfl) (by kernel_rfl) (by kernel_rfl) (fun _ _ _ h => h) (Or.inl ⟨by rfl, ?_⟩) (by assumption) ?_
          rotate_left
          focus (intro w hSw; (try dsimp only at hSw); go_simp; (try with_reducible rfl))
          (try simp only [Act.put, List.getElem_toArray, List.getElem_cons_zero, List.setIfInBounds_toArray, List.set_cons_zero, List.set_cons_succ])
          refine wpAnyH_take (i := 1) (v := ?_) rfl (by kernel_rfl) (by kernel_rfl) (by kernel_rfl) (fun _ _ _ h => h) (Or.inl ⟨by rfl, ?_⟩) (by assumption) ?_
          rotate_left
          focus (intro w hSw; (try dsimp only at hSw); go_simp; (try with_reducible rfl))
          (try simp only [Act.put, List.getElem_toArray, List.getElem_cons_succ, List.getElem_cons_zero, List.setIfInBounds_toArray, List.set_cons_zero, List.set_cons_succ])
          refine wpAnyH_take (i := 2) (v := ?_) rfl (by kernel_rfl) (by kernel_rfl) (by kernel_rfl) (fun _ _ _ h => h) (Or.inl ⟨by rfl, ?_⟩) (by assumption) ?_
          rotate_left
          focus (intro w hSw; (try dsimp only at hSw); go_simp; (try with_reducible rfl))
          (try simp only [Act.put, List.getElem_toArray, List.getElem_cons_succ, List.getElem_cons_zero, List.setIfInBounds_toArray, List.set_cons_zero, List.set_cons_succ])
          refine wpAnyH_take (i := 3) (v := ?_) rfl (by kernel_rfl) (by kernel_rfl) (by kernel_rfl) (fun _ _ _ h => h) (Or.inl ⟨by rfl, ?_⟩) (by assumption) ?_
          rotate_left
          focus (intro w hSw; (try dsimp only at hSw); go_simp; (try with_reducible rfl))
          (try simp only [Act.put, List.getElem_toArray, List.getElem_cons_succ, List.getElem_cons_zero, List.setIfInBounds_toArray, List.set_cons_zero, List.set_cons_succ])
          refine wpAnyH_take (i := 4) (v := ?_) rfl (by kernel_rfl) (by kernel_rfl) (by kernel_rfl) (fun _ _ _ h => h) (Or.inl ⟨by rfl, ?_⟩) (by assumption) ?_
          rotate_left
          focus (intro w hSw; (try dsimp only at hSw); go_simp; (try with_reducible rfl))
          (try simp only [Act.put, List.getElem_toArray, List.getElem_cons_succ, List.getElem_cons_zero, List.setIfInBounds_toArray, List.set_cons_zero, List.set_cons_succ])
          refine wpAnyH_take (i := 5) (v := undef) rfl (by kernel_rfl) (by kernel_rfl) (by kernel_rfl) (fun _ _ _ h => h) (Or.inr ⟨by rfl, rfl⟩) (by assumption) ?_
          (try simp only [Act.put, List.getElem_toArray, List.getElem_cons_succ, List.getElem_cons_zero, List.setIfInBounds_toArray, List.set_cons_zero, List.set_cons_succ])
          refine wpAnyH_take (i := 6) (v := undef) rfl (by kernel_rfl) (by kernel_rfl) (by kernel_rfl) (fun _ _ _ h => h) (Or.inr ⟨by rfl, rfl⟩) (by assumption) ?_
          (try simp only [Act.put, List.getElem_toArray, List.getElem_cons_succ, List.getElem_cons_zero, List.setIfInBounds_toArray, List.set_cons_zero, List.set_cons_succ])
          refine wpAnyH_take (i := 7) (v := undef) rfl (by kernel_rfl) (by kernel_rfl) (by kernel_rfl) (fun _ _ _ h => h) (Or.inr ⟨by rfl, rfl⟩) (by assumption) ?_
          (try simp only [Act.put, List.getElem_toArray, List.getElem_cons_succ, List.getElem_cons_zero, List.setIfInBounds_toArray, List.set_cons_zero, List.set_cons_succ])
          refine wpAnyH_take (i := 8) (v := undef) rfl (by kernel_rfl) (by kernel_rfl) (by kernel_rfl) (fun _ _ _ h => h) (Or.inr ⟨by rfl, rfl⟩) (by assumption) ?_
          (try simp only [Act.put, List.getElem_toArray, List.getElem_cons_succ, List.getElem_cons_zero, List.setIfInBounds_toArray, List.set_cons_zero, List.set_cons_succ])
          refine wpAnyH_take (i := 9) (v := undef) rfl (by kernel_rfl) (by kernel_rfl) (by kernel_rfl) (fun _ _ _ h => h) (Or.inr ⟨by rfl, rfl⟩) (by assumption) ?_
          (try simp only [Act.put, List.getElem_toArray, List.getElem_cons_succ, List.getElem_cons_zero, List.setIfInBounds_toArray, List.set_cons_zero, List.set_cons_succ])
          refine wpAnyH_take (i := 10) (v := undef) rfl (by kernel_rfl) (by kernel_rfl) (by kernel_rfl) (fun _ _ _ h => h) (Or.inr ⟨by rfl, rfl⟩) (by assumption) ?_
          (try simp only [Act.put, List.getElem_toArray, List.getElem_cons_succ, List.getElem_cons_zero, List.setIfInBounds_toArray, List.set_cons_zero, List.set_cons_succ])
          refine wpAnyH_take (i := 11) (v := undef) rfl (by kernel_rfl) (by kernel_rfl) (by kernel_rfl) (fun _ _ _ h => h) (Or.inr ⟨by rfl, rfl⟩) (by assumption) ?_
          (try simp only [Act.put, List.getElem_toArray, List.getElem_cons_succ, List.getElem_cons_zero, List.setIfInBounds_toArray, List.set_cons_zero, List.set_cons_succ])
          refine wpAnyH_take (i := 12) (v := ?_) rfl (by kernel_rfl) (by kernel_rfl) (by kernel_rfl) (fun _ _ _ h => h) (Or.inl ⟨by rfl, ?_⟩) (by assumption) ?_
          rotate_left
          focus (intro w hSw; (try dsimp only at hSw); go_simp; (try with_reducible rfl))
          (try simp only [Act.put, List.getElem_toArray, List.getElem_cons_succ, List.getElem_cons_zero, List.setIfInBounds_toArray, List.set_cons_zero, List.set_cons_succ])
          refine wpAnyH_done (by kernel_rfl) ?_ _
          go_wp2_with fail
          go_quiet (fail)
          go_wp2_with (first | (at_builtin; refine wpList_app rfl _ _ _ rfl elHoldV (w.heap.size + 1) _ _ rfl (Hown.out.keep (by (repeat' (first | (with_reducible exact Below.refl _ _) | (with_reducible assumption) | (with_reducible refine Below.alloc ?_ ?_ _) | (with_reducible refine Below.setCell ?_ ?_ _) | (with_reducible refine Below.drew ?_) | (with_reducible refine below_drewN ?_ _) | (with_reducible refine below_via ?_ (by with_reducible assumption) ?_) | omega | (simp; done) | (simp; omega))))) (some ⟨b, o + (k) * 3, none⟩) _ _ rfl ((l.drop (k)).map encHoldV) (by simp) (fun h => by cases h) (by rw [List.map_drop]; exact rd_dropR (HF.out.keep (by have hbw := Hbw.out; (repeat' (first | (with_reducible exact Below.refl _ _) | (with_reducible assumption) | (with_reducible refine Below.alloc ?_ ?_ _) | (with_reducible refine Below.setCell ?_ ?_ _) | (with_reducible refine Below.drew ?_) | (with_reducible refine below_drewN ?_ _) | (with_reducible refine below_via ?_ (by with_reducible assumption) ?_) | omega | (simp; done) | (simp; omega))))) (k)) (rowsHoldV _) (by unfold maxLen; simp <;> omega) (by simp <;> omega) (by first | omega | (simp; done) | (simp; omega)) ?_; intro v6 w6 hown6 hb6; have HO6 := Lib.hid hown6; clear hown6; obtain ⟨fc6, fg6, hc6, hf6, hz6⟩ := bget hb6; (try simp at hz6)) | (at_builtin; refine wpList_app rfl _ _ _ rfl elHoldV (w.heap.size + 1) _ _ rfl (Hown.out.keep (by (repeat' (first | (with_reducible exact Below.refl _ _) | (with_reducible assumption) | (with_reducible refine Below.alloc ?_ ?_ _) | (with_reducible refine Below.setCell ?_ ?_ _) | (with_reducible refine Below.drew ?_) | (with_reducible refine below_drewN ?_ _) | (with_reducible refine below_via ?_ (by with_reducible assumption) ?_) | omega | (simp; done) | (simp; omega))))) (some ⟨b, o, none⟩) _ _ rfl ((l.drop (k)).map encHoldV) (by simp <;> omega) (fun h => by cases h) (by rw [List.drop_eq_nil_of_le (by omega)]; exact fun i r h => by simp at h) (rowsHoldV _) (by unfold maxLen; simp <;> omega) (by simp <;> omega) (by first | omega | (simp; done) | (simp; omega)) ?_; intro v6 w6 hown6 hb6; have HO6 := Lib.hid hown6; clear hown6; obtain ⟨fc6, fg6, hc6, hf6, hz6⟩ := bget hb6; (try simp at hz6)) | fail)
          go_ret
          have hbx : Below w.heap.size w w6 := by have hbw := Hbw.out; (repeat' (first | (with_reducible exact Below.refl _ _) | (with_reducible assumption) | (with_reducible refine Below.alloc ?_ ?_ _) | (with_reducible refine Below.setCell ?_ ?_ _) | (with_reducible refine Below.drew ?_) | (with_reducible refine below_drewN ?_ _) | (with_reducible refine below_via ?_ (by with_reducible assumption) ?_) | omega | (simp; done) | (simp; omega)))
          refine ⟨_, l.take k ++ l.drop (k), rfl, by rw [HWK.out]; rw [List.map_append, List.map_take, List.map_drop], ?_, fun y hy => ?_, fun g hg y hy => ?_, hbx⟩
          · have h6 := HO6.out.mono (b := w.heap.size) (by omega)
            (try rw [List.append_assoc] at h6)
            (repeat rw [List.map_append])
            exact h6
          · first | rw [List.mem_append, List.mem_cons] at hy | rw [List.mem_append] at hy
            (first | (rcases hy with hy | hy; exact (HGG.out y (List.mem_of_mem_take hy)).keep hbx; exact (HGG.out y (List.mem_of_mem_drop hy)).keep hbx) | (rcases hy with hy | rfl | hy; exact (HGG.out y (List.mem_of_mem_take hy)).keep hbx; exact HMG.out.keep hbx; exact (HGG.out y (List.mem_of_mem_drop hy)).keep hbx))
          · first | rw [List.mem_append, List.mem_cons] at hy | rw [List.mem_append] at hy
            (first | (rcases hy with hy | hy; exact (HSS.out g hg).1 y (List.mem_of_mem_take hy); exact (HSS.out g hg).1 y (List.mem_of_mem_drop hy)) | (rcases hy with hy | rfl | hy; exact (HSS.out g hg).1 y (List.mem_of_mem_take hy); exact (HSS.out g hg).2; exact (HSS.out g hg).1 y (List.mem_of_mem_drop hy)))
        · have HWK := Lib.hid (HWP.out.trans (by rw [show oneK u all = [⟨u, all⟩] from by unfold oneK; rw [if_neg (by rw [List.isEmpty_iff]; intro e; rw [e] at hne; simp at hne)]]))
          go_wp2_with fail
          refine wp_region_held_drew (S := (fun w' => (w'.cell? ⟨w.heap.size, 0, none⟩ = some (.int .i64 u.acc) ∧ w'.cell? ⟨w.heap.size, 1, none⟩ = some (.int .i64 u.cli)))) (by kernel_rfl) ?_ (fun hHeld => ?_)
          · (first | (simp [go_sem]; done) | (repeat' (first | (with_reducible assumption) | (with_reducible refine And.intro ?_ ?_) | (with_reducible refine cell_drew ?_) | (with_reducible refine cell_via (by with_reducible assumption) ?_ ?_) | (simp [*]; done) | (simp [go_sem]; done) | (with_reducible refine cell_alloc ?_ ?_) | (with_reducible refine cell_set_far ?_ ?_) | omega | (simp; omega))))
          refine wpAnyH_take (i := 0) (v := ?_) rfl (by kernel_rfl) (by kernel_rfl) (by kernel_rfl) (fun _ _ _ h => h) (Or.inl ⟨by rfl, ?_⟩) (by assumption) ?_
          rotate_left
          focus (intro w hSw; (try dsimp only at hSw); go_simp; (try with_reducible rfl))
          (try simp only [Act.put, List.getElem_toArray, List.getElem_cons_zero, List.setIfInBounds_toArray, List.set_cons_zero, List.set_cons_succ])
          refine wpAnyH_take (i := 1) (v := ?_) rfl (by kernel_rfl) (by kernel_rfl) (by kernel_rfl) (fun _ _ _ h => h) (Or.inl ⟨by rfl, ?_⟩) (by assumption) ?_
          rotate_left
          focus (intro w hSw; (try dsimp only at hSw); go_simp; (try with_reducible rfl))
          (try simp only [Act.put, List.getElem_toArray, List.getElem_cons_succ, List.getElem_cons_zero, List.setIfInBounds_toArray, List.set_cons_zero, List.set_cons_succ])
          refine wpAnyH_take (i := 2) (v := ?_) rfl (by kernel_rfl) (by kernel_rfl) (by kernel_rfl) (fun _ _ _ h => h) (Or.inl ⟨by rfl, ?_⟩) (by assumption) ?_
          rotate_left
          focus (intro w hSw; (try dsimp only at hSw); go_simp; (try with_reducible rfl))
          (try simp only [Act.put, List.getElem_toArray, List.getElem_cons_succ, List.getElem_cons_zero, List.setIfInBounds_toArray, List.set_cons_zero, List.set_cons_succ])
          refine wpAnyH_take (i := 3) (v := ?_) rfl (by kernel_rfl) (by kernel_rfl) (by kernel_rfl) (fun _ _ _ h => h) (Or.inl ⟨by rfl, ?_⟩) (by assumption) ?_
          rotate_left
          focus (intro w hSw; (try dsimp only at hSw); go_simp; (try with_reducible rfl))
          (try simp only [Act.put, List.getElem_toArray, List.getElem_cons_succ, List.getElem_cons_zero, List.setIfInBounds_toArray, List.set_cons_zero, List.set_cons_succ])
          refine wpAnyH_take (i := 4) (v := ?_) rfl (by kernel_rfl) (by kernel_rfl) (by kernel_rfl) (fun _ _ _ h => h) (Or.inl ⟨by rfl, ?_⟩) (by assumption) ?_
          rotate_left
          focus (intro w hSw; (try dsimp only at hSw); go_simp; (try with_reducible rfl))
          (try simp only [Act.put, List.getElem_toArray, List.getElem_cons_succ, List.getElem_cons_zero, List.setIfInBounds_toArray, List.set_cons_zero, List.set_cons_succ])
          refine wpAnyH_take (i := 5) (v := undef) rfl (by kernel_rfl) (by kernel_rfl) (by kernel_rfl) (fun _ _ _ h => h) (Or.inr ⟨by rfl, rfl⟩) (by assumption) ?_
          (try simp only [Act.put, List.getElem_toArray, List.getElem_cons_succ, List.getElem_cons_zero, List.setIfInBounds_toArray, List.set_cons_zero, List.set_cons_succ])
          refine wpAnyH_take (i := 6) (v := undef) rfl (by kernel_rfl) (by kernel_rfl) (by kernel_rfl) (fun _ _ _ h => h) (Or.inr ⟨by rfl, rfl⟩) (by assumption) ?_
          (try simp only [Act.put, List.getElem_toArray, List.getElem_cons_succ, List.getElem_cons_zero, List.setIfInBounds_toArray, List.set_cons_zero, List.set_cons_succ])
          refine wpAnyH_take (i := 7) (v := undef) rfl (by kernel_rfl) (by kernel_rfl) (by kernel_rfl) (fun _ _ _ h => h) (Or.inr ⟨by rfl, rfl⟩) (by assumption) ?_
          (try simp only [Act.put, List.getElem_toArray, List.getElem_cons_succ, List.getElem_cons_zero, List.setIfInBounds_toArray, List.set_cons_zero, List.set_cons_succ])
          refine wpAnyH_take (i := 8) (v := undef) rfl (by kernel_rfl) (by kernel_rfl) (by kernel_rfl) (fun _ _ _ h => h) (Or.inr ⟨by rfl, rfl⟩) (by assumption) ?_
          (try simp only [Act.put, List.getElem_toArray, List.getElem_cons_succ, List.getElem_cons_zero, List.setIfInBounds_toArray, List.set_cons_zero, List.set_cons_succ])
          refine wpAnyH_take (i := 9) (v := undef) rfl (by kernel_rfl) (by kernel_rfl) (by kernel_rfl) (fun _ _ _ h => h) (Or.inr ⟨by rfl, rfl⟩) (by assumption) ?_
          (try simp only [Act.put, List.getElem_toArray, List.getElem_cons_succ, List.getElem_cons_zero, List.setIfInBounds_toArray, List.set_cons_zero, List.set_cons_succ])
          refine wpAnyH_take (i := 10) (v := undef) rfl (by kernel_rfl) (by kernel_rfl) (by kernel_rfl) (fun _ _ _ h => h) (Or.inr ⟨by rfl, rfl⟩) (by assumption) ?_
          (try simp only [Act.put, List.getElem_toArray, List.getElem_cons_succ, List.getElem_cons_zero, List.setIfInBounds_toArray, List.set_cons_zero, List.set_cons_succ])
          refine wpAnyH_take (i := 11) (v := undef) rfl (by kernel_rfl) (by kernel_rfl) (by kernel_rfl) (fun _ _ _ h => h) (Or.inr ⟨by rfl, rfl⟩) (by assumption) ?_
          (try simp only [Act.put, List.getElem_toArray, List.getElem_cons_succ, List.getElem_cons_zero, List.setIfInBounds_toArray, List.set_cons_zero, List.set_cons_succ])
          refine wpAnyH_take (i := 12) (v := ?_) rfl (by kernel_rfl) (by kernel_rfl) (by kernel_rfl) (fun _ _ _ h => h) (Or.inl ⟨by rfl, ?_⟩) (by assumption) ?_
          rotate_left
          focus (intro w hSw; (try dsimp only at hSw); go_simp; (try with_reducible rfl))
          (try simp only [Act.put, List.getElem_toArray, List.getElem_cons_succ, List.getElem_cons_zero, List.setIfInBounds_toArray, List.set_cons_zero, List.set_cons_succ])
          refine wpAnyH_done (by kernel_rfl) ?_ _
          go_wp2_with (at_builtin; refine wpList_app rfl _ _ _ rfl elHoldV (w.heap.size + 1) _ _ rfl (Hown.out.keep (by (repeat' (first | (with_reducible exact Below.refl _ _) | (with_reducible assumption) | (with_reducible refine Below.alloc ?_ ?_ _) | (with_reducible refine Below.setCell ?_ ?_ _) | (with_reducible refine Below.drew ?_) | (with_reducible refine below_drewN ?_ _) | (with_reducible refine below_via ?_ (by with_reducible assumption) ?_) | omega | (simp; done) | (simp; omega))))) (some ⟨_, 0, none⟩) 1 1 rfl [[.int .i64 u.acc, .int .i64 u.cli, .slice B all.length d]] rfl (fun h => by cases h) (by first | exact rd_oneN (by simp) | exact rd_oneD (by simp)) (row3HoldV _ _ _ _ _) (by unfold maxLen; simp <;> omega) (by simp <;> omega) (by first | omega | (simp; done) | (simp; omega)) ?_; intro v5 w5 hown5 hb5; have HO5 := Lib.hid hown5; clear hown5; obtain ⟨fc5, fg5, hc5, hf5, hz5⟩ := bget hb5; (try simp at hz5))
          go_quiet (fail)
          go_wp2_with (first | (at_builtin; refine wpList_app rfl _ _ _ rfl elHoldV (w.heap.size + 1) _ _ rfl (HO5.out.keep (by (repeat' (first | (with_reducible exact Below.refl _ _) | (with_reducible assumption) | (with_reducible refine Below.alloc ?_ ?_ _) | (with_reducible refine Below.setCell ?_ ?_ _) | (with_reducible refine Below.drew ?_) | (with_reducible refine below_drewN ?_ _) | (with_reducible refine below_via ?_ (by with_reducible assumption) ?_) | omega | (simp; done) | (simp; omega))))) (some ⟨b, o + (k) * 3, none⟩) _ _ rfl ((l.drop (k)).map encHoldV) (by simp) (fun h => by cases h) (by rw [List.map_drop]; exact rd_dropR (HF.out.keep (by have hbw := Hbw.out; (repeat' (first | (with_reducible exact Below.refl _ _) | (with_reducible assumption) | (with_reducible refine Below.alloc ?_ ?_ _) | (with_reducible refine Below.setCell ?_ ?_ _) | (with_reducible refine Below.drew ?_) | (with_reducible refine below_drewN ?_ _) | (with_reducible refine below_via ?_ (by with_reducible assumption) ?_) | omega | (simp; done) | (simp; omega))))) (k)) (rowsHoldV _) (by unfold maxLen; simp <;> omega) (by simp <;> omega) (by first | omega | (simp; done) | (simp; omega)) ?_; intro v6 w6 hown6 hb6; have HO6 := Lib.hid hown6; clear hown6; obtain ⟨fc6, fg6, hc6, hf6, hz6⟩ := bget hb6; (try simp at hz6)) | (at_builtin; refine wpList_app rfl _ _ _ rfl elHoldV (w.heap.size + 1) _ _ rfl (HO5.out.keep (by (repeat' (first | (with_reducible exact Below.refl _ _) | (with_reducible assumption) | (with_reducible refine Below.alloc ?_ ?_ _) | (with_reducible refine Below.setCell ?_ ?_ _) | (with_reducible refine Below.drew ?_) | (with_reducible refine below_drewN ?_ _) | (with_reducible refine below_via ?_ (by with_reducible assumption) ?_) | omega | (simp; done) | (simp; omega))))) (some ⟨b, o, none⟩) _ _ rfl ((l.drop (k)).map encHoldV) (by simp <;> omega) (fun h => by cases h) (by rw [List.drop_eq_nil_of_le (by omega)]; exact fun i r h => by simp at h) (rowsHoldV _) (by unfold maxLen; simp <;> omega) (by simp <;> omega) (by first | omega | (simp; done) | (simp; omega)) ?_; intro v6 w6 hown6 hb6; have HO6 := Lib.hid hown6; clear hown6; obtain ⟨fc6, fg6, hc6, hf6, hz6⟩ := bget hb6; (try simp at hz6)) | fail)
          go_ret
          have hbx : Below w.heap.size w w6 := by have hbw := Hbw.out; (repeat' (first | (with_reducible exact Below.refl _ _) | (with_reducible assumption) | (with_reducible refine Below.alloc ?_ ?_ _) | (with_reducible refine Below.setCell ?_ ?_ _) | (with_reducible refine Below.drew ?_) | (with_reducible refine below_drewN ?_ _) | (with_reducible refine below_via ?_ (by with_reducible assumption) ?_) | omega | (simp; done) | (simp; omega)))
          refine ⟨_, l.take k ++ (⟨u, ⟨B, d, all⟩⟩ :: l.drop (k)), rfl, by rw [HWK.out]; (rw [List.map_append, List.map_cons, List.map_take, List.map_drop]; rfl), ?_, fun y hy => ?_, fun g hg y hy => ?_, hbx⟩
          · have h6 := HO6.out.mono (b := w.heap.size) (by omega)
            (try rw [List.append_assoc] at h6)
            (repeat rw [List.map_append])
            exact h6
          · first | rw [List.mem_append, List.mem_cons] at hy | rw [List.mem_append] at hy
            (first | (rcases hy with hy | hy; exact (HGG.out y (List.mem_of_mem_take hy)).keep hbx; exact (HGG.out y (List.mem_of_mem_drop hy)).keep hbx) | (rcases hy with hy | rfl | hy; exact (HGG.out y (List.mem_of_mem_take hy)).keep hbx; exact HMG.out.keep hbx; exact (HGG.out y (List.mem_of_mem_drop hy)).keep hbx))
          · first | rw [List.mem_append, List.mem_cons] at hy | rw [List.mem_append] at hy
            (first | (rcases hy with hy | hy; exact (HSS.out g hg).1 y (List.mem_of_mem_take hy); exact (HSS.out g hg).1 y (List.mem_of_mem_drop hy)) | (rcases hy with hy | rfl | hy; exact (HSS.out g hg).1 y (List.mem_of_mem_take hy); exact (HSS.out g hg).2; exact (HSS.out g hg).1 y (List.mem_of_mem_drop hy)))
      · cases hne : decide (0 < all.length)
        · have HWK := Lib.hid (HWP.out.trans (by rw [show oneK u all = [] from by unfold oneK; rw [if_pos (by rw [List.isEmpty_iff]; exact List.eq_nil_of_length_eq_zero (by have := of_decide_eq_false hne; omega))], List.nil_append]))
          go_wp2_with fail
          refine wp_region_held_drew (S := (fun w' => (w'.cell? ⟨w.heap.size, 0, none⟩ = some (.int .i64 u.acc) ∧ w'.cell? ⟨w.heap.size, 1, none⟩ = some (.int .i64 u.cli)))) (by kernel_rfl) ?_ (fun hHeld => ?_)
          · (first | (simp [go_sem]; done) | (repeat' (first | (with_reducible assumption) | (with_reducible refine And.intro ?_ ?_) | (with_reducible refine cell_drew ?_) | (with_reducible refine cell_via (by with_reducible assumption) ?_ ?_) | (simp [*]; done) | (simp [go_sem]; done) | (with_reducible refine cell_alloc ?_ ?_) | (with_reducible refine cell_set_far ?_ ?_) | omega | (simp; omega))))
          refine wpAnyH_take (i := 0) (v := ?_) rfl (by kernel_rfl) (by kernel_rfl) (by kernel_rfl) (fun _ _ _ h => h) (Or.inl ⟨by rfl, ?_⟩) (by assumption) ?_
          rotate_left
          focus (intro w hSw; (try dsimp only at hSw); go_simp; (try with_reducible rfl))
          (try simp only [Act.put, List.getElem_toArray, List.getElem_cons_zero, List.setIfInBounds_toArray, List.set_cons_zero, List.set_cons_succ])
          refine wpAnyH_take (i := 1) (v := ?_) rfl (by kernel_rfl) (by kernel_rfl) (by kernel_rfl) (fun _ _ _ h => h) (Or.inl ⟨by rfl, ?_⟩) (by assumption) ?_
          rotate_left
          focus (intro w hSw; (try dsimp only at hSw); go_simp; (try with_reducible rfl))
          (try simp only [Act.put, List.getElem_toArray, List.getElem_cons_succ, List.getElem_cons_zero, List.setIfInBounds_toArray, List.set_cons_zero, List.set_cons_succ])
          refine wpAnyH_take (i := 2) (v := ?_) rfl (by kernel_rfl) (by kernel_rfl) (by kernel_rfl) (fun _ _ _ h => h) (Or.inl ⟨by rfl, ?_⟩) (by assumption) ?_
          rotate_left
          focus (intro w hSw; (try dsimp only at hSw); go_simp; (try with_reducible rfl))
          (try simp only [Act.put, List.getElem_toArray, List.getElem_cons_succ, List.getElem_cons_zero, List.setIfInBounds_toArray, List.set_cons_zero, List.set_cons_succ])
          refine wpAnyH_take (i := 3) (v := ?_) rfl (by kernel_rfl) (by kernel_rfl) (by kernel_rfl) (fun _ _ _ h => h) (Or.inl ⟨by rfl, ?_⟩) (by assumption) ?_
          rotate_left
          focus (intro w hSw; (try dsimp only at hSw); go_simp; (try with_reducible rfl))
          (try simp only [Act.put, List.getElem_toArray, List.getElem_cons_succ, List.getElem_cons_zero, List.setIfInBounds_toArray, List.set_cons_zero, List.set_cons_succ])
          refine wpAnyH_take (i := 4) (v := ?_) rfl (by kernel_rfl) (by kernel_rfl) (by kernel_rfl) (fun _ _ _ h => h) (Or.inl ⟨by rfl, ?_⟩) (by assumption) ?_
          rotate_left
          focus (intro w hSw; (try dsimp only at hSw); go_simp; (try with_reducible rfl))
          (try simp only [Act.put, List.getElem_toArray, List.getElem_cons_succ, List.getElem_cons_zero, List.setIfInBounds_toArray, List.set_cons_zero, List.set_cons_succ])
          refine wpAnyH_take (i := 5) (v := undef) rfl (by kernel_rfl) (by kernel_rfl) (by kernel_rfl) (fun _ _ _ h => h) (Or.inr ⟨by rfl, rfl⟩) (by assumption) ?_
          (try simp only [Act.put, List.getElem_toArray, List.getElem_cons_succ, List.getElem_cons_zero, List.setIfInBounds_toArray, List.set_cons_zero, List.set_cons_succ])
          refine wpAnyH_take (i := 6) (v := undef) rfl (by kernel_rfl) (by kernel_rfl) (by kernel_rfl) (fun _ _ _ h => h) (Or.inr ⟨by rfl, rfl⟩) (by assumption) ?_
          (try simp only [Act.put, List.getElem_toArray, List.getElem_cons_succ, List.getElem_cons_zero, List.setIfInBounds_toArray, List.set_cons_zero, List.set_cons_succ])
          refine wpAnyH_take (i := 7) (v := undef) rfl (by kernel_rfl) (by kernel_rfl) (by kernel_rfl) (fun _ _ _ h => h) (Or.inr ⟨by rfl, rfl⟩) (by assumption) ?_
          (try simp only [Act.put, List.getElem_toArray, List.getElem_cons_succ, List.getElem_cons_zero, List.setIfInBounds_toArray, List.set_cons_zero, List.set_cons_succ])
          refine wpAnyH_take (i := 8) (v := undef) rfl (by kernel_rfl) (by kernel_rfl) (by kernel_rfl) (fun _ _ _ h => h) (Or.inr ⟨by rfl, rfl⟩) (by assumption) ?_
          (try simp only [Act.put, List.getElem_toArray, List.getElem_cons_succ, List.getElem_cons_zero, List.setIfInBounds_toArray, List.set_cons_zero, List.set_cons_succ])
          refine wpAnyH_take (i := 9) (v := undef) rfl (by kernel_rfl) (by kernel_rfl) (by kernel_rfl) (fun _ _ _ h => h) (Or.inr ⟨by rfl, rfl⟩) (by assumption) ?_
          (try simp only [Act.put, List.getElem_toArray, List.getElem_cons_succ, List.getElem_cons_zero, List.setIfInBounds_toArray, List.set_cons_zero, List.set_cons_succ])
          refine wpAnyH_take (i := 10) (v := undef) rfl (by kernel_rfl) (by kernel_rfl) (by kernel_rfl) (fun _ _ _ h => h) (Or.inr ⟨by rfl, rfl⟩) (by assumption) ?_
          (try simp only [Act.put, List.getElem_toArray, List.getElem_cons_succ, List.getElem_cons_zero, List.setIfInBounds_toArray, List.set_cons_zero, List.set_cons_succ])
          refine wpAnyH_take (i := 11) (v := undef) rfl (by kernel_rfl) (by kernel_rfl) (by kernel_rfl) (fun _ _ _ h => h) (Or.inr ⟨by rfl, rfl⟩) (by assumption) ?_
          (try simp only [Act.put, List.getElem_toArray, List.getElem_cons_succ, List.getElem_cons_zero, List.setIfInBounds_toArray, List.set_cons_zero, List.set_cons_succ])
          refine wpAnyH_take (i := 12) (v := ?_) rfl (by kernel_rfl) (by kernel_rfl) (by kernel_rfl) (fun _ _ _ h => h) (Or.inl ⟨by rfl, ?_⟩) (by assumption) ?_
          rotate_left
          focus (intro w hSw; (try dsimp only at hSw); go_simp; (try with_reducible rfl))
          (try simp only [Act.put, List.getElem_toArray, List.getElem_cons_succ, List.getElem_cons_zero, List.setIfInBounds_toArray, List.set_cons_zero, List.set_cons_succ])
          refine wpAnyH_done (by kernel_rfl) ?_ _
          go_wp2_with fail
          go_quiet (fail)
          go_wp2_with (first | (at_builtin; refine wpList_app rfl _ _ _ rfl elHoldV (w.heap.size + 1) _ _ rfl (Hown.out.keep (by (repeat' (first | (with_reducible exact Below.refl _ _) | (with_reducible assumption) | (with_reducible refine Below.alloc ?_ ?_ _) | (with_reducible refine Below.setCell ?_ ?_ _) | (with_reducible refine Below.drew ?_) | (with_reducible refine below_drewN ?_ _) | (with_reducible refine below_via ?_ (by with_reducible assumption) ?_) | omega | (simp; done) | (simp; omega))))) (some ⟨b, o + (k) * 3, none⟩) _ _ rfl ((l.drop (k)).map encHoldV) (by simp) (fun h => by cases h) (by rw [List.map_drop]; exact rd_dropR (HF.out.keep (by have hbw := Hbw.out; (repeat' (first | (with_reducible exact Below.refl _ _) | (with_reducible assumption) | (with_reducible refine Below.alloc ?_ ?_ _) | (with_reducible refine Below.setCell ?_ ?_ _) | (with_reducible refine Below.drew ?_) | (with_reducible refine below_drewN ?_ _) | (with_reducible refine below_via ?_ (by with_reducible assumption) ?_) | omega | (simp; done) | (simp; omega))))) (k)) (rowsHoldV _) (by unfold maxLen; simp <;> omega) (by simp <;> omega) (by first | omega | (simp; done) | (simp; omega)) ?_; intro v6 w6 hown6 hb6; have HO6 := Lib.hid hown6; clear hown6; obtain ⟨fc6, fg6, hc6, hf6, hz6⟩ := bget hb6; (try simp at hz6)) | (at_builtin; refine wpList_app rfl _ _ _ rfl elHoldV (w.heap.size + 1) _ _ rfl (Hown.out.keep (by (repeat' (first | (with_reducible exact Below.refl _ _) | (with_reducible assumption) | (with_reducible refine Below.alloc ?_ ?_ _) | (with_reducible refine Below.setCell ?_ ?_ _) | (with_reducible refine Below.drew ?_) | (with_reducible refine below_drewN ?_ _) | (with_reducible refine below_via ?_ (by with_reducible assumption) ?_) | omega | (simp; done) | (simp; omega))))) (some ⟨b, o, none⟩) _ _ rfl ((l.drop (k)).map encHoldV) (by simp <;> omega) (fun h => by cases h) (by rw [List.drop_eq_nil_of_le (by omega)]; exact fun i r h => by simp at h) (rowsHoldV _) (by unfold maxLen; simp <;> omega) (by simp <;> omega) (by first | omega | (simp; done) | (simp; omega)) ?_; intro v6 w6 hown6 hb6; have HO6 := Lib.hid hown6; clear hown6; obtain ⟨fc6, fg6, hc6, hf6, hz6⟩ := bget hb6; (try simp at hz6)) | fail)
          go_ret
          have hbx : Below w.heap.size w w6 := by have hbw := Hbw.out; (repeat' (first | (with_reducible exact Below.refl _ _) | (with_reducible assumption) | (with_reducible refine Below.alloc ?_ ?_ _) | (with_reducible refine Below.setCell ?_ ?_ _) | (with_reducible refine Below.drew ?_) | (with_reducible refine below_drewN ?_ _) | (with_reducible refine below_via ?_ (by with_reducible assumption) ?_) | omega | (simp; done) | (simp; omega)))
          refine ⟨_, l.take k ++ l.drop (k), rfl, by rw [HWK.out]; rw [List.map_append, List.map_take, List.map_drop], ?_, fun y hy => ?_, fun g hg y hy => ?_, hbx⟩
          · have h6 := HO6.out.mono (b := w.heap.size) (by omega)
            (try rw [List.append_assoc] at h6)
            (repeat rw [List.map_append])
            exact h6
          · first | rw [List.mem_append, List.mem_cons] at hy | rw [List.mem_append] at hy
            (first | (rcases hy with hy | hy; exact (HGG.out y (List.mem_of_mem_take hy)).keep hbx; exact (HGG.out y (List.mem_of_mem_drop hy)).keep hbx) | (rcases hy with hy | rfl | hy; exact (HGG.out y (List.mem_of_mem_take hy)).keep hbx; exact HMG.out.keep hbx; exact (HGG.out y (List.mem_of_mem_drop hy)).keep hbx))
          · first | rw [List.mem_append, List.mem_cons] at hy | rw [List.mem_append] at hy
            (first | (rcases hy with hy | hy; exact (HSS.out g hg).1 y (List.mem_of_mem_take hy); exact (HSS.out g hg).1 y (List.mem_of_mem_drop hy)) | (rcases hy with hy | rfl | hy; exact (HSS.out g hg).1 y (List.mem_of_mem_take hy); exact (HSS.out g hg).2; exact (HSS.out g hg).1 y (List.mem_of_mem_drop hy)))
        · have HWK := Lib.hid (HWP.out.trans (by rw [show oneK u all = [⟨u, all⟩] from by unfold oneK; rw [if_neg (by rw [List.isEmpty_iff]; intro e; rw [e] at hne; simp at hne)]]))
          go_wp2_with fail
          refine wp_region_held_drew (S := (fun w' => (w'.cell? ⟨w.heap.size, 0, none⟩ = some (.int .i64 u.acc) ∧ w'.cell? ⟨w.heap.size, 1, none⟩ = some (.int .i64 u.cli)))) (by kernel_rfl) ?_ (fun hHeld => ?_)
          · (first | (simp [go_sem]; done) | (repeat' (first | (with_reducible assumption) | (with_reducible refine And.intro ?_ ?_) | (with_reducible refine cell_drew ?_) | (with_reducible refine cell_via (by with_reducible assumption) ?_ ?_) | (simp [*]; done) | (simp [go_sem]; done) | (with_reducible refine cell_alloc ?_ ?_) | (with_reducible refine cell_set_far ?_ ?_) | omega | (simp; omega))))
          refine wpAnyH_take (i := 0) (v := ?_) rfl (by kernel_rfl) (by kernel_rfl) (by kernel_rfl) (fun _ _ _ h => h) (Or.inl ⟨by rfl, ?_⟩) (by assumption) ?_
          rotate_left
          focus (intro w hSw; (try dsimp only at hSw); go_simp; (try with_reducible rfl))
          (try simp only [Act.put, List.getElem_toArray, List.getElem_cons_zero, List.setIfInBounds_toArray, List.set_cons_zero, List.set_cons_succ])
          refine wpAnyH_take (i := 1) (v := ?_) rfl (by kernel_rfl) (by kernel_rfl) (by kernel_rfl) (fun _ _ _ h => h) (Or.inl ⟨by rfl, ?_⟩) (by assumption) ?_
          rotate_left
          focus (intro w hSw; (try dsimp only at hSw); go_simp; (try with_reducible rfl))
          (try simp only [Act.put, List.getElem_toArray, List.getElem_cons_succ, List.getElem_cons_zero, List.setIfInBounds_toArray, List.set_cons_zero, List.set_cons_succ])
          refine wpAnyH_take (i := 2) (v := ?_) rfl (by kernel_rfl) (by kernel_rfl) (by kernel_rfl) (fun _ _ _ h => h) (Or.inl ⟨by rfl, ?_⟩) (by assumption) ?_
          rotate_left
          focus (intro w hSw; (try dsimp only at hSw); go_simp; (try with_reducible rfl))
          (try simp only [Act.put, List.getElem_toArray, List.getElem_cons_succ, List.getElem_cons_zero, List.setIfInBounds_toArray, List.set_cons_zero, List.set_cons_succ])
          refine wpAnyH_take (i := 3) (v := ?_) rfl (by kernel_rfl) (by kernel_rfl) (by kernel_rfl) (fun _ _ _ h => h) (Or.inl ⟨by rfl, ?_⟩) (by assumption) ?_
          rotate_left
          focus (intro w hSw; (try dsimp only at hSw); go_simp; (try with_reducible rfl))
          (try simp only [Act.put, List.getElem_toArray, List.getElem_cons_succ, List.getElem_cons_zero, List.setIfInBounds_toArray, List.set_cons_zero, List.set_cons_succ])
          refine wpAnyH_take (i := 4) (v := ?_) rfl (by kernel_rfl) (by kernel_rfl) (by kernel_rfl) (fun _ _ _ h => h) (Or.inl ⟨by rfl, ?_⟩) (by assumption) ?_
          rotate_left
          focus (intro w hSw; (try dsimp only at hSw); go_simp; (try with_reducible rfl))
          (try simp only [Act.put, List.getElem_toArray, List.getElem_cons_succ, List.getElem_cons_zero, List.setIfInBounds_toArray, List.set_cons_zero, List.set_cons_succ])
          refine wpAnyH_take (i := 5) (v := undef) rfl (by kernel_rfl) (by kernel_rfl) (by kernel_rfl) (fun _ _ _ h => h) (Or.inr ⟨by rfl, rfl⟩) (by assumption) ?_
          (try simp only [Act.put, List.getElem_toArray, List.getElem_cons_succ, List.getElem_cons_zero, List.setIfInBounds_toArray, List.set_cons_zero, List.set_cons_succ])
          refine wpAnyH_take (i := 6) (v := undef) rfl (by kernel_rfl) (by kernel_rfl) (by kernel_rfl) (fun _ _ _ h => h) (Or.inr ⟨by rfl, rfl⟩) (by assumption) ?_
          (try simp only [Act.put, List.getElem_toArray, List.getElem_cons_succ, List.getElem_cons_zero, List.setIfInBounds_toArray, List.set_cons_zero, List.set_cons_succ])
          refine wpAnyH_take (i := 7) (v := undef) rfl (by kernel_rfl) (by kernel_rfl) (by kernel_rfl) (fun _ _ _ h => h) (Or.inr ⟨by rfl, rfl⟩) (by assumption) ?_
          (try simp only [Act.put, List.getElem_toArray, List.getElem_cons_succ, List.getElem_cons_zero, List.setIfInBounds_toArray, List.set_cons_zero, List.set_cons_succ])
          refine wpAnyH_take (i := 8) (v := undef) rfl (by kernel_rfl) (by kernel_rfl) (by kernel_rfl) (fun _ _ _ h => h) (Or.inr ⟨by rfl, rfl⟩) (by assumption) ?_
          (try simp only [Act.put, List.getElem_toArray, List.getElem_cons_succ, List.getElem_cons_zero, List.setIfInBounds_toArray, List.set_cons_zero, List.set_cons_succ])
          refine wpAnyH_take (i := 9) (v := undef) rfl (by kernel_rfl) (by kernel_rfl) (by kernel_rfl) (fun _ _ _ h => h) (Or.inr ⟨by rfl, rfl⟩) (by assumption) ?_
          (try simp only [Act.put, List.getElem_toArray, List.getElem_cons_succ, List.getElem_cons_zero, List.setIfInBounds_toArray, List.set_cons_zero, List.set_cons_succ])
          refine wpAnyH_take (i := 10) (v := undef) rfl (by kernel_rfl) (by kernel_rfl) (by kernel_rfl) (fun _ _ _ h => h) (Or.inr ⟨by rfl, rfl⟩) (by assumption) ?_
          (try simp only [Act.put, List.getElem_toArray, List.getElem_cons_succ, List.getElem_cons_zero, List.setIfInBounds_toArray, List.set_cons_zero, List.set_cons_succ])
          refine wpAnyH_take (i := 11) (v := undef) rfl (by kernel_rfl) (by kernel_rfl) (by kernel_rfl) (fun _ _ _ h => h) (Or.inr ⟨by rfl, rfl⟩) (by assumption) ?_
          (try simp only [Act.put, List.getElem_toArray, List.getElem_cons_succ, List.getElem_cons_zero, List.setIfInBounds_toArray, List.set_cons_zero, List.set_cons_succ])
          refine wpAnyH_take (i := 12) (v := ?_) rfl (by kernel_rfl) (by kernel_rfl) (by kernel_rfl) (fun _ _ _ h => h) (Or.inl ⟨by rfl, ?_⟩) (by assumption) ?_
          rotate_left
          focus (intro w hSw; (try dsimp only at hSw); go_simp; (try with_reducible rfl))
          (try simp only [Act.put, List.getElem_toArray, List.getElem_cons_succ, List.getElem_cons_zero, List.setIfInBounds_toArray, List.set_cons_zero, List.set_cons_succ])
          refine wpAnyH_done (by kernel_rfl) ?_ _
          go_wp2_with (at_builtin; refine wpList_app rfl _ _ _ rfl elHoldV (w.heap.size + 1) _ _ rfl (Hown.out.keep (by (repeat' (first | (with_reducible exact Below.refl _ _) | (with_reducible assumption) | (with_reducible refine Below.alloc ?_ ?_ _) | (with_reducible refine Below.setCell ?_ ?_ _) | (with_reducible refine Below.drew ?_) | (with_reducible refine below_drewN ?_ _) | (with_reducible refine below_via ?_ (by with_reducible assumption) ?_) | omega | (simp; done) | (simp; omega))))) (some ⟨_, 0, none⟩) 1 1 rfl [[.int .i64 u.acc, .int .i64 u.cli, .slice B all.length d]] rfl (fun h => by cases h) (by first | exact rd_oneN (by simp) | exact rd_oneD (by simp)) (row3HoldV _ _ _ _ _) (by unfold maxLen; simp <;> omega) (by simp <;> omega) (by first | omega | (simp; done) | (simp; omega)) ?_; intro v5 w5 hown5 hb5; have HO5 := Lib.hid hown5; clear hown5; obtain ⟨fc5, fg5, hc5, hf5, hz5⟩ := bget hb5; (try simp at hz5))
          go_quiet (fail)
          go_wp2_with (first | (at_builtin; refine wpList_app rfl _ _ _ rfl elHoldV (w.heap.size + 1) _ _ rfl (HO5.out.keep (by (repeat' (first | (with_reducible exact Below.refl _ _) | (with_reducible assumption) | (with_reducible refine Below.alloc ?_ ?_ _) | (with_reducible refine Below.setCell ?_ ?_ _) | (with_reducible refine Below.drew ?_) | (with_reducible refine below_drewN ?_ _) | (with_reducible refine below_via ?_ (by with_reducible assumption) ?_) | omega | (simp; done) | (simp; omega))))) (some ⟨b, o + (k) * 3, none⟩) _ _ rfl ((l.drop (k)).map encHoldV) (by simp) (fun h => by cases h) (by rw [List.map_drop]; exact rd_dropR (HF.out.keep (by have hbw := Hbw.out; (repeat' (first | (with_reducible exact Below.refl _ _) | (with_reducible assumption) | (with_reducible refine Below.alloc ?_ ?_ _) | (with_reducible refine Below.setCell ?_ ?_ _) | (with_reducible refine Below.drew ?_) | (with_reducible refine below_drewN ?_ _) | (with_reducible refine below_via ?_ (by with_reducible assumption) ?_) | omega | (simp; done) | (simp; omega))))) (k)) (rowsHoldV _) (by unfold maxLen; simp <;> omega) (by simp <;> omega) (by first | omega | (simp; done) | (simp; omega)) ?_; intro v6 w6 hown6 hb6; have HO6 := Lib.hid hown6; clear hown6; obtain ⟨fc6, fg6, hc6, hf6, hz6⟩ := bget hb6; (try simp at hz6)) | (at_builtin; refine wpList_app rfl _ _ _ rfl elHoldV (w.heap.size + 1) _ _ rfl (HO5.out.keep (by (repeat' (first | (with_reducible exact Below.refl _ _) | (with_reducible assumption) | (with_reducible refine Below.alloc ?_ ?_ _) | (with_reducible refine Below.setCell ?_ ?_ _) | (with_reducible refine Below.drew ?_) | (with_reducible refine below_drewN ?_ _) | (with_reducible refine below_via ?_ (by with_reducible assumption) ?_) | omega | (simp; done) | (simp; omega))))) (some ⟨b, o, none⟩) _ _ rfl ((l.drop (k)).map encHoldV) (by simp <;> omega) (fun h => by cases h) (by rw [List.drop_eq_nil_of_le (by omega)]; exact fun i r h => by simp at h) (rowsHoldV _) (by unfold maxLen; simp <;> omega) (by simp <;> omega) (by first | omega | (simp; done) | (simp; omega)) ?_; intro v6 w6 hown6 hb6; have HO6 := Lib.hid hown6; clear hown6; obtain ⟨fc6, fg6, hc6, hf6, hz6⟩ := bget hb6; (try simp at hz6)) | fail)
          go_ret
          have hbx : Below w.heap.size w w6 := by have hbw := Hbw.out; (repeat' (first | (with_reducible exact Below.refl _ _) | (with_reducible assumption) | (with_reducible refine Below.alloc ?_ ?_ _) | (with_reducible refine Below.setCell ?_ ?_ _) | (with_reducible refine Below.drew ?_) | (with_reducible refine below_drewN ?_ _) | (with_reducible refine below_via ?_ (by with_reducible assumption) ?_) | omega | (simp; done) | (simp; omega)))
          refine ⟨_, l.take k ++ (⟨u, ⟨B, d, all⟩⟩ :: l.drop (k)), rfl, by rw [HWK.out]; (rw [List.map_append, List.map_cons, List.map_take, List.map_drop]; rfl), ?_, fun y hy => ?_, fun g hg y hy => ?_, hbx⟩
          · have h6 := HO6.out.mono (b := w.heap.size) (by omega)
            (try rw [List.append_assoc] at h6)
            (repeat rw [List.map_append])
            exact h6
          · first | rw [List.mem_append, List.mem_cons] at hy | rw [List.mem_append] at hy
            (first | (rcases hy with hy | hy; exact (HGG.out y (List.mem_of_mem_take hy)).keep hbx; exact (HGG.out y (List.mem_of_mem_drop hy)).keep hbx) | (rcases hy with hy | rfl | hy; exact (HGG.out y (List.mem_of_mem_take hy)).keep hbx; exact HMG.out.keep hbx; exact (HGG.out y (List.mem_of_mem_drop hy)).keep hbx))
          · first | rw [List.mem_append, List.mem_cons] at hy | rw [List.mem_append] at hy
            (first | (rcases hy with hy | hy; exact (HSS.out g hg).1 y (List.mem_of_mem_take hy); exact (HSS.out g hg).1 y (List.mem_of_mem_drop hy)) | (rcases hy with hy | rfl | hy; exact (HSS.out g hg).1 y (List.mem_of_mem_take hy); exact (HSS.out g hg).2; exact (HSS.out g hg).1 y (List.mem_of_mem_drop hy)))
end Go.Proofs.YtalgfpegaobacaaGreat
