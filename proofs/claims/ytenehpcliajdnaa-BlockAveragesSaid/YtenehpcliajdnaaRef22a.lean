/- Fills: contract of the reference's Average. -/
import Derived.Test.YtenehpcliajdnaaBlk3
import Derived.Test.YtenehpcliajdnaaBig10
namespace Go.Proofs.Ytenehpcliajdnaa
open Go.RowKit
theorem isBig_absB {w : World} {a : Int} {s : Bool} {A : Option Addr} {l : List Int} {c : Nat} (h : IsBig w a s A l c) : IsBig w (iabs a) false A l c :=
  ⟨h.rd, h.bit, h.top, by rw [h.val]; exact (iabs_pos (iabs_nonneg a)).symm, h.cap, h.room, by have := iabs_nonneg a; simp; omega⟩
theorem fbad_yes {f : Fill} (h : ¬ FOk f) : fbad f = true := by
  cases hf : fbad f
  · exact absurd (fbad_ok.1 hf) h
  · rfl
set_option maxRecDepth 100000 in
set_option maxHeartbeats 32000000 in
theorem ref22Average (l : List Fill) (A : Option Addr) (c : Nat) (w : World) (hl : l.length ≤ 1000000) (hr : Rd w A 2 (l.map encFill)) :
    Calls Try.prog 19 #[.slice A l.length c] w fun e w' => e = .returned (.tuple #[.int .i64 (avQ l), .int .i64 (avA l), .int .i64 (avR l), .int .i64 (avC l)]) ∧ Below w.heap.size w w' := by
  have HR := Lib.hid hr
  have HD := Lib.hid (show avC l = (if l.length < 1 then 2 else if 16 < l.length then 2 else if l.any fbad = true then 2 else if mixed l = true then 2 else if 1099511627776 < aQ l then 25 else 0) from rfl)
  clear hr
  by_cases h1 : l.length < 1
  · have d1 : decide ((l.length : Int) < 1) = true := by simp; omega
    have hq : avC l = 2 := by rw [HD.out, if_pos h1]
    obtain ⟨y1, y2, y3, _, _⟩ := av_not (l := l) (by rw [hq]; decide)
    rw [y1, y2, y3, hq]
    clear y1 y2 y3 hq
    go_enter Try.func19, Try.ntmps19
    go_wp2_with fail
    refine bodyPost_ret (by simp [results, Try.results19, go_sem, go_sem]; try rfl) rfl ⟨rfl, ?_⟩
    (repeat' (first | (with_reducible exact Below.refl _ _) | (with_reducible assumption) | (with_reducible refine Below.alloc ?_ ?_ _) | (with_reducible refine Below.setCell ?_ ?_ _) | (with_reducible refine Below.drew ?_) | (with_reducible refine below_drewN ?_ _) | (with_reducible refine below_via ?_ (by with_reducible assumption) ?_) | omega | (simp; done) | (simp; omega)))
  have d1 : decide ((l.length : Int) < 1) = false := by simp; omega
  by_cases h2 : 16 < l.length
  · have d2 : decide (16 < (l.length : Int)) = true := by simp; omega
    have hq : avC l = 2 := by rw [HD.out, if_neg h1, if_pos h2]
    obtain ⟨y1, y2, y3, _, _⟩ := av_not (l := l) (by rw [hq]; decide)
    rw [y1, y2, y3, hq]
    clear y1 y2 y3 hq
    go_enter Try.func19, Try.ntmps19
    go_wp2_with fail
    refine bodyPost_ret (by simp [results, Try.results19, go_sem, go_sem]; try rfl) rfl ⟨rfl, ?_⟩
    (repeat' (first | (with_reducible exact Below.refl _ _) | (with_reducible assumption) | (with_reducible refine Below.alloc ?_ ?_ _) | (with_reducible refine Below.setCell ?_ ?_ _) | (with_reducible refine Below.drew ?_) | (with_reducible refine below_drewN ?_ _) | (with_reducible refine below_via ?_ (by with_reducible assumption) ?_) | omega | (simp; done) | (simp; omega)))
  have d2 : decide (16 < (l.length : Int)) = false := by simp; omega
  have HD1 := Lib.hid (show avC l = (if l.any fbad = true then 2 else if mixed l = true then 2 else if 1099511627776 < aQ l then 25 else 0) from by rw [HD.out, if_neg h1, if_neg h2])
  have hl16 : l.length ≤ 16 := by omega
  have hl1 : 0 < l.length := by omega
  have HH := Lib.hid (head_at hl1)
  clear HD h1 h2
  go_enter Try.func19, Try.ntmps19
  go_wp2_with fail
  go_loopw [8] (fun i wr => ∃ (k : Nat) (s2 : Bool) (A2 : Option Addr) (l2 : List Int) (c2 : Nat) (s3 : Bool) (A3 : Option Addr) (l3 : List Int) (c3 : Nat), k ≤ l.length ∧ i = .int .i64 k ∧ IsBig wr (qS (l.take k)) s2 A2 l2 c2 ∧ l2.length ≤ 65 + k ∧ Blk wr w.heap.size 30 #[.bool s2, .slice A2 l2.length c2] ∧ IsBig wr (cS (l.take k)) s3 A3 l3 c3 ∧ l3.length ≤ 300 + k ∧ Blk wr (w.heap.size + 1) 30 #[.bool s3, .slice A3 l3.length c3] ∧ Below w.heap.size w wr ∧ ∀ f ∈ l.take k, FOk f) (fun i _ => l.length - (intOf i).toNat)
  case atStart => exact ⟨0, false, none, [], 0, false, none, [], 0, Nat.zero_le _, rfl, isBig_nil2, by simp, (Blk.here (by simp)).alloc _, isBig_nil2, by simp, Blk.here (by simp), by (repeat' (first | (with_reducible exact Below.refl _ _) | (with_reducible assumption) | (with_reducible refine Below.alloc ?_ ?_ _) | (with_reducible refine Below.setCell ?_ ?_ _) | (with_reducible refine Below.drew ?_) | (with_reducible refine below_drewN ?_ _) | (with_reducible refine below_via ?_ (by with_reducible assumption) ?_) | omega | (simp; done) | (simp; omega))), by simp⟩
  case round => 
    obtain ⟨k, s2, A2, l2, c2, s3, A3, l3, c3, hk, rfl, hB2, hl2, hbk2, hB3, hl3, hbk3, hbl, hno⟩ := hrel
    have hz := hbl.size
    have b0 := hbk2.cell 0
    have b1 := hbk2.cell 1
    have z0 := hbk2.frozen 0
    have z1 := hbk2.frozen 1
    have ug := hbk2.lt
    have b2 := hbk3.cell 0
    have b3 := hbk3.cell 1
    have z2 := hbk3.frozen 0
    have z3 := hbk3.frozen 1
    have ug3 := hbk3.lt
    simp at b0 b1 b2 b3
    have HB2 := Lib.hid hB2
    have HB3 := Lib.hid hB3
    have Hbk2 := Lib.hid hbk2
    have Hbk3 := Lib.hid hbk3
    have Hbl := Lib.hid hbl
    have HNO := Lib.hid hno
    clear hB2 hB3 hbk2 hbk3 hbl hno
    by_cases hlt : k < l.length
    · have kl : (k : Int) < (l.length : Int) := by omega
      have dl : decide ((k : Int) < (l.length : Int)) = true := by simpa using hlt
      obtain ⟨b, o, rfl, hb, hc⟩ := HR.out k (encFill l[k]) (by simp [hlt])
      have e0 := (Hbl.out.cell (p := ⟨b, o + k * 2 + 0, none⟩) hb).trans (hc 0 _ rfl)
      have e1 := (Hbl.out.cell (p := ⟨b, o + k * 2 + 1, none⟩) hb).trans (hc 1 _ rfl)
      simp only [Nat.add_zero] at e0
      have hbw : b < wr.heap.size := by omega
      clear hc
      by_cases t0 : l[k].price < 0
      · have d0 := decide_eq_true t0
        have HQ := Lib.hid (show avC l = 2 from by rw [HD1.out, List.any_eq_true.2 ⟨_, List.getElem_mem hlt, fbad_yes (by intro hx; unfold FOk at hx; first | omega | exact hx.2.2.1 (by simpa using t2))⟩, if_pos rfl])
        obtain ⟨y1, y2, y3, _, _⟩ := av_not (l := l) (by rw [HQ.out]; decide)
        have Y1 := Lib.hid y1
        have Y2 := Lib.hid y2
        have Y3 := Lib.hid y3
        clear y1 y2 y3
        go_wp2_with fail
        have hbl := Hbl.out
        refine bodyPost_ret (by simp [results, Try.results19, go_sem, go_sem]; try rfl) rfl ⟨by rw [Y1.out, Y2.out, Y3.out, HQ.out], ?_⟩
        (repeat' (first | (with_reducible exact Below.refl _ _) | (with_reducible assumption) | (with_reducible refine Below.alloc ?_ ?_ _) | (with_reducible refine Below.setCell ?_ ?_ _) | (with_reducible refine Below.drew ?_) | (with_reducible refine below_drewN ?_ _) | (with_reducible refine below_via ?_ (by with_reducible assumption) ?_) | omega | (simp; done) | (simp; omega)))
      have d0 := decide_eq_false t0
      by_cases t1 : 2147483647 < l[k].price
      · have d1 := decide_eq_true t1
        have HQ := Lib.hid (show avC l = 2 from by rw [HD1.out, List.any_eq_true.2 ⟨_, List.getElem_mem hlt, fbad_yes (by intro hx; unfold FOk at hx; first | omega | exact hx.2.2.1 (by simpa using t2))⟩, if_pos rfl])
        obtain ⟨y1, y2, y3, _, _⟩ := av_not (l := l) (by rw [HQ.out]; decide)
        have Y1 := Lib.hid y1
        have Y2 := Lib.hid y2
        have Y3 := Lib.hid y3
        clear y1 y2 y3
        go_wp2_with fail
        have hbl := Hbl.out
        refine bodyPost_ret (by simp [results, Try.results19, go_sem, go_sem]; try rfl) rfl ⟨by rw [Y1.out, Y2.out, Y3.out, HQ.out], ?_⟩
        (repeat' (first | (with_reducible exact Below.refl _ _) | (with_reducible assumption) | (with_reducible refine Below.alloc ?_ ?_ _) | (with_reducible refine Below.setCell ?_ ?_ _) | (with_reducible refine Below.drew ?_) | (with_reducible refine below_drewN ?_ _) | (with_reducible refine below_via ?_ (by with_reducible assumption) ?_) | omega | (simp; done) | (simp; omega)))
      have d1 := decide_eq_false t1
      cases t2 : (l[k].qty == 0)
      rotate_left
      · have HQ := Lib.hid (show avC l = 2 from by rw [HD1.out, List.any_eq_true.2 ⟨_, List.getElem_mem hlt, fbad_yes (by intro hx; unfold FOk at hx; first | omega | exact hx.2.2.1 (by simpa using t2))⟩, if_pos rfl])
        obtain ⟨y1, y2, y3, _, _⟩ := av_not (l := l) (by rw [HQ.out]; decide)
        have Y1 := Lib.hid y1
        have Y2 := Lib.hid y2
        have Y3 := Lib.hid y3
        clear y1 y2 y3
        go_wp2_with fail
        have hbl := Hbl.out
        refine bodyPost_ret (by simp [results, Try.results19, go_sem, go_sem]; try rfl) rfl ⟨by rw [Y1.out, Y2.out, Y3.out, HQ.out], ?_⟩
        (repeat' (first | (with_reducible exact Below.refl _ _) | (with_reducible assumption) | (with_reducible refine Below.alloc ?_ ?_ _) | (with_reducible refine Below.setCell ?_ ?_ _) | (with_reducible refine Below.drew ?_) | (with_reducible refine below_drewN ?_ _) | (with_reducible refine below_via ?_ (by with_reducible assumption) ?_) | omega | (simp; done) | (simp; omega)))
      by_cases t3 : l[k].qty < -1099511627776
      · have d3 := decide_eq_true t3
        have HQ := Lib.hid (show avC l = 2 from by rw [HD1.out, List.any_eq_true.2 ⟨_, List.getElem_mem hlt, fbad_yes (by intro hx; unfold FOk at hx; first | omega | exact hx.2.2.1 (by simpa using t2))⟩, if_pos rfl])
        obtain ⟨y1, y2, y3, _, _⟩ := av_not (l := l) (by rw [HQ.out]; decide)
        have Y1 := Lib.hid y1
        have Y2 := Lib.hid y2
        have Y3 := Lib.hid y3
        clear y1 y2 y3
        go_wp2_with fail
        have hbl := Hbl.out
        refine bodyPost_ret (by simp [results, Try.results19, go_sem, go_sem]; try rfl) rfl ⟨by rw [Y1.out, Y2.out, Y3.out, HQ.out], ?_⟩
        (repeat' (first | (with_reducible exact Below.refl _ _) | (with_reducible assumption) | (with_reducible refine Below.alloc ?_ ?_ _) | (with_reducible refine Below.setCell ?_ ?_ _) | (with_reducible refine Below.drew ?_) | (with_reducible refine below_drewN ?_ _) | (with_reducible refine below_via ?_ (by with_reducible assumption) ?_) | omega | (simp; done) | (simp; omega)))
      have d3 := decide_eq_false t3
      by_cases t4 : 1099511627776 < l[k].qty
      · have d4 := decide_eq_true t4
        have HQ := Lib.hid (show avC l = 2 from by rw [HD1.out, List.any_eq_true.2 ⟨_, List.getElem_mem hlt, fbad_yes (by intro hx; unfold FOk at hx; first | omega | exact hx.2.2.1 (by simpa using t2))⟩, if_pos rfl])
        obtain ⟨y1, y2, y3, _, _⟩ := av_not (l := l) (by rw [HQ.out]; decide)
        have Y1 := Lib.hid y1
        have Y2 := Lib.hid y2
        have Y3 := Lib.hid y3
        clear y1 y2 y3
        go_wp2_with fail
        have hbl := Hbl.out
        refine bodyPost_ret (by simp [results, Try.results19, go_sem, go_sem]; try rfl) rfl ⟨by rw [Y1.out, Y2.out, Y3.out, HQ.out], ?_⟩
        (repeat' (first | (with_reducible exact Below.refl _ _) | (with_reducible assumption) | (with_reducible refine Below.alloc ?_ ?_ _) | (with_reducible refine Below.setCell ?_ ?_ _) | (with_reducible refine Below.drew ?_) | (with_reducible refine below_drewN ?_ _) | (with_reducible refine below_via ?_ (by with_reducible assumption) ?_) | omega | (simp; done) | (simp; omega)))
      have d4 := decide_eq_false t4
      have hok : FOk l[k] := ⟨by omega, by omega, by simpa using t2, by omega, by omega⟩
      have hxq : In64 l[k].qty := by unfold FOk at hok; unfold In64; omega
      have hxp : In64 l[k].price := by unfold FOk at hok; unfold In64; omega
      have HQS := Lib.hid (show qS (l.take (k + 1)) = qS (l.take k) + l[k].qty from sum_snoc hlt (·.qty))
      have HCS := Lib.hid (show cS (l.take (k + 1)) = cS (l.take k) + l[k].qty * l[k].price from sum_snoc hlt fun f => f.qty * f.price)
      have HNX := Lib.hid (show ∀ f ∈ l.take (k + 1), FOk f from fun f hf => by
        rw [List.take_succ_eq_append_getElem hlt] at hf
        rcases List.mem_append.1 hf with hf | hf
        · exact HNO.out f hf
        · simp at hf; rw [hf]; exact hok)
      generalize qS (l.take k) = qs at *
      generalize cS (l.take k) = cs at *
      go_wp2_with fail
      go_region_with (first | (go_at_call 16; (with_reducible refine (bigOf l[k].qty _ hxq).mono ?_); rintro e w5 ⟨s5, A5, l5, c5, rfl, hB5, hl5, hb5⟩; have HB5 := Lib.hid hB5; clear hB5; obtain ⟨fc5, fg5, hc5, hf5, hz5⟩ := bget hb5; (try simp at hz5)) | (go_at_call 14; (with_reducible refine (bigAdd qs l[k].qty s2 s5 l2 l5 A2 A5 c2 c5 (65 + k) _ (by omega) (by omega) (by omega) (HB2.out.keep (by (repeat' (first | (with_reducible exact Below.refl _ _) | (with_reducible assumption) | (with_reducible refine Below.alloc ?_ ?_ _) | (with_reducible refine Below.setCell ?_ ?_ _) | (with_reducible refine Below.drew ?_) | (with_reducible refine below_drewN ?_ _) | (with_reducible refine below_via ?_ (by with_reducible assumption) ?_) | omega | (simp; done) | (simp; omega))))) (HB5.out.keep (by (repeat' (first | (with_reducible exact Below.refl _ _) | (with_reducible assumption) | (with_reducible refine Below.alloc ?_ ?_ _) | (with_reducible refine Below.setCell ?_ ?_ _) | (with_reducible refine Below.drew ?_) | (with_reducible refine below_drewN ?_ _) | (with_reducible refine below_via ?_ (by with_reducible assumption) ?_) | omega | (simp; done) | (simp; omega)))))).mono ?_); rintro e w6 ⟨s6, A6, l6, c6, rfl, hB6, hl6, hb6⟩; have HB6 := Lib.hid hB6; clear hB6; obtain ⟨fc6, fg6, hc6, hf6, hz6⟩ := bget hb6; (try simp at hz6)) | fail)
      all_goals
        have h6 : Below wr.heap.size wr w6 := by (repeat' (first | (with_reducible exact Below.refl _ _) | (with_reducible assumption) | (with_reducible refine Below.alloc ?_ ?_ _) | (with_reducible refine Below.setCell ?_ ?_ _) | (with_reducible refine Below.drew ?_) | (with_reducible refine below_drewN ?_ _) | (with_reducible refine below_via ?_ (by with_reducible assumption) ?_) | omega | (simp; done) | (simp; omega)))
        have t0 : w6.cell? ⟨w.heap.size, 0, none⟩ = some (.bool s2) := (h6.cell (p := ⟨w.heap.size, 0, none⟩) ug).trans b0
        have t1 : w6.cell? ⟨w.heap.size, 1, none⟩ = some (.slice A2 l2.length c2) := (h6.cell (p := ⟨w.heap.size, 1, none⟩) ug).trans b1
        have HB6' := Lib.hid ((HB6.out.far t0 (by simp) (.bool s6)).far ((World.cell?_setCell_other _ _ _ _ (by simp)).trans t1) (by simp) (.slice A6 l6.length c6))
        have HB3' := Lib.hid (((HB3.out.keep h6).far t0 (by simp) (.bool s6)).far ((World.cell?_setCell_other _ _ _ _ (by simp)).trans t1) (by simp) (.slice A6 l6.length c6))
        have HK6 := Lib.hid (show Blk ((w6.setCell ⟨w.heap.size, 0, none⟩ (.bool s6)).setCell ⟨w.heap.size, 1, none⟩ (.slice A6 l6.length c6)) w.heap.size 30 #[.bool s6, .slice A6 l6.length c6] from by
          have h5 := ((Hbk2.out.below h6 ug).set 0 (.bool s6)).set 1 (.slice A6 l6.length c6)
          simpa using h5)
        have HK3 := Lib.hid (((Hbk3.out.below h6 ug3).far (p := ⟨w.heap.size, 0, none⟩) (by simp) (.bool s6)).far (p := ⟨w.heap.size, 1, none⟩) (by simp) (.slice A6 l6.length c6))
        have H6 := Lib.hid h6
        clear h6
        go_wp2_with fail
        refine wp_region_held_drew (S := (fun w' => w'.cell? ⟨wr.heap.size, 0, none⟩ = some (.int .i64 l[k].qty) ∧ w'.cell? ⟨wr.heap.size, 1, none⟩ = some (.int .i64 l[k].price))) (by kernel_rfl) ?_ (fun hHeld => ?_)
        · (first | (simp [go_sem]; done) | (repeat' (first | (with_reducible assumption) | (with_reducible refine And.intro ?_ ?_) | (with_reducible refine cell_drew ?_) | (with_reducible refine cell_via (by with_reducible assumption) ?_ ?_) | (simp [*]; done) | (simp [go_sem]; done) | (with_reducible refine cell_alloc ?_ ?_) | (with_reducible refine cell_set_far ?_ ?_) | omega | (simp; omega))))
        refine wpAnyH_take (i := 1) (v := ?_) rfl (by kernel_rfl) (by kernel_rfl) (by kernel_rfl) (fun _ _ _ h => h) (Or.inl ⟨by rfl, ?_⟩) (by assumption) ?_
        rotate_left
        focus (intro w hSw; (try dsimp only at hSw); go_simp; (try with_reducible rfl))
        (try simp only [Act.put, List.getElem_toArray, List.getElem_cons_succ, List.getElem_cons_zero, List.setIfInBounds_toArray, List.set_cons_zero, List.set_cons_succ])
        refine wpAnyH_take (i := 2) (v := ?_) rfl (by kernel_rfl) (by kernel_rfl) (by kernel_rfl) (fun _ _ _ h => h) (Or.inl ⟨by rfl, ?_⟩) (by assumption) ?_
        rotate_left
        focus (intro w hSw; (try dsimp only at hSw); go_simp; (try with_reducible rfl))
        (try simp only [Act.put, List.getElem_toArray, List.getElem_cons_succ, List.getElem_cons_zero, List.setIfInBounds_toArray, List.set_cons_zero, List.set_cons_succ])
        refine wpAnyH_take (i := 4) (v := ?_) rfl (by kernel_rfl) (by kernel_rfl) (by kernel_rfl) (fun _ _ _ h => h) (Or.inl ⟨by rfl, ?_⟩) (by assumption) ?_
        rotate_left
        focus (intro w hSw; (try dsimp only at hSw); go_simp; (try with_reducible rfl))
        (try simp only [Act.put, List.getElem_toArray, List.getElem_cons_succ, List.getElem_cons_zero, List.setIfInBounds_toArray, List.set_cons_zero, List.set_cons_succ])
        refine wpAnyH_take (i := 5) (v := ?_) rfl (by kernel_rfl) (by kernel_rfl) (by kernel_rfl) (fun _ _ _ h => h) (Or.inl ⟨by rfl, ?_⟩) (by assumption) ?_
        rotate_left
        focus (intro w hSw; (try dsimp only at hSw); go_simp; (try with_reducible rfl))
        (try simp only [Act.put, List.getElem_toArray, List.getElem_cons_succ, List.getElem_cons_zero, List.setIfInBounds_toArray, List.set_cons_zero, List.set_cons_succ])
        refine wpAnyH_ready (rs := [0, 3]) (by kernel_rfl) (by simp) ?_
        refine AllReadyH.cons rfl (fun K hK => ?_) (AllReadyH.cons rfl (fun K hK => ?_) AllReadyH.nil)
        · (try simp only [List.getElem_toArray, List.getElem_cons_zero])
          go_simp
          (try go_wp2_with fail)
          refine hK.out _ _ ?_ (fun hHeld => ?_)
          focus ((first | (simp [go_sem]; done) | (repeat' (first | (with_reducible assumption) | (with_reducible refine And.intro ?_ ?_) | (with_reducible refine cell_drew ?_) | (with_reducible refine cell_via (by with_reducible assumption) ?_ ?_) | (simp [*]; done) | (simp [go_sem]; done) | (with_reducible refine cell_alloc ?_ ?_) | (with_reducible refine cell_set_far ?_ ?_) | omega | (simp; omega)))); done)
          (try simp only [Act.put, List.getElem_toArray, List.getElem_cons_succ, List.getElem_cons_zero, List.setIfInBounds_toArray, List.set_cons_zero, List.set_cons_succ])
          refine wpAnyH_ready (rs := [3]) (by kernel_rfl) (by simp) ?_
          refine AllReadyH.cons rfl (fun K hK => ?_) AllReadyH.nil
          (try simp only [List.getElem_toArray, List.getElem_cons_succ, List.getElem_cons_zero])
          go_simp
          go_at_call 16
          with_reducible refine (bigOf l[k].qty _ hxq).mono ?_
          rintro e w7 ⟨s7, A7, l7, c7, rfl, hB7, hl7, hb7⟩
          have HB7 := Lib.hid hB7
          clear hB7
          obtain ⟨fc7, fg7, hc7, hf7, hz7⟩ := bget hb7; (try simp at hz7)
          refine hK.out _ _ ?_ (fun hHeld => ?_)
          focus ((first | (simp [go_sem]; done) | (repeat' (first | (with_reducible assumption) | (with_reducible refine And.intro ?_ ?_) | (with_reducible refine cell_drew ?_) | (with_reducible refine cell_via (by with_reducible assumption) ?_ ?_) | (simp [*]; done) | (simp [go_sem]; done) | (with_reducible refine cell_alloc ?_ ?_) | (with_reducible refine cell_set_far ?_ ?_) | omega | (simp; omega)))); done)
          (try simp only [Act.put, List.getElem_toArray, List.getElem_cons_succ, List.getElem_cons_zero, List.setIfInBounds_toArray, List.set_cons_zero, List.set_cons_succ])
          refine wpAnyH_ready (rs := [6]) (by kernel_rfl) (by simp) ?_
          refine AllReadyH.cons rfl (fun K hK => ?_) AllReadyH.nil
          (try simp only [List.getElem_toArray, List.getElem_cons_succ, List.getElem_cons_zero])
          go_simp
          go_at_call 16
          with_reducible refine (bigOf l[k].price _ hxp).mono ?_
          rintro e w8 ⟨s8, A8, l8, c8, rfl, hB8, hl8, hb8⟩
          have HB8 := Lib.hid hB8
          clear hB8
          obtain ⟨fc8, fg8, hc8, hf8, hz8⟩ := bget hb8; (try simp at hz8)
          refine hK.out _ _ ?_ (fun hHeld => ?_)
          focus ((first | (simp [go_sem]; done) | (repeat' (first | (with_reducible assumption) | (with_reducible refine And.intro ?_ ?_) | (with_reducible refine cell_drew ?_) | (with_reducible refine cell_via (by with_reducible assumption) ?_ ?_) | (simp [*]; done) | (simp [go_sem]; done) | (with_reducible refine cell_alloc ?_ ?_) | (with_reducible refine cell_set_far ?_ ?_) | omega | (simp; omega)))); done)
          (try simp only [Act.put, List.getElem_toArray, List.getElem_cons_succ, List.getElem_cons_zero, List.setIfInBounds_toArray, List.set_cons_zero, List.set_cons_succ])
          refine wpAnyH_ready (rs := [7]) (by kernel_rfl) (by simp) ?_
          refine AllReadyH.cons rfl (fun K hK => ?_) AllReadyH.nil
          (try simp only [List.getElem_toArray, List.getElem_cons_succ, List.getElem_cons_zero])
          go_simp
          go_at_call 15
          with_reducible refine (bigMul l[k].qty l[k].price s7 s8 l7 l8 A7 A8 c7 c8 65 _ (by omega) (by omega) (by omega) (HB7.out.keep (by (repeat' (first | (with_reducible exact Below.refl _ _) | (with_reducible assumption) | (with_reducible refine Below.alloc ?_ ?_ _) | (with_reducible refine Below.setCell ?_ ?_ _) | (with_reducible refine Below.drew ?_) | (with_reducible refine below_drewN ?_ _) | (with_reducible refine below_via ?_ (by with_reducible assumption) ?_) | omega | (simp; done) | (simp; omega))))) (HB8.out.keep (by (repeat' (first | (with_reducible exact Below.refl _ _) | (with_reducible assumption) | (with_reducible refine Below.alloc ?_ ?_ _) | (with_reducible refine Below.setCell ?_ ?_ _) | (with_reducible refine Below.drew ?_) | (with_reducible refine below_drewN ?_ _) | (with_reducible refine below_via ?_ (by with_reducible assumption) ?_) | omega | (simp; done) | (simp; omega)))))).mono ?_
          rintro e w9 ⟨s9, A9, l9, c9, rfl, hB9, hl9, hb9⟩
          have HB9 := Lib.hid hB9
          clear hB9
          obtain ⟨fc9, fg9, hc9, hf9, hz9⟩ := bget hb9; (try simp at hz9)
          refine hK.out _ _ ?_ (fun hHeld => ?_)
          focus ((first | (simp [go_sem]; done) | (repeat' (first | (with_reducible assumption) | (with_reducible refine And.intro ?_ ?_) | (with_reducible refine cell_drew ?_) | (with_reducible refine cell_via (by with_reducible assumption) ?_ ?_) | (simp [*]; done) | (simp [go_sem]; done) | (with_reducible refine cell_alloc ?_ ?_) | (with_reducible refine cell_set_far ?_ ?_) | omega | (simp; omega)))); done)
          (try simp only [Act.put, List.getElem_toArray, List.getElem_cons_succ, List.getElem_cons_zero, List.setIfInBounds_toArray, List.set_cons_zero, List.set_cons_succ])
          refine wpAnyH_ready (rs := [8]) (by kernel_rfl) (by simp) ?_
          refine AllReadyH.cons rfl (fun K hK => ?_) AllReadyH.nil
          (try simp only [List.getElem_toArray, List.getElem_cons_succ, List.getElem_cons_zero])
          go_simp
          go_at_call 14
          with_reducible refine (bigAdd cs (l[k].qty * l[k].price) s3 s9 l3 l9 A3 A9 c3 c9 (300 + k) _ (by omega) (by omega) (by omega) (HB3'.out.keep (by (repeat' (first | (with_reducible exact Below.refl _ _) | (with_reducible assumption) | (with_reducible refine Below.alloc ?_ ?_ _) | (with_reducible refine Below.setCell ?_ ?_ _) | (with_reducible refine Below.drew ?_) | (with_reducible refine below_drewN ?_ _) | (with_reducible refine below_via ?_ (by with_reducible assumption) ?_) | omega | (simp; done) | (simp; omega))))) (HB9.out.keep (by (repeat' (first | (with_reducible exact Below.refl _ _) | (with_reducible assumption) | (with_reducible refine Below.alloc ?_ ?_ _) | (with_reducible refine Below.setCell ?_ ?_ _) | (with_reducible refine Below.drew ?_) | (with_reducible refine below_drewN ?_ _) | (with_reducible refine below_via ?_ (by with_reducible assumption) ?_) | omega | (simp; done) | (simp; omega)))))).mono ?_
          rintro e w10 ⟨s10, A10, l10, c10, rfl, hB10, hl10, hb10⟩
          have HB10 := Lib.hid hB10
          clear hB10
          obtain ⟨fc10, fg10, hc10, hf10, hz10⟩ := bget hb10; (try simp at hz10)
          refine hK.out _ _ ?_ (fun hHeld => ?_)
          focus ((first | (simp [go_sem]; done) | (repeat' (first | (with_reducible assumption) | (with_reducible refine And.intro ?_ ?_) | (with_reducible refine cell_drew ?_) | (with_reducible refine cell_via (by with_reducible assumption) ?_ ?_) | (simp [*]; done) | (simp [go_sem]; done) | (with_reducible refine cell_alloc ?_ ?_) | (with_reducible refine cell_set_far ?_ ?_) | omega | (simp; omega)))); done)
          (try simp only [Act.put, List.getElem_toArray, List.getElem_cons_succ, List.getElem_cons_zero, List.setIfInBounds_toArray, List.set_cons_zero, List.set_cons_succ])
          refine wpAnyH_ready (rs := [9]) (by kernel_rfl) (by simp) ?_
          refine AllReadyH.cons rfl (fun K hK => ?_) AllReadyH.nil
          (try simp only [List.getElem_toArray, List.getElem_cons_succ, List.getElem_cons_zero])
          go_simp
          go_wp2_with fail
          refine hK.out _ _ ?_ (fun hHeld => ?_)
          focus ((first | (simp [go_sem]; done) | (repeat' (first | (with_reducible assumption) | (with_reducible refine And.intro ?_ ?_) | (with_reducible refine cell_drew ?_) | (with_reducible refine cell_via (by with_reducible assumption) ?_ ?_) | (simp [*]; done) | (simp [go_sem]; done) | (with_reducible refine cell_alloc ?_ ?_) | (with_reducible refine cell_set_far ?_ ?_) | omega | (simp; omega)))); done)
          (try simp only [Act.put, List.getElem_toArray, List.getElem_cons_succ, List.getElem_cons_zero, List.setIfInBounds_toArray, List.set_cons_zero, List.set_cons_succ])
          refine wpAnyH_done (by kernel_rfl) ?_ _
          go_wp2_with fail
          go_roundw
          case rel =>
            have h10 : Below w6.heap.size ((w6.setCell ⟨w.heap.size, 0, none⟩ (.bool s6)).setCell ⟨w.heap.size, 1, none⟩ (.slice A6 l6.length c6)) w10 := (by (repeat' (first | (with_reducible exact Below.refl _ _) | (with_reducible assumption) | (with_reducible refine Below.alloc ?_ ?_ _) | (with_reducible refine Below.setCell ?_ ?_ _) | (with_reducible refine Below.drew ?_) | (with_reducible refine below_drewN ?_ _) | (with_reducible refine below_via ?_ (by with_reducible assumption) ?_) | omega | (simp; done) | (simp; omega))))
            have hk10 := HK3.out.below h10 (by have := H6.out.size; omega)
            have t2 := hk10.cell 0
            have t3 := hk10.cell 1
            simp at t2 t3
            refine ⟨k + 1, s6, A6, l6, c6, s10, A10, l10, c10, by omega, by go_num, ?_, by omega, ?_, ?_, by omega, ?_, ?_, HNX.out⟩
            · rw [HQS.out]
              exact ((HB6'.out.keep (by (repeat' (first | (with_reducible exact Below.refl _ _) | (with_reducible assumption) | (with_reducible refine Below.alloc ?_ ?_ _) | (with_reducible refine Below.setCell ?_ ?_ _) | (with_reducible refine Below.drew ?_) | (with_reducible refine below_drewN ?_ _) | (with_reducible refine below_via ?_ (by with_reducible assumption) ?_) | omega | (simp; done) | (simp; omega))))).far t2 (by simp) _).far ((World.cell?_setCell_other _ _ _ _ (by simp)).trans t3) (by simp) _
            · exact ((HK6.out.below h10 (by have := H6.out.size; omega)).far (by simp) _).far (by simp) _
            · rw [HCS.out]
              exact (HB10.out.far t2 (by simp) _).far ((World.cell?_setCell_other _ _ _ _ (by simp)).trans t3) (by simp) _
            · have h5 := (hk10.set 0 (.bool s10)).set 1 (.slice A10 l10.length c10)
              simpa using h5
            · have hbl := Hbl.out
              have h6 := H6.out
              (repeat' (first | (with_reducible exact Below.refl _ _) | (with_reducible assumption) | (with_reducible refine Below.alloc ?_ ?_ _) | (with_reducible refine Below.setCell ?_ ?_ _) | (with_reducible refine Below.drew ?_) | (with_reducible refine below_drewN ?_ _) | (with_reducible refine below_via ?_ (by with_reducible assumption) ?_) | omega | (simp; done) | (simp; omega)))
          case measure => (simp [intOf]; omega)
        · (try simp only [List.getElem_toArray, List.getElem_cons_succ, List.getElem_cons_zero])
          go_simp
          go_at_call 16
          with_reducible refine (bigOf l[k].qty _ hxq).mono ?_
          rintro e w7 ⟨s7, A7, l7, c7, rfl, hB7, hl7, hb7⟩
          have HB7 := Lib.hid hB7
          clear hB7
          obtain ⟨fc7, fg7, hc7, hf7, hz7⟩ := bget hb7; (try simp at hz7)
          refine hK.out _ _ ?_ (fun hHeld => ?_)
          focus ((first | (simp [go_sem]; done) | (repeat' (first | (with_reducible assumption) | (with_reducible refine And.intro ?_ ?_) | (with_reducible refine cell_drew ?_) | (with_reducible refine cell_via (by with_reducible assumption) ?_ ?_) | (simp [*]; done) | (simp [go_sem]; done) | (with_reducible refine cell_alloc ?_ ?_) | (with_reducible refine cell_set_far ?_ ?_) | omega | (simp; omega)))); done)
          (try simp only [Act.put, List.getElem_toArray, List.getElem_cons_succ, List.getElem_cons_zero, List.setIfInBounds_toArray, List.set_cons_zero, List.set_cons_succ])
          refine wpAnyH_ready (rs := [0, 6]) (by kernel_rfl) (by simp) ?_
          refine AllReadyH.cons rfl (fun K hK => ?_) (AllReadyH.cons rfl (fun K hK => ?_) AllReadyH.nil)
          · (try simp only [List.getElem_toArray, List.getElem_cons_zero])
            go_simp
            (try go_wp2_with fail)
            refine hK.out _ _ ?_ (fun hHeld => ?_)
            focus ((first | (simp [go_sem]; done) | (repeat' (first | (with_reducible assumption) | (with_reducible refine And.intro ?_ ?_) | (with_reducible refine cell_drew ?_) | (with_reducible refine cell_via (by with_reducible assumption) ?_ ?_) | (simp [*]; done) | (simp [go_sem]; done) | (with_reducible refine cell_alloc ?_ ?_) | (with_reducible refine cell_set_far ?_ ?_) | omega | (simp; omega)))); done)
            (try simp only [Act.put, List.getElem_toArray, List.getElem_cons_succ, List.getElem_cons_zero, List.setIfInBounds_toArray, List.set_cons_zero, List.set_cons_succ])
            refine wpAnyH_ready (rs := [6]) (by kernel_rfl) (by simp) ?_
            refine AllReadyH.cons rfl (fun K hK => ?_) AllReadyH.nil
            (try simp only [List.getElem_toArray, List.getElem_cons_succ, List.getElem_cons_zero])
            go_simp
            go_at_call 16
            with_reducible refine (bigOf l[k].price _ hxp).mono ?_
            rintro e w8 ⟨s8, A8, l8, c8, rfl, hB8, hl8, hb8⟩
            have HB8 := Lib.hid hB8
            clear hB8
            obtain ⟨fc8, fg8, hc8, hf8, hz8⟩ := bget hb8; (try simp at hz8)
            refine hK.out _ _ ?_ (fun hHeld => ?_)
            focus ((first | (simp [go_sem]; done) | (repeat' (first | (with_reducible assumption) | (with_reducible refine And.intro ?_ ?_) | (with_reducible refine cell_drew ?_) | (with_reducible refine cell_via (by with_reducible assumption) ?_ ?_) | (simp [*]; done) | (simp [go_sem]; done) | (with_reducible refine cell_alloc ?_ ?_) | (with_reducible refine cell_set_far ?_ ?_) | omega | (simp; omega)))); done)
            (try simp only [Act.put, List.getElem_toArray, List.getElem_cons_succ, List.getElem_cons_zero, List.setIfInBounds_toArray, List.set_cons_zero, List.set_cons_succ])
            refine wpAnyH_ready (rs := [7]) (by kernel_rfl) (by simp) ?_
            refine AllReadyH.cons rfl (fun K hK => ?_) AllReadyH.nil
            (try simp only [List.getElem_toArray, List.getElem_cons_succ, List.getElem_cons_zero])
            go_simp
            go_at_call 15
            with_reducible refine (bigMul l[k].qty l[k].price s7 s8 l7 l8 A7 A8 c7 c8 65 _ (by omega) (by omega) (by omega) (HB7.out.keep (by (repeat' (first | (with_reducible exact Below.refl _ _) | (with_reducible assumption) | (with_reducible refine Below.alloc ?_ ?_ _) | (with_reducible refine Below.setCell ?_ ?_ _) | (with_reducible refine Below.drew ?_) | (with_reducible refine below_drewN ?_ _) | (with_reducible refine below_via ?_ (by with_reducible assumption) ?_) | omega | (simp; done) | (simp; omega))))) (HB8.out.keep (by (repeat' (first | (with_reducible exact Below.refl _ _) | (with_reducible assumption) | (with_reducible refine Below.alloc ?_ ?_ _) | (with_reducible refine Below.setCell ?_ ?_ _) | (with_reducible refine Below.drew ?_) | (with_reducible refine below_drewN ?_ _) | (with_reducible refine below_via ?_ (by with_reducible assumption) ?_) | omega | (simp; done) | (simp; omega)))))).mono ?_
            rintro e w9 ⟨s9, A9, l9, c9, rfl, hB9, hl9, hb9⟩
            have HB9 := Lib.hid hB9
            clear hB9
            obtain ⟨fc9, fg9, hc9, hf9, hz9⟩ := bget hb9; (try simp at hz9)
            refine hK.out _ _ ?_ (fun hHeld => ?_)
            focus ((first | (simp [go_sem]; done) | (repeat' (first | (with_reducible assumption) | (with_reducible refine And.intro ?_ ?_) | (with_reducible refine cell_drew ?_) | (with_reducible refine cell_via (by with_reducible assumption) ?_ ?_) | (simp [*]; done) | (simp [go_sem]; done) | (with_reducible refine cell_alloc ?_ ?_) | (with_reducible refine cell_set_far ?_ ?_) | omega | (simp; omega)))); done)
            (try simp only [Act.put, List.getElem_toArray, List.getElem_cons_succ, List.getElem_cons_zero, List.setIfInBounds_toArray, List.set_cons_zero, List.set_cons_succ])
            refine wpAnyH_ready (rs := [8]) (by kernel_rfl) (by simp) ?_
            refine AllReadyH.cons rfl (fun K hK => ?_) AllReadyH.nil
            (try simp only [List.getElem_toArray, List.getElem_cons_succ, List.getElem_cons_zero])
            go_simp
            go_at_call 14
            with_reducible refine (bigAdd cs (l[k].qty * l[k].price) s3 s9 l3 l9 A3 A9 c3 c9 (300 + k) _ (by omega) (by omega) (by omega) (HB3'.out.keep (by (repeat' (first | (with_reducible exact Below.refl _ _) | (with_reducible assumption) | (with_reducible refine Below.alloc ?_ ?_ _) | (with_reducible refine Below.setCell ?_ ?_ _) | (with_reducible refine Below.drew ?_) | (with_reducible refine below_drewN ?_ _) | (with_reducible refine below_via ?_ (by with_reducible assumption) ?_) | omega | (simp; done) | (simp; omega))))) (HB9.out.keep (by (repeat' (first | (with_reducible exact Below.refl _ _) | (with_reducible assumption) | (with_reducible refine Below.alloc ?_ ?_ _) | (with_reducible refine Below.setCell ?_ ?_ _) | (with_reducible refine Below.drew ?_) | (with_reducible refine below_drewN ?_ _) | (with_reducible refine below_via ?_ (by with_reducible assumption) ?_) | omega | (simp; done) | (simp; omega)))))).mono ?_
            rintro e w10 ⟨s10, A10, l10, c10, rfl, hB10, hl10, hb10⟩
            have HB10 := Lib.hid hB10
            clear hB10
            obtain ⟨fc10, fg10, hc10, hf10, hz10⟩ := bget hb10; (try simp at hz10)
            refine hK.out _ _ ?_ (fun hHeld => ?_)
            focus ((first | (simp [go_sem]; done) | (repeat' (first | (with_reducible assumption) | (with_reducible refine And.intro ?_ ?_) | (with_reducible refine cell_drew ?_) | (with_reducible refine cell_via (by with_reducible assumption) ?_ ?_) | (simp [*]; done) | (simp [go_sem]; done) | (with_reducible refine cell_alloc ?_ ?_) | (with_reducible refine cell_set_far ?_ ?_) | omega | (simp; omega)))); done)
            (try simp only [Act.put, List.getElem_toArray, List.getElem_cons_succ, List.getElem_cons_zero, List.setIfInBounds_toArray, List.set_cons_zero, List.set_cons_succ])
            refine wpAnyH_ready (rs := [9]) (by kernel_rfl) (by simp) ?_
            refine AllReadyH.cons rfl (fun K hK => ?_) AllReadyH.nil
            (try simp only [List.getElem_toArray, List.getElem_cons_succ, List.getElem_cons_zero])
            go_simp
            go_wp2_with fail
            refine hK.out _ _ ?_ (fun hHeld => ?_)
            focus ((first | (simp [go_sem]; done) | (repeat' (first | (with_reducible assumption) | (with_reducible refine And.intro ?_ ?_) | (with_reducible refine cell_drew ?_) | (with_reducible refine cell_via (by with_reducible assumption) ?_ ?_) | (simp [*]; done) | (simp [go_sem]; done) | (with_reducible refine cell_alloc ?_ ?_) | (with_reducible refine cell_set_far ?_ ?_) | omega | (simp; omega)))); done)
            (try simp only [Act.put, List.getElem_toArray, List.getElem_cons_succ, List.getElem_cons_zero, List.setIfInBounds_toArray, List.set_cons_zero, List.set_cons_succ])
            refine wpAnyH_done (by kernel_rfl) ?_ _
            go_wp2_with fail
            go_roundw
            case rel =>
              have h10 : Below w6.heap.size ((w6.setCell ⟨w.heap.size, 0, none⟩ (.bool s6)).setCell ⟨w.heap.size, 1, none⟩ (.slice A6 l6.length c6)) w10 := (by (repeat' (first | (with_reducible exact Below.refl _ _) | (with_reducible assumption) | (with_reducible refine Below.alloc ?_ ?_ _) | (with_reducible refine Below.setCell ?_ ?_ _) | (with_reducible refine Below.drew ?_) | (with_reducible refine below_drewN ?_ _) | (with_reducible refine below_via ?_ (by with_reducible assumption) ?_) | omega | (simp; done) | (simp; omega))))
              have hk10 := HK3.out.below h10 (by have := H6.out.size; omega)
              have t2 := hk10.cell 0
              have t3 := hk10.cell 1
              simp at t2 t3
              refine ⟨k + 1, s6, A6, l6, c6, s10, A10, l10, c10, by omega, by go_num, ?_, by omega, ?_, ?_, by omega, ?_, ?_, HNX.out⟩
              · rw [HQS.out]
                exact ((HB6'.out.keep (by (repeat' (first | (with_reducible exact Below.refl _ _) | (with_reducible assumption) | (with_reducible refine Below.alloc ?_ ?_ _) | (with_reducible refine Below.setCell ?_ ?_ _) | (with_reducible refine Below.drew ?_) | (with_reducible refine below_drewN ?_ _) | (with_reducible refine below_via ?_ (by with_reducible assumption) ?_) | omega | (simp; done) | (simp; omega))))).far t2 (by simp) _).far ((World.cell?_setCell_other _ _ _ _ (by simp)).trans t3) (by simp) _
              · exact ((HK6.out.below h10 (by have := H6.out.size; omega)).far (by simp) _).far (by simp) _
              · rw [HCS.out]
                exact (HB10.out.far t2 (by simp) _).far ((World.cell?_setCell_other _ _ _ _ (by simp)).trans t3) (by simp) _
              · have h5 := (hk10.set 0 (.bool s10)).set 1 (.slice A10 l10.length c10)
                simpa using h5
              · have hbl := Hbl.out
                have h6 := H6.out
                (repeat' (first | (with_reducible exact Below.refl _ _) | (with_reducible assumption) | (with_reducible refine Below.alloc ?_ ?_ _) | (with_reducible refine Below.setCell ?_ ?_ _) | (with_reducible refine Below.drew ?_) | (with_reducible refine below_drewN ?_ _) | (with_reducible refine below_via ?_ (by with_reducible assumption) ?_) | omega | (simp; done) | (simp; omega)))
            case measure => (simp [intOf]; omega)
          · (try simp only [List.getElem_toArray, List.getElem_cons_succ, List.getElem_cons_zero])
            go_simp
            go_at_call 16
            with_reducible refine (bigOf l[k].price _ hxp).mono ?_
            rintro e w8 ⟨s8, A8, l8, c8, rfl, hB8, hl8, hb8⟩
            have HB8 := Lib.hid hB8
            clear hB8
            obtain ⟨fc8, fg8, hc8, hf8, hz8⟩ := bget hb8; (try simp at hz8)
            refine hK.out _ _ ?_ (fun hHeld => ?_)
            focus ((first | (simp [go_sem]; done) | (repeat' (first | (with_reducible assumption) | (with_reducible refine And.intro ?_ ?_) | (with_reducible refine cell_drew ?_) | (with_reducible refine cell_via (by with_reducible assumption) ?_ ?_) | (simp [*]; done) | (simp [go_sem]; done) | (with_reducible refine cell_alloc ?_ ?_) | (with_reducible refine cell_set_far ?_ ?_) | omega | (simp; omega)))); done)
            (try simp only [Act.put, List.getElem_toArray, List.getElem_cons_succ, List.getElem_cons_zero, List.setIfInBounds_toArray, List.set_cons_zero, List.set_cons_succ])
            refine wpAnyH_ready (rs := [0, 7]) (by kernel_rfl) (by simp) ?_
            refine AllReadyH.cons rfl (fun K hK => ?_) (AllReadyH.cons rfl (fun K hK => ?_) AllReadyH.nil)
            · (try simp only [List.getElem_toArray, List.getElem_cons_zero])
              go_simp
              (try go_wp2_with fail)
              refine hK.out _ _ ?_ (fun hHeld => ?_)
              focus ((first | (simp [go_sem]; done) | (repeat' (first | (with_reducible assumption) | (with_reducible refine And.intro ?_ ?_) | (with_reducible refine cell_drew ?_) | (with_reducible refine cell_via (by with_reducible assumption) ?_ ?_) | (simp [*]; done) | (simp [go_sem]; done) | (with_reducible refine cell_alloc ?_ ?_) | (with_reducible refine cell_set_far ?_ ?_) | omega | (simp; omega)))); done)
              (try simp only [Act.put, List.getElem_toArray, List.getElem_cons_succ, List.getElem_cons_zero, List.setIfInBounds_toArray, List.set_cons_zero, List.set_cons_succ])
              refine wpAnyH_ready (rs := [7]) (by kernel_rfl) (by simp) ?_
              refine AllReadyH.cons rfl (fun K hK => ?_) AllReadyH.nil
              (try simp only [List.getElem_toArray, List.getElem_cons_succ, List.getElem_cons_zero])
              go_simp
              go_at_call 15
              with_reducible refine (bigMul l[k].qty l[k].price s7 s8 l7 l8 A7 A8 c7 c8 65 _ (by omega) (by omega) (by omega) (HB7.out.keep (by (repeat' (first | (with_reducible exact Below.refl _ _) | (with_reducible assumption) | (with_reducible refine Below.alloc ?_ ?_ _) | (with_reducible refine Below.setCell ?_ ?_ _) | (with_reducible refine Below.drew ?_) | (with_reducible refine below_drewN ?_ _) | (with_reducible refine below_via ?_ (by with_reducible assumption) ?_) | omega | (simp; done) | (simp; omega))))) (HB8.out.keep (by (repeat' (first | (with_reducible exact Below.refl _ _) | (with_reducible assumption) | (with_reducible refine Below.alloc ?_ ?_ _) | (with_reducible refine Below.setCell ?_ ?_ _) | (with_reducible refine Below.drew ?_) | (with_reducible refine below_drewN ?_ _) | (with_reducible refine below_via ?_ (by with_reducible assumption) ?_) | omega | (simp; done) | (simp; omega)))))).mono ?_
              rintro e w9 ⟨s9, A9, l9, c9, rfl, hB9, hl9, hb9⟩
              have HB9 := Lib.hid hB9
              clear hB9
              obtain ⟨fc9, fg9, hc9, hf9, hz9⟩ := bget hb9; (try simp at hz9)
              refine hK.out _ _ ?_ (fun hHeld => ?_)
              focus ((first | (simp [go_sem]; done) | (repeat' (first | (with_reducible assumption) | (with_reducible refine And.intro ?_ ?_) | (with_reducible refine cell_drew ?_) | (with_reducible refine cell_via (by with_reducible assumption) ?_ ?_) | (simp [*]; done) | (simp [go_sem]; done) | (with_reducible refine cell_alloc ?_ ?_) | (with_reducible refine cell_set_far ?_ ?_) | omega | (simp; omega)))); done)
              (try simp only [Act.put, List.getElem_toArray, List.getElem_cons_succ, List.getElem_cons_zero, List.setIfInBounds_toArray, List.set_cons_zero, List.set_cons_succ])
              refine wpAnyH_ready (rs := [8]) (by kernel_rfl) (by simp) ?_
              refine AllReadyH.cons rfl (fun K hK => ?_) AllReadyH.nil
              (try simp only [List.getElem_toArray, List.getElem_cons_succ, List.getElem_cons_zero])
              go_simp
              go_at_call 14
              with_reducible refine (bigAdd cs (l[k].qty * l[k].price) s3 s9 l3 l9 A3 A9 c3 c9 (300 + k) _ (by omega) (by omega) (by omega) (HB3'.out.keep (by (repeat' (first | (with_reducible exact Below.refl _ _) | (with_reducible assumption) | (with_reducible refine Below.alloc ?_ ?_ _) | (with_reducible refine Below.setCell ?_ ?_ _) | (with_reducible refine Below.drew ?_) | (with_reducible refine below_drewN ?_ _) | (with_reducible refine below_via ?_ (by with_reducible assumption) ?_) | omega | (simp; done) | (simp; omega))))) (HB9.out.keep (by (repeat' (first | (with_reducible exact Below.refl _ _) | (with_reducible assumption) | (with_reducible refine Below.alloc ?_ ?_ _) | (with_reducible refine Below.setCell ?_ ?_ _) | (with_reducible refine Below.drew ?_) | (with_reducible refine below_drewN ?_ _) | (with_reducible refine below_via ?_ (by with_reducible assumption) ?_) | omega | (simp; done) | (simp; omega)))))).mono ?_
              rintro e w10 ⟨s10, A10, l10, c10, rfl, hB10, hl10, hb10⟩
              have HB10 := Lib.hid hB10
              clear hB10
              obtain ⟨fc10, fg10, hc10, hf10, hz10⟩ := bget hb10; (try simp at hz10)
              refine hK.out _ _ ?_ (fun hHeld => ?_)
              focus ((first | (simp [go_sem]; done) | (repeat' (first | (with_reducible assumption) | (with_reducible refine And.intro ?_ ?_) | (with_reducible refine cell_drew ?_) | (with_reducible refine cell_via (by with_reducible assumption) ?_ ?_) | (simp [*]; done) | (simp [go_sem]; done) | (with_reducible refine cell_alloc ?_ ?_) | (with_reducible refine cell_set_far ?_ ?_) | omega | (simp; omega)))); done)
              (try simp only [Act.put, List.getElem_toArray, List.getElem_cons_succ, List.getElem_cons_zero, List.setIfInBounds_toArray, List.set_cons_zero, List.set_cons_succ])
              refine wpAnyH_ready (rs := [9]) (by kernel_rfl) (by simp) ?_
              refine AllReadyH.cons rfl (fun K hK => ?_) AllReadyH.nil
              (try simp only [List.getElem_toArray, List.getElem_cons_succ, List.getElem_cons_zero])
              go_simp
              go_wp2_with fail
              refine hK.out _ _ ?_ (fun hHeld => ?_)
              focus ((first | (simp [go_sem]; done) | (repeat' (first | (with_reducible assumption) | (with_reducible refine And.intro ?_ ?_) | (with_reducible refine cell_drew ?_) | (with_reducible refine cell_via (by with_reducible assumption) ?_ ?_) | (simp [*]; done) | (simp [go_sem]; done) | (with_reducible refine cell_alloc ?_ ?_) | (with_reducible refine cell_set_far ?_ ?_) | omega | (simp; omega)))); done)
              (try simp only [Act.put, List.getElem_toArray, List.getElem_cons_succ, List.getElem_cons_zero, List.setIfInBounds_toArray, List.set_cons_zero, List.set_cons_succ])
              refine wpAnyH_done (by kernel_rfl) ?_ _
              go_wp2_with fail
              go_roundw
              case rel =>
                have h10 : Below w6.heap.size ((w6.setCell ⟨w.heap.size, 0, none⟩ (.bool s6)).setCell ⟨w.heap.size, 1, none⟩ (.slice A6 l6.length c6)) w10 := (by (repeat' (first | (with_reducible exact Below.refl _ _) | (with_reducible assumption) | (with_reducible refine Below.alloc ?_ ?_ _) | (with_reducible refine Below.setCell ?_ ?_ _) | (with_reducible refine Below.drew ?_) | (with_reducible refine below_drewN ?_ _) | (with_reducible refine below_via ?_ (by with_reducible assumption) ?_) | omega | (simp; done) | (simp; omega))))
                have hk10 := HK3.out.below h10 (by have := H6.out.size; omega)
                have t2 := hk10.cell 0
                have t3 := hk10.cell 1
                simp at t2 t3
                refine ⟨k + 1, s6, A6, l6, c6, s10, A10, l10, c10, by omega, by go_num, ?_, by omega, ?_, ?_, by omega, ?_, ?_, HNX.out⟩
                · rw [HQS.out]
                  exact ((HB6'.out.keep (by (repeat' (first | (with_reducible exact Below.refl _ _) | (with_reducible assumption) | (with_reducible refine Below.alloc ?_ ?_ _) | (with_reducible refine Below.setCell ?_ ?_ _) | (with_reducible refine Below.drew ?_) | (with_reducible refine below_drewN ?_ _) | (with_reducible refine below_via ?_ (by with_reducible assumption) ?_) | omega | (simp; done) | (simp; omega))))).far t2 (by simp) _).far ((World.cell?_setCell_other _ _ _ _ (by simp)).trans t3) (by simp) _
                · exact ((HK6.out.below h10 (by have := H6.out.size; omega)).far (by simp) _).far (by simp) _
                · rw [HCS.out]
                  exact (HB10.out.far t2 (by simp) _).far ((World.cell?_setCell_other _ _ _ _ (by simp)).trans t3) (by simp) _
                · have h5 := (hk10.set 0 (.bool s10)).set 1 (.slice A10 l10.length c10)
                  simpa using h5
                · have hbl := Hbl.out
                  have h6 := H6.out
                  (repeat' (first | (with_reducible exact Below.refl _ _) | (with_reducible assumption) | (with_reducible refine Below.alloc ?_ ?_ _) | (with_reducible refine Below.setCell ?_ ?_ _) | (with_reducible refine Below.drew ?_) | (with_reducible refine below_drewN ?_ _) | (with_reducible refine below_via ?_ (by with_reducible assumption) ?_) | omega | (simp; done) | (simp; omega)))
              case measure => (simp [intOf]; omega)
            · (try simp only [List.getElem_toArray, List.getElem_cons_succ, List.getElem_cons_zero])
              go_simp
              go_at_call 15
              with_reducible refine (bigMul l[k].qty l[k].price s7 s8 l7 l8 A7 A8 c7 c8 65 _ (by omega) (by omega) (by omega) (HB7.out.keep (by (repeat' (first | (with_reducible exact Below.refl _ _) | (with_reducible assumption) | (with_reducible refine Below.alloc ?_ ?_ _) | (with_reducible refine Below.setCell ?_ ?_ _) | (with_reducible refine Below.drew ?_) | (with_reducible refine below_drewN ?_ _) | (with_reducible refine below_via ?_ (by with_reducible assumption) ?_) | omega | (simp; done) | (simp; omega))))) (HB8.out.keep (by (repeat' (first | (with_reducible exact Below.refl _ _) | (with_reducible assumption) | (with_reducible refine Below.alloc ?_ ?_ _) | (with_reducible refine Below.setCell ?_ ?_ _) | (with_reducible refine Below.drew ?_) | (with_reducible refine below_drewN ?_ _) | (with_reducible refine below_via ?_ (by with_reducible assumption) ?_) | omega | (simp; done) | (simp; omega)))))).mono ?_
              rintro e w9 ⟨s9, A9, l9, c9, rfl, hB9, hl9, hb9⟩
              have HB9 := Lib.hid hB9
              clear hB9
              obtain ⟨fc9, fg9, hc9, hf9, hz9⟩ := bget hb9; (try simp at hz9)
              refine hK.out _ _ ?_ (fun hHeld => ?_)
              focus ((first | (simp [go_sem]; done) | (repeat' (first | (with_reducible assumption) | (with_reducible refine And.intro ?_ ?_) | (with_reducible refine cell_drew ?_) | (with_reducible refine cell_via (by with_reducible assumption) ?_ ?_) | (simp [*]; done) | (simp [go_sem]; done) | (with_reducible refine cell_alloc ?_ ?_) | (with_reducible refine cell_set_far ?_ ?_) | omega | (simp; omega)))); done)
              (try simp only [Act.put, List.getElem_toArray, List.getElem_cons_succ, List.getElem_cons_zero, List.setIfInBounds_toArray, List.set_cons_zero, List.set_cons_succ])
              refine wpAnyH_ready (rs := [0]) (by kernel_rfl) (by simp) ?_
              refine AllReadyH.cons rfl (fun K hK => ?_) AllReadyH.nil
              (try simp only [List.getElem_toArray, List.getElem_cons_zero])
              go_simp
              (try go_wp2_with fail)
              refine hK.out _ _ ?_ (fun hHeld => ?_)
              focus ((first | (simp [go_sem]; done) | (repeat' (first | (with_reducible assumption) | (with_reducible refine And.intro ?_ ?_) | (with_reducible refine cell_drew ?_) | (with_reducible refine cell_via (by with_reducible assumption) ?_ ?_) | (simp [*]; done) | (simp [go_sem]; done) | (with_reducible refine cell_alloc ?_ ?_) | (with_reducible refine cell_set_far ?_ ?_) | omega | (simp; omega)))); done)
              (try simp only [Act.put, List.getElem_toArray, List.getElem_cons_succ, List.getElem_cons_zero, List.setIfInBounds_toArray, List.set_cons_zero, List.set_cons_succ])
              refine wpAnyH_ready (rs := [8]) (by kernel_rfl) (by simp) ?_
              refine AllReadyH.cons rfl (fun K hK => ?_) AllReadyH.nil
              (try simp only [List.getElem_toArray, List.getElem_cons_succ, List.getElem_cons_zero])
              go_simp
              go_at_call 14
              with_reducible refine (bigAdd cs (l[k].qty * l[k].price) s3 s9 l3 l9 A3 A9 c3 c9 (300 + k) _ (by omega) (by omega) (by omega) (HB3'.out.keep (by (repeat' (first | (with_reducible exact Below.refl _ _) | (with_reducible assumption) | (with_reducible refine Below.alloc ?_ ?_ _) | (with_reducible refine Below.setCell ?_ ?_ _) | (with_reducible refine Below.drew ?_) | (with_reducible refine below_drewN ?_ _) | (with_reducible refine below_via ?_ (by with_reducible assumption) ?_) | omega | (simp; done) | (simp; omega))))) (HB9.out.keep (by (repeat' (first | (with_reducible exact Below.refl _ _) | (with_reducible assumption) | (with_reducible refine Below.alloc ?_ ?_ _) | (with_reducible refine Below.setCell ?_ ?_ _) | (with_reducible refine Below.drew ?_) | (with_reducible refine below_drewN ?_ _) | (with_reducible refine below_via ?_ (by with_reducible assumption) ?_) | omega | (simp; done) | (simp; omega)))))).mono ?_
              rintro e w10 ⟨s10, A10, l10, c10, rfl, hB10, hl10, hb10⟩
              have HB10 := Lib.hid hB10
              clear hB10
              obtain ⟨fc10, fg10, hc10, hf10, hz10⟩ := bget hb10; (try simp at hz10)
              refine hK.out _ _ ?_ (fun hHeld => ?_)
              focus ((first | (simp [go_sem]; done) | (repeat' (first | (with_reducible assumption) | (with_reducible refine And.intro ?_ ?_) | (with_reducible refine cell_drew ?_) | (with_reducible refine cell_via (by with_reducible assumption) ?_ ?_) | (simp [*]; done) | (simp [go_sem]; done) | (with_reducible refine cell_alloc ?_ ?_) | (with_reducible refine cell_set_far ?_ ?_) | omega | (simp; omega)))); done)
              (try simp only [Act.put, List.getElem_toArray, List.getElem_cons_succ, List.getElem_cons_zero, List.setIfInBounds_toArray, List.set_cons_zero, List.set_cons_succ])
              refine wpAnyH_ready (rs := [9]) (by kernel_rfl) (by simp) ?_
              refine AllReadyH.cons rfl (fun K hK => ?_) AllReadyH.nil
              (try simp only [List.getElem_toArray, List.getElem_cons_succ, List.getElem_cons_zero])
              go_simp
              go_wp2_with fail
              refine hK.out _ _ ?_ (fun hHeld => ?_)
              focus ((first | (simp [go_sem]; done) | (repeat' (first | (with_reducible assumption) | (with_reducible refine And.intro ?_ ?_) | (with_reducible refine cell_drew ?_) | (with_reducible refine cell_via (by with_reducible assumption) ?_ ?_) | (simp [*]; done) | (simp [go_sem]; done) | (with_reducible refine cell_alloc ?_ ?_) | (with_reducible refine cell_set_far ?_ ?_) | omega | (simp; omega)))); done)
              (try simp only [Act.put, List.getElem_toArray, List.getElem_cons_succ, List.getElem_cons_zero, List.setIfInBounds_toArray, List.set_cons_zero, List.set_cons_succ])
              refine wpAnyH_done (by kernel_rfl) ?_ _
              go_wp2_with fail
              go_roundw
              case rel =>
                have h10 : Below w6.heap.size ((w6.setCell ⟨w.heap.size, 0, none⟩ (.bool s6)).setCell ⟨w.heap.size, 1, none⟩ (.slice A6 l6.length c6)) w10 := (by (repeat' (first | (with_reducible exact Below.refl _ _) | (with_reducible assumption) | (with_reducible refine Below.alloc ?_ ?_ _) | (with_reducible refine Below.setCell ?_ ?_ _) | (with_reducible refine Below.drew ?_) | (with_reducible refine below_drewN ?_ _) | (with_reducible refine below_via ?_ (by with_reducible assumption) ?_) | omega | (simp; done) | (simp; omega))))
                have hk10 := HK3.out.below h10 (by have := H6.out.size; omega)
                have t2 := hk10.cell 0
                have t3 := hk10.cell 1
                simp at t2 t3
                refine ⟨k + 1, s6, A6, l6, c6, s10, A10, l10, c10, by omega, by go_num, ?_, by omega, ?_, ?_, by omega, ?_, ?_, HNX.out⟩
                · rw [HQS.out]
                  exact ((HB6'.out.keep (by (repeat' (first | (with_reducible exact Below.refl _ _) | (with_reducible assumption) | (with_reducible refine Below.alloc ?_ ?_ _) | (with_reducible refine Below.setCell ?_ ?_ _) | (with_reducible refine Below.drew ?_) | (with_reducible refine below_drewN ?_ _) | (with_reducible refine below_via ?_ (by with_reducible assumption) ?_) | omega | (simp; done) | (simp; omega))))).far t2 (by simp) _).far ((World.cell?_setCell_other _ _ _ _ (by simp)).trans t3) (by simp) _
                · exact ((HK6.out.below h10 (by have := H6.out.size; omega)).far (by simp) _).far (by simp) _
                · rw [HCS.out]
                  exact (HB10.out.far t2 (by simp) _).far ((World.cell?_setCell_other _ _ _ _ (by simp)).trans t3) (by simp) _
                · have h5 := (hk10.set 0 (.bool s10)).set 1 (.slice A10 l10.length c10)
                  simpa using h5
                · have hbl := Hbl.out
                  have h6 := H6.out
                  (repeat' (first | (with_reducible exact Below.refl _ _) | (with_reducible assumption) | (with_reducible refine Below.alloc ?_ ?_ _) | (with_reducible refine Below.setCell ?_ ?_ _) | (with_reducible refine Below.drew ?_) | (with_reducible refine below_drewN ?_ _) | (with_reducible refine below_via ?_ (by with_reducible assumption) ?_) | omega | (simp; done) | (simp; omega)))
              case measure => (simp [intOf]; omega)
    · have dl : decide ((k : Int) < (l.length : Int)) = false := by simpa using hlt
      have HT := Lib.hid (show l.take k = l from List.take_of_length_le (by omega))
      have hok0 := HNO.out
      rw [HT.out] at hok0 HB2 HB3
      have HOK := Lib.hid hok0
      have hany : l.any fbad = false := by
        rw [List.any_eq_false]
        intro f hf
        rw [fbad_ok.2 (hok0 f hf)]; simp
      have HD2 := Lib.hid (show avC l = (if mixed l = true then 2 else if 1099511627776 < aQ l then 25 else 0) from by rw [HD1.out, hany, if_neg (by simp)])
      clear HT HNO HD1 hok0 hany
      go_wp2_with fail
      go_loopw [10] (fun i w2 => ∃ j : Nat, j ≤ l.length ∧ i = .int .i64 j ∧ (∃ n, w2 = wr.drewN n) ∧ ∀ j' (_ : j' < l.length), j' < j → other l l[j'] = false) (fun i _ => l.length - (intOf i).toNat)
      case atStart => exact ⟨0, Nat.zero_le _, rfl, ⟨0, rfl⟩, fun j _ h => absurd h (by omega)⟩
      case round =>
        obtain ⟨j, hj, rfl, ⟨nn, rfl⟩, hno⟩ := hrel
        have Hno := Lib.hid hno
        clear hno
        by_cases hlj : j < l.length
        · have jl : (j : Int) < (l.length : Int) := by omega
          have dj : decide ((j : Int) < (l.length : Int)) = true := by simpa using hlj
          obtain ⟨b, o, rfl, hb, hc⟩ := HR.out j (encFill l[j]) (by simp [hlj])
          obtain ⟨b', o', he, hb', hc'⟩ := HR.out 0 (encFill l[0]) (by simp [hl1])
          obtain ⟨rfl, rfl⟩ : b' = b ∧ o' = o := by injection he with he; injection he with h1 h2; exact ⟨h1.symm, h2.symm⟩
          have e0 := (Hbl.out.cell (p := ⟨b', o' + j * 2 + 0, none⟩) hb).trans (hc 0 _ rfl)
          have y0 := (Hbl.out.cell (p := ⟨b', o' + 0 * 2 + 0, none⟩) hb).trans (hc' 0 _ rfl)
          simp only [Nat.add_zero, Nat.zero_mul] at e0 y0
          have hbw : b' < wr.heap.size := by omega
          have HSG := Lib.hid (show other l l[j] = (decide (l[j].qty < 0) != decide (l[0].qty < 0)) from by unfold other; rw [HH.out])
          clear hc hc' he
          cases ho : other l l[j]
          · have HN := Lib.hid (fun j' (hj : j' < l.length) (h : j' < j + 1) => show other l l[j'] = false from by
              rcases Nat.lt_or_ge j' j with h1 | h1
              · exact Hno.out j' hj h1
              · obtain rfl : j' = j := by omega
                exact ho)
            have hs := HSG.out
            rw [ho] at hs
            clear ho HSG Hno
            cases s1 : decide (l[j].qty < 0)
            all_goals
              rw [s1] at hs
              cases s2 : decide (l[0].qty < 0)
              all_goals rw [s2] at hs
              all_goals first | (exact absurd hs (by decide)) | skip
            all_goals
              clear hs
              go_wp2_with fail
              go_quiet (fail)
              go_wp2_with fail
              go_roundw
              case rel => exact ⟨j + 1, by omega, by go_num, ⟨_, rfl⟩, HN.out⟩
              case measure => simp [intOf]; omega
          · have HMX : Hid (mixed l = true) := by
              unfold Hid mixed
              rw [List.any_eq_true]
              exact ⟨_, List.getElem_mem hlj, ho⟩
            have HQ := Lib.hid (show avC l = 2 from by rw [HD2.out, HMX.out, if_pos rfl])
            obtain ⟨y1, y2, y3, _, _⟩ := av_not (l := l) (by rw [HQ.out]; decide)
            have Y1 := Lib.hid y1
            have Y2 := Lib.hid y2
            have Y3 := Lib.hid y3
            have hs := HSG.out
            rw [ho] at hs
            clear ho HSG Hno HMX y1 y2 y3
            cases s1 : decide (l[j].qty < 0)
            all_goals
              rw [s1] at hs
              cases s2 : decide (l[0].qty < 0)
              all_goals rw [s2] at hs
              all_goals first | (exact absurd hs (by decide)) | skip
            all_goals
              clear hs
              go_wp2_with fail
              go_quiet (fail)
              go_wp2_with fail
              have hbl := Hbl.out
              refine bodyPost_ret (by simp [results, Try.results19, go_sem, go_sem]; try rfl) rfl ⟨by rw [Y1.out, Y2.out, Y3.out, HQ.out], ?_⟩
              (repeat' (first | (with_reducible exact Below.refl _ _) | (with_reducible assumption) | (with_reducible refine Below.alloc ?_ ?_ _) | (with_reducible refine Below.setCell ?_ ?_ _) | (with_reducible refine Below.drew ?_) | (with_reducible refine below_drewN ?_ _) | (with_reducible refine below_via ?_ (by with_reducible assumption) ?_) | omega | (simp; done) | (simp; omega)))
        · have dj : decide ((j : Int) < (l.length : Int)) = false := by simpa using hlj
          have HMX : mixed l = false := by
            unfold mixed
            rw [List.any_eq_false]
            intro x hx
            obtain ⟨j', hj', rfl⟩ := List.getElem_of_mem hx
            rw [Hno.out j' hj' (by omega)]; simp
          have HD3 := Lib.hid (show avC l = (if 1099511627776 < aQ l then 25 else 0) from by rw [HD2.out, HMX, if_neg (by simp)])
          have hb := aQ_bound HOK.out
          have hcb := aC_bound HOK.out
          have hsg := signs hl1 HMX
          have hq1 : iabs (qS l) = aQ l := by rcases hsg with ⟨_, h, _⟩ | ⟨_, h, _⟩ <;> rw [h] <;> unfold iabs <;> split <;> omega
          have hq2 : iabs (cS l) = aC l := by rcases hsg with ⟨_, _, h⟩ | ⟨_, _, h⟩ <;> rw [h] <;> unfold iabs <;> split <;> omega
          have hq64 : In64 (qS l) := by unfold In64; unfold iabs at hq1; split at hq1 <;> omega
          have HBQ := Lib.hid (show IsBig (wr.drewN nn) (aQ l) false A2 l2 c2 from by have h := isBig_absB (HB2.out.keep (w' := wr.drewN nn) (by (repeat' (first | (with_reducible exact Below.refl _ _) | (with_reducible assumption) | (with_reducible refine Below.alloc ?_ ?_ _) | (with_reducible refine Below.setCell ?_ ?_ _) | (with_reducible refine Below.drew ?_) | (with_reducible refine below_drewN ?_ _) | (with_reducible refine below_via ?_ (by with_reducible assumption) ?_) | omega | (simp; done) | (simp; omega))))); rw [hq1] at h; exact h)
          have HBC := Lib.hid (show IsBig (wr.drewN nn) (aC l) false A3 l3 c3 from by have h := isBig_absB (HB3.out.keep (w' := wr.drewN nn) (by (repeat' (first | (with_reducible exact Below.refl _ _) | (with_reducible assumption) | (with_reducible refine Below.alloc ?_ ?_ _) | (with_reducible refine Below.setCell ?_ ?_ _) | (with_reducible refine Below.drew ?_) | (with_reducible refine below_drewN ?_ _) | (with_reducible refine below_via ?_ (by with_reducible assumption) ?_) | omega | (simp; done) | (simp; omega))))); rw [hq2] at h; exact h)
          have hb1 : aQ l ≤ 17592186044416 := by omega
          have hb0 : 0 ≤ aQ l := hb.1
          have HCB := Lib.hid hcb
          clear hb hcb hsg hq1 hq2 HMX Hno HD2 HOK
          go_wp2_with (first | (go_at_call 51; (with_reducible refine (bigInt (qS l) s2 l2 A2 c2 _ (by omega) hq64 (HB2.out.keep (by (repeat' (first | (with_reducible exact Below.refl _ _) | (with_reducible assumption) | (with_reducible refine Below.alloc ?_ ?_ _) | (with_reducible refine Below.setCell ?_ ?_ _) | (with_reducible refine Below.drew ?_) | (with_reducible refine below_drewN ?_ _) | (with_reducible refine below_via ?_ (by with_reducible assumption) ?_) | omega | (simp; done) | (simp; omega)))))).mono ?_); rintro e w11 ⟨rfl, hb11⟩; obtain ⟨fc11, fg11, hc11, hf11, hz11⟩ := bget hb11; (try simp at hz11)) | fail)
          have h11 : Below wr.heap.size wr w11 := by (repeat' (first | (with_reducible exact Below.refl _ _) | (with_reducible assumption) | (with_reducible refine Below.alloc ?_ ?_ _) | (with_reducible refine Below.setCell ?_ ?_ _) | (with_reducible refine Below.drew ?_) | (with_reducible refine below_drewN ?_ _) | (with_reducible refine below_via ?_ (by with_reducible assumption) ?_) | omega | (simp; done) | (simp; omega)))
          have k2 := Hbk2.out.below h11 ug
          have k3 := Hbk3.out.below h11 ug3
          have t0 := k2.cell 0
          have t1 := k2.cell 1
          have t2 := k3.cell 0
          have t3 := k3.cell 1
          have y0 := k2.frozen 0
          have y1 := k2.frozen 1
          have y2 := k3.frozen 0
          have y3 := k3.frozen 1
          simp at t0 t1 t2 t3
          have HQ12 := Lib.hid (((HBQ.out.keep (w' := w11) (by (repeat' (first | (with_reducible exact Below.refl _ _) | (with_reducible assumption) | (with_reducible refine Below.alloc ?_ ?_ _) | (with_reducible refine Below.setCell ?_ ?_ _) | (with_reducible refine Below.drew ?_) | (with_reducible refine below_drewN ?_ _) | (with_reducible refine below_via ?_ (by with_reducible assumption) ?_) | omega | (simp; done) | (simp; omega))))).far t0 (by simp) (.bool false)).far ((World.cell?_setCell_other _ _ _ _ (by simp)).trans t2) (by simp) (.bool false))
          have HC12 := Lib.hid (((HBC.out.keep (w' := w11) (by (repeat' (first | (with_reducible exact Below.refl _ _) | (with_reducible assumption) | (with_reducible refine Below.alloc ?_ ?_ _) | (with_reducible refine Below.setCell ?_ ?_ _) | (with_reducible refine Below.drew ?_) | (with_reducible refine below_drewN ?_ _) | (with_reducible refine below_via ?_ (by with_reducible assumption) ?_) | omega | (simp; done) | (simp; omega))))).far t0 (by simp) (.bool false)).far ((World.cell?_setCell_other _ _ _ _ (by simp)).trans t2) (by simp) (.bool false))
          have m2 := (k2.set 0 (.bool false)).far (p := ⟨w.heap.size + 1, 0, none⟩) (by simp) (.bool false)
          have m3 := (k3.far (p := ⟨w.heap.size, 0, none⟩) (by simp) (.bool false)).set 0 (.bool false)
          have p0 := m2.cell 0
          have p1 := m2.cell 1
          have p2 := m3.cell 0
          have p3 := m3.cell 1
          simp at p0 p1 p2 p3
          have H11 := Lib.hid h11
          clear h11 k2 k3 m2 m3
          by_cases hbig : 1099511627776 < aQ l
          · have ho : ord (aQ l) 1099511627776 = 1 := by unfold ord; rw [if_neg (by omega), if_pos hbig]
            have HQ := Lib.hid (show avC l = 25 from by rw [HD3.out, if_pos hbig])
            obtain ⟨y1', y2', y3', _, _⟩ := av_not (l := l) (by rw [HQ.out]; decide)
            have Y1 := Lib.hid y1'
            have Y2 := Lib.hid y2'
            have Y3 := Lib.hid y3'
            clear y1' y2' y3' HD3
            generalize aQ l = m at *
            go_region_held3 (fun w' => w'.cell? ⟨w.heap.size, 0, none⟩ = some (.bool false) ∧ w'.cell? ⟨w.heap.size, 1, none⟩ = some (.slice A2 l2.length c2)) (first | (simp [go_sem]; done) | (repeat' (first | (with_reducible assumption) | (with_reducible refine And.intro ?_ ?_) | (with_reducible refine cell_drew ?_) | (with_reducible refine cell_via (by with_reducible assumption) ?_ ?_) | (simp [*]; done) | (simp [go_sem]; done) | (with_reducible refine cell_alloc ?_ ?_) | (with_reducible refine cell_set_far ?_ ?_) | omega | (simp; omega)))) (first | (go_at_call 16; (with_reducible refine (bigOf 1099511627776 _ (by unfold In64; omega)).mono ?_); rintro e w13 ⟨s13, A13, l13, c13, rfl, hB13, hl13, hb13⟩; have HB13 := Lib.hid hB13; clear hB13; obtain ⟨fc13, fg13, hc13, hf13, hz13⟩ := bget hb13; (try simp at hz13)) | (go_at_call 18; (with_reducible refine (bigCmp m 1099511627776 false s13 l2 l13 A2 A13 c2 c13 200 _ (by omega) (by omega) (by omega) (HQ12.out.keep (by (repeat' (first | (with_reducible exact Below.refl _ _) | (with_reducible assumption) | (with_reducible refine Below.alloc ?_ ?_ _) | (with_reducible refine Below.setCell ?_ ?_ _) | (with_reducible refine Below.drew ?_) | (with_reducible refine below_drewN ?_ _) | (with_reducible refine below_via ?_ (by with_reducible assumption) ?_) | omega | (simp; done) | (simp; omega))))) (HB13.out.keep (by (repeat' (first | (with_reducible exact Below.refl _ _) | (with_reducible assumption) | (with_reducible refine Below.alloc ?_ ?_ _) | (with_reducible refine Below.setCell ?_ ?_ _) | (with_reducible refine Below.drew ?_) | (with_reducible refine below_drewN ?_ _) | (with_reducible refine below_via ?_ (by with_reducible assumption) ?_) | omega | (simp; done) | (simp; omega)))))).mono ?_); rw [ho]; rintro e w14 ⟨rfl, hb14⟩; obtain ⟨fc14, fg14, hc14, hf14, hz14⟩ := bget hb14; (try simp at hz14)) | fail)
            go_wp2_with fail
            have hbl := Hbl.out
            have h11 := H11.out
            refine bodyPost_ret (by simp [results, Try.results19, go_sem, go_sem]; try rfl) rfl ⟨by rw [Y1.out, Y2.out, Y3.out, HQ.out], ?_⟩
            (repeat' (first | (with_reducible exact Below.refl _ _) | (with_reducible assumption) | (with_reducible refine Below.alloc ?_ ?_ _) | (with_reducible refine Below.setCell ?_ ?_ _) | (with_reducible refine Below.drew ?_) | (with_reducible refine below_drewN ?_ _) | (with_reducible refine below_via ?_ (by with_reducible assumption) ?_) | omega | (simp; done) | (simp; omega)))
          · have ho : decide (0 < ord (aQ l) 1099511627776) = false := by unfold ord; split <;> simp <;> omega
            have HQ0 : avC l = 0 := by rw [HD3.out, if_neg hbig]
            have HQ := Lib.hid HQ0
            obtain ⟨y1', y2', y3', _, _⟩ := av_yes HQ0
            obtain ⟨_, d2', d3', d4', d5', -⟩ := av_div HQ0
            obtain ⟨_, _, _, _, q0', q1'⟩ := av_zero HQ0
            have Y1 := Lib.hid y1'
            have Y2 := Lib.hid y2'
            have Y3 := Lib.hid y3'
            have hd64 : In64 (aC l / aQ l) := by unfold In64; omega
            have CD := Lib.hid (fun W s A c (h : IsBig W (aC l) s A l3 c) => bigDiv (aC l) (aQ l) s l3 A c 400 W q0' (by omega) (by omega) (by omega) h)
            have CI := Lib.hid (fun W h => bigInt (aQ l) false l2 A2 c2 W (by omega) (by unfold In64; omega) h)
            clear y1' y2' y3' HD3 HQ0 HCB
            generalize aC l / aQ l = pr at *
            generalize aC l % aQ l = rs at *
            generalize aQ l = m at *
            generalize aC l = cc at *
            obtain ⟨oo, hoo⟩ : ∃ oo, ord m 1099511627776 = oo := ⟨_, rfl⟩
            rw [hoo] at ho
            have HO := Lib.hid hoo
            have HWR := Lib.hid (show IntKind.u64.wrap m = m from IntWalk.u64_in _ (by omega))
            clear hoo
            go_region_held3 (fun w' => w'.cell? ⟨w.heap.size, 0, none⟩ = some (.bool false) ∧ w'.cell? ⟨w.heap.size, 1, none⟩ = some (.slice A2 l2.length c2)) (first | (simp [go_sem]; done) | (repeat' (first | (with_reducible assumption) | (with_reducible refine And.intro ?_ ?_) | (with_reducible refine cell_drew ?_) | (with_reducible refine cell_via (by with_reducible assumption) ?_ ?_) | (simp [*]; done) | (simp [go_sem]; done) | (with_reducible refine cell_alloc ?_ ?_) | (with_reducible refine cell_set_far ?_ ?_) | omega | (simp; omega)))) (first | (go_at_call 16; (with_reducible refine (bigOf 1099511627776 _ (by unfold In64; omega)).mono ?_); rintro e w13 ⟨s13, A13, l13, c13, rfl, hB13, hl13, hb13⟩; have HB13 := Lib.hid hB13; clear hB13; obtain ⟨fc13, fg13, hc13, hf13, hz13⟩ := bget hb13; (try simp at hz13)) | (go_at_call 18; (with_reducible refine (bigCmp m 1099511627776 false s13 l2 l13 A2 A13 c2 c13 200 _ (by omega) (by omega) (by omega) (HQ12.out.keep (by (repeat' (first | (with_reducible exact Below.refl _ _) | (with_reducible assumption) | (with_reducible refine Below.alloc ?_ ?_ _) | (with_reducible refine Below.setCell ?_ ?_ _) | (with_reducible refine Below.drew ?_) | (with_reducible refine below_drewN ?_ _) | (with_reducible refine below_via ?_ (by with_reducible assumption) ?_) | omega | (simp; done) | (simp; omega))))) (HB13.out.keep (by (repeat' (first | (with_reducible exact Below.refl _ _) | (with_reducible assumption) | (with_reducible refine Below.alloc ?_ ?_ _) | (with_reducible refine Below.setCell ?_ ?_ _) | (with_reducible refine Below.drew ?_) | (with_reducible refine below_drewN ?_ _) | (with_reducible refine below_via ?_ (by with_reducible assumption) ?_) | omega | (simp; done) | (simp; omega)))))).mono ?_); rw [HO.out]; rintro e w14 ⟨rfl, hb14⟩; obtain ⟨fc14, fg14, hc14, hf14, hz14⟩ := bget hb14; (try simp at hz14)) | fail)
            go_wp2_with fail
            go_region_held3 (fun w' => (w'.cell? ⟨w.heap.size, 0, none⟩ = some (.bool false) ∧ w'.cell? ⟨w.heap.size, 1, none⟩ = some (.slice A2 l2.length c2)) ∧ w'.cell? ⟨w.heap.size + 1, 0, none⟩ = some (.bool false) ∧ w'.cell? ⟨w.heap.size + 1, 1, none⟩ = some (.slice A3 l3.length c3)) (first | (simp [go_sem]; done) | (repeat' (first | (with_reducible assumption) | (with_reducible refine And.intro ?_ ?_) | (with_reducible refine cell_drew ?_) | (with_reducible refine cell_via (by with_reducible assumption) ?_ ?_) | (simp [*]; done) | (simp [go_sem]; done) | (with_reducible refine cell_alloc ?_ ?_) | (with_reducible refine cell_set_far ?_ ?_) | omega | (simp; omega)))) (first | (go_at_call 51; (with_reducible refine (CI.out _ (HQ12.out.keep (by (repeat' (first | (with_reducible exact Below.refl _ _) | (with_reducible assumption) | (with_reducible refine Below.alloc ?_ ?_ _) | (with_reducible refine Below.setCell ?_ ?_ _) | (with_reducible refine Below.drew ?_) | (with_reducible refine below_drewN ?_ _) | (with_reducible refine below_via ?_ (by with_reducible assumption) ?_) | omega | (simp; done) | (simp; omega)))))).mono ?_); rintro e w15 ⟨rfl, hb15⟩; obtain ⟨fc15, fg15, hc15, hf15, hz15⟩ := bget hb15; (try simp at hz15)) | (go_at_call 52; rw [HWR.out]; (with_reducible refine (CD.out _ _ _ _ (HC12.out.keep (by (repeat' (first | (with_reducible exact Below.refl _ _) | (with_reducible assumption) | (with_reducible refine Below.alloc ?_ ?_ _) | (with_reducible refine Below.setCell ?_ ?_ _) | (with_reducible refine Below.drew ?_) | (with_reducible refine below_drewN ?_ _) | (with_reducible refine below_via ?_ (by with_reducible assumption) ?_) | omega | (simp; done) | (simp; omega)))))).mono ?_); rintro e w16 ⟨s16, A16, l16, c16, rfl, hB16, hl16, hb16⟩; have HB16 := Lib.hid hB16; clear hB16; obtain ⟨fc16, fg16, hc16, hf16, hz16⟩ := bget hb16; (try simp at hz16)) | fail)
            all_goals
              go_wp2_with (first | (go_at_call 51; (with_reducible refine (bigInt pr s16 l16 A16 c16 _ (by omega) hd64 ?_).mono ?_); (focus (repeat' (first | (focus ((refine (HB16.out).keep ?_); (repeat' (first | (with_reducible exact Below.refl _ _) | (with_reducible assumption) | (with_reducible refine Below.alloc ?_ ?_ _) | (with_reducible refine Below.setCell ?_ ?_ _) | (with_reducible refine Below.drew ?_) | (with_reducible refine below_drewN ?_ _) | (with_reducible refine below_via ?_ (by with_reducible assumption) ?_) | omega | (simp; done) | (simp; omega))); done)) | (refine IsBig.far (v0 := .slice none 0 0) ?_ ?_ ?_ _; rotate_left; (focus (first | (simp [go_sem, *]; done) | (simp [go_sem, *, ↓IntWalk.iteOmega]; done))); (focus (simp; done))) | (refine IsBig.far (v0 := .bool false) ?_ ?_ ?_ _; rotate_left; (focus (first | (simp [go_sem, *]; done) | (simp [go_sem, *, ↓IntWalk.iteOmega]; done))); (focus (simp; done))) | fail))); rintro e w17 ⟨rfl, hb17⟩; obtain ⟨fc17, fg17, hc17, hf17, hz17⟩ := bget hb17; (try simp at hz17)) | fail)
              have hbl := Hbl.out
              have h11 := H11.out
              refine bodyPost_ret (by simp [results, Try.results19, go_sem, go_sem]; try rfl) rfl ⟨by rw [Y1.out, Y2.out, Y3.out, HQ.out], ?_⟩
              (repeat' (first | (with_reducible exact Below.refl _ _) | (with_reducible assumption) | (with_reducible refine Below.alloc ?_ ?_ _) | (with_reducible refine Below.setCell ?_ ?_ _) | (with_reducible refine Below.drew ?_) | (with_reducible refine below_drewN ?_ _) | (with_reducible refine below_via ?_ (by with_reducible assumption) ?_) | omega | (simp; done) | (simp; omega)))
end Go.Proofs.Ytenehpcliajdnaa
