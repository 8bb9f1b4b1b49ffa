/- Joined: Ref19. -/
import Derived.Test.YtiidplinmempcaaJz13
import Derived.Test.YtiidplinmempcaaJz10
/- Books: contract of the reference's Shift. -/
namespace Go.Proofs.Ytiidplinmempcaa
open Go.RowKit
section
variable {α : Type} {u : Un} {now : List α} {x : Row α} {t : List (Row α)}
theorem shG_1 (h : x.unit = u) : shG u now true (x :: t) = shG u now true t := by
  rw [shG, if_neg (by simp), if_pos h]; rfl
theorem shG_2 (h : x.unit ≠ u) : shG u now true (x :: t) = x :: shG u now true t := by
  rw [shG, if_neg (by simp), if_neg h]; rfl
theorem shG_3 (h : x.unit ≠ u) (hl : lessU x.unit u = true) : shG u now false (x :: t) = x :: shG u now false t := by
  rw [shG, if_neg (by rw [hl]; simp), if_neg h, hl]; rfl
theorem shG_4 (h : x.unit = u) (hl : lessU x.unit u = false) : shG u now false (x :: t) = ⟨u, now⟩ :: shG u now true t := by
  rw [shG, if_pos ⟨rfl, hl⟩, if_pos h, hl]; rfl
theorem shG_5 (h : x.unit ≠ u) (hl : lessU x.unit u = false) : shG u now false (x :: t) = ⟨u, now⟩ :: x :: shG u now true t := by
  rw [shG, if_pos ⟨rfl, hl⟩, if_neg h, hl]; rfl
end
set_option maxRecDepth 100000 in
set_option maxHeartbeats 32000000 in
theorem ref19Shift (l : List PosV) (u : Un) (legs : List Leg) (A B : Option Addr) (c d : Nat) (w : World) (hl : l.length ≤ 2000) (hgl : legs.length ≤ 1000000) (h64 : L64 (l.map lgPosV)) (hg64 : Legs64 legs) (hr : Rd w A 3 (l.map encPosV)) (hg : ∀ x ∈ l, GoodPosV w x) (hrg : Rs w 2 (legs.map encLeg) B d) :
    Calls Try.prog 42 #[.slice A l.length c, .agg #[.int .i64 u.acc, .int .i64 u.cli], .slice B legs.length d] w (BookPost w (shL (l.map lgPosV) u legs) (shC (l.map lgPosV) u legs)) := by
  have ci := fun W (h : Below w.heap.size w W) => refPosVIs l A c W (by omega) (hr.keep h) (fun x hx => (hg x hx).keep h)
  have hib : isPosV l = isK isV (l.map lgPosV) := rfl
  rw [hib] at ci
  cases hi : isK isV (l.map lgPosV)
  · have HC : shC (l.map lgPosV) u legs = 3 := by unfold shC; rw [hi]; rfl
    have HLn : shL (l.map lgPosV) u legs = [] := sh_no (by rw [HC]; decide)
    rw [hi] at ci
    rw [HC, HLn]
    have CI := Lib.hid ci
    clear ci hi HC HLn hr hg hrg h64 hg64 hib
    go_enter Try.func42, Try.ntmps42
    go_wp2_with (first | (go_at_call 37; (with_reducible refine (CI.out _ (by (repeat' (first | (with_reducible exact Below.refl _ _) | (with_reducible assumption) | (with_reducible refine Below.alloc ?_ ?_ _) | (with_reducible refine Below.setCell ?_ ?_ _) | (with_reducible refine Below.drew ?_) | (with_reducible refine below_drewN ?_ _) | (with_reducible refine below_via ?_ (by with_reducible assumption) ?_) | omega | (simp; done) | (simp; omega))))).mono ?_); rintro e w1 ⟨rfl, hb1⟩; obtain ⟨fc1, fg1, hc1, hf1, hz1⟩ := bget hb1; (try simp at hz1)) | fail)
    go_ret2
    exact ⟨_, [], rfl, rfl, Own.nil _ _ _ _, fun y hy => absurd hy (by simp), by (repeat' (first | (with_reducible exact Below.refl _ _) | (with_reducible assumption) | (with_reducible refine Below.alloc ?_ ?_ _) | (with_reducible refine Below.setCell ?_ ?_ _) | (with_reducible refine Below.drew ?_) | (with_reducible refine below_drewN ?_ _) | (with_reducible refine below_via ?_ (by with_reducible assumption) ?_) | omega | (simp; done) | (simp; omega)))⟩
  rw [hi] at ci
  have CI := Lib.hid ci
  have hs := (isK_facts hi).1
  have CF := Lib.hid (fun W (h : Below w.heap.size w W) => refPosVOf l u A c W (by omega) (hr.keep h) (fun x hx => (hg x hx).keep h))
  have hol := of_len hg u
  have O64 := Lib.hid (of64 h64 u)
  have G64 := Lib.hid hg64
  have HG := Lib.hid (fun W (h : Below w.heap.size w W) => hrg.keep h)
  have hsc : shC (l.map lgPosV) u legs = addC [ofK (l.map lgPosV) u, legs] := by unfold shC; rw [hi]; rfl
  have hsl := fun h => (sh_ok (l := l.map lgPosV) (u := u) (legs := legs) h).2.2
  have hsn := fun h => sh_no (l := l.map lgPosV) (u := u) (legs := legs) h
  have hN8 := addL_len [ofK (l.map lgPosV) u, legs]
  have hwi := fun N : List Leg => shG_with hs u N
  have HRR := Lib.hid hr
  have HGG := Lib.hid hg
  generalize shC (l.map lgPosV) u legs = code at *
  generalize shL (l.map lgPosV) u legs = R at *
  generalize ofK (l.map lgPosV) u = O at *
  clear ci hi hr hg hrg h64 hg64 hib
  obtain ⟨N, hN⟩ : ∃ N, addL [O, legs] = N := ⟨_, rfl⟩
  rw [hN] at hN8 hsl
  have HSN := Lib.hid hN
  have HSC := Lib.hid hsc.symm
  clear hN hsc
  cases h0 : (code == 0)
  · have HRN := Lib.hid (hsn (by simpa using h0))
    have e1 : (code != 0) = true := by simp only [bne, h0]; rfl
    clear hsl hsn hwi
    go_enter Try.func42, Try.ntmps42
    go_wp2_with (first | (go_at_call 37; (with_reducible refine (CI.out _ (by (repeat' (first | (with_reducible exact Below.refl _ _) | (with_reducible assumption) | (with_reducible refine Below.alloc ?_ ?_ _) | (with_reducible refine Below.setCell ?_ ?_ _) | (with_reducible refine Below.drew ?_) | (with_reducible refine below_drewN ?_ _) | (with_reducible refine below_via ?_ (by with_reducible assumption) ?_) | omega | (simp; done) | (simp; omega))))).mono ?_); rintro e w1 ⟨rfl, hb1⟩; obtain ⟨fc1, fg1, hc1, hf1, hz1⟩ := bget hb1; (try simp at hz1)) | (go_at_call 40; (with_reducible refine (CF.out _ (by (repeat' (first | (with_reducible exact Below.refl _ _) | (with_reducible assumption) | (with_reducible refine Below.alloc ?_ ?_ _) | (with_reducible refine Below.setCell ?_ ?_ _) | (with_reducible refine Below.drew ?_) | (with_reducible refine below_drewN ?_ _) | (with_reducible refine below_via ?_ (by with_reducible assumption) ?_) | omega | (simp; done) | (simp; omega))))).mono ?_); rintro e w2 ⟨A2, c2, rfl, hrs2, hb2⟩; have H2 := Lib.hid hrs2; clear hrs2; obtain ⟨fc2, fg2, hc2, hf2, hz2⟩ := bget hb2; (try simp at hz2)) | (go_at_call 23; (with_reducible refine (ref11Add2 O legs _ _ (.slice A2 O.length c2) (.slice B legs.length d) (by omega) (by omega) O64.out G64.out ?_ ?_ ?_ ?_ ?_).mono ?_); (focus (exact isl (H2.out.keep (by (repeat' (first | (with_reducible exact Below.refl _ _) | (with_reducible assumption) | (with_reducible refine Below.alloc ?_ ?_ _) | (with_reducible refine Below.setCell ?_ ?_ _) | (with_reducible refine Below.drew ?_) | (with_reducible refine below_drewN ?_ _) | (with_reducible refine below_via ?_ (by with_reducible assumption) ?_) | omega | (simp; done) | (simp; omega))))))); (focus (exact isl (HG.out _ (by (repeat' (first | (with_reducible exact Below.refl _ _) | (with_reducible assumption) | (with_reducible refine Below.alloc ?_ ?_ _) | (with_reducible refine Below.setCell ?_ ?_ _) | (with_reducible refine Below.drew ?_) | (with_reducible refine below_drewN ?_ _) | (with_reducible refine below_via ?_ (by with_reducible assumption) ?_) | omega | (simp; done) | (simp; omega))))))); (focus (simp; done)); (focus (first | (simp [go_sem]; done) | (simp [go_sem, ↓IntWalk.iteOmega]; done))); (focus (first | (simp [go_sem]; done) | (simp [go_sem, ↓IntWalk.iteOmega]; done))); rintro e w3 ⟨v3, rfl, hown3, hb3⟩; obtain ⟨A3, c3, hv3, hrs3, hfm3⟩ := hown3.rs; (rw [List.length_map] at hv3); subst hv3; (rw [HSC.out]); (rw [HSN.out] at hrs3); (rw [HSN.out]); have H3 := Lib.hid hrs3; clear hown3 hrs3 hfm3; obtain ⟨fc3, fg3, hc3, hf3, hz3⟩ := bget hb3; (try simp at hz3)) | fail)
    go_ret2
    exact ⟨_, [], rfl, by rw [HRN.out]; rfl, Own.nil _ _ _ _, fun y hy => absurd hy (by simp), by (repeat' (first | (with_reducible exact Below.refl _ _) | (with_reducible assumption) | (with_reducible refine Below.alloc ?_ ?_ _) | (with_reducible refine Below.setCell ?_ ?_ _) | (with_reducible refine Below.drew ?_) | (with_reducible refine below_drewN ?_ _) | (with_reducible refine below_via ?_ (by with_reducible assumption) ?_) | omega | (simp; done) | (simp; omega)))⟩
  have e1 : (code != 0) = false := by simp only [bne, h0]; rfl
  have hz : code = 0 := by simpa using h0
  have HRW := Lib.hid ((hsl hz).trans (hwi N).symm)
  subst hz
  clear hsl hsn h0 hwi
  have hem : N.isEmpty = ((N.length : Int) == 0) := by cases N <;> rfl
  rw [hem] at HRW
  go_enter Try.func42, Try.ntmps42
  go_wp2_with (first | (go_at_call 37; (with_reducible refine (CI.out _ (by (repeat' (first | (with_reducible exact Below.refl _ _) | (with_reducible assumption) | (with_reducible refine Below.alloc ?_ ?_ _) | (with_reducible refine Below.setCell ?_ ?_ _) | (with_reducible refine Below.drew ?_) | (with_reducible refine below_drewN ?_ _) | (with_reducible refine below_via ?_ (by with_reducible assumption) ?_) | omega | (simp; done) | (simp; omega))))).mono ?_); rintro e w1 ⟨rfl, hb1⟩; obtain ⟨fc1, fg1, hc1, hf1, hz1⟩ := bget hb1; (try simp at hz1)) | (go_at_call 40; (with_reducible refine (CF.out _ (by (repeat' (first | (with_reducible exact Below.refl _ _) | (with_reducible assumption) | (with_reducible refine Below.alloc ?_ ?_ _) | (with_reducible refine Below.setCell ?_ ?_ _) | (with_reducible refine Below.drew ?_) | (with_reducible refine below_drewN ?_ _) | (with_reducible refine below_via ?_ (by with_reducible assumption) ?_) | omega | (simp; done) | (simp; omega))))).mono ?_); rintro e w2 ⟨A2, c2, rfl, hrs2, hb2⟩; have H2 := Lib.hid hrs2; clear hrs2; obtain ⟨fc2, fg2, hc2, hf2, hz2⟩ := bget hb2; (try simp at hz2)) | (go_at_call 23; (with_reducible refine (ref11Add2 O legs _ _ (.slice A2 O.length c2) (.slice B legs.length d) (by omega) (by omega) O64.out G64.out ?_ ?_ ?_ ?_ ?_).mono ?_); (focus (exact isl (H2.out.keep (by (repeat' (first | (with_reducible exact Below.refl _ _) | (with_reducible assumption) | (with_reducible refine Below.alloc ?_ ?_ _) | (with_reducible refine Below.setCell ?_ ?_ _) | (with_reducible refine Below.drew ?_) | (with_reducible refine below_drewN ?_ _) | (with_reducible refine below_via ?_ (by with_reducible assumption) ?_) | omega | (simp; done) | (simp; omega))))))); (focus (exact isl (HG.out _ (by (repeat' (first | (with_reducible exact Below.refl _ _) | (with_reducible assumption) | (with_reducible refine Below.alloc ?_ ?_ _) | (with_reducible refine Below.setCell ?_ ?_ _) | (with_reducible refine Below.drew ?_) | (with_reducible refine below_drewN ?_ _) | (with_reducible refine below_via ?_ (by with_reducible assumption) ?_) | omega | (simp; done) | (simp; omega))))))); (focus (simp; done)); (focus (first | (simp [go_sem]; done) | (simp [go_sem, ↓IntWalk.iteOmega]; done))); (focus (first | (simp [go_sem]; done) | (simp [go_sem, ↓IntWalk.iteOmega]; done))); rintro e w3 ⟨v3, rfl, hown3, hb3⟩; obtain ⟨A3, c3, hv3, hrs3, hfm3⟩ := hown3.rs; (rw [List.length_map] at hv3); subst hv3; (rw [HSC.out]); (rw [HSN.out] at hrs3); (rw [HSN.out]); have H3 := Lib.hid hrs3; clear hown3 hrs3 hfm3; obtain ⟨fc3, fg3, hc3, hf3, hz3⟩ := bget hb3; (try simp at hz3)) | fail)
  have Hb03 := Lib.hid (show Below w.heap.size w w3 from by (repeat' (first | (with_reducible exact Below.refl _ _) | (with_reducible assumption) | (with_reducible refine Below.alloc ?_ ?_ _) | (with_reducible refine Below.setCell ?_ ?_ _) | (with_reducible refine Below.drew ?_) | (with_reducible refine below_drewN ?_ _) | (with_reducible refine below_via ?_ (by with_reducible assumption) ?_) | omega | (simp; done) | (simp; omega))))
  have x0 : w3.cell? ⟨w.heap.size, 0, none⟩ = some (.int .i64 u.acc) := by simp [hc3, hc2, hc1, go_sem, ↓IntWalk.iteOmega]
  have x1 : w3.cell? ⟨w.heap.size, 1, none⟩ = some (.int .i64 u.cli) := by simp [hc3, hc2, hc1, go_sem, ↓IntWalk.iteOmega]
  have hsz : w.heap.size < w3.heap.size := by omega
  have HRO := Lib.hid (HRR.out.keep Hb03.out)
  have HGO := Lib.hid (fun x hx => (HGG.out x hx).keep Hb03.out)
  have HNG := Lib.hid (show GoodPosV w3 ⟨u, ⟨A3, c3, N⟩⟩ from ⟨by simp only; omega, H3.out⟩)
  have HX := Lib.hid (And.intro x0 x1)
  clear x0 x1 hc1 hf1 hc2 hf2 hc3 hf3 hb1 hb2 hb3 H3 HRR HGG H2
  obtain ⟨wo, hwo⟩ : ∃ wo : World, wo = w3 := ⟨_, rfl⟩
  subst hwo
  go_loopw [10, 11, 12] (fun v dn i wr => ∃ (k : Nat) (ys : List PosV) (done : Bool), k ≤ l.length ∧ i = .int .i64 k ∧ dn = .bool done ∧ ys.map lgPosV ++ shG u N done ((l.drop k).map lgPosV) = R ∧ ys.length ≤ 2 * k ∧ Own wr wo.heap.size 140 3 v (ys.map encPosV) ∧ (∀ y ∈ ys, GoodPosV wo y) ∧ Below wo.heap.size wo wr) (fun _ _ i _ => l.length - (intOf i).toNat)
  case atStart => exact ⟨0, [], _, Nat.zero_le _, rfl, rfl, by rw [HRW.out]; rfl, Nat.zero_le _, Own.nil _ _ _ _, fun y hy => absurd hy (by simp), by (repeat' (first | (with_reducible exact Below.refl _ _) | (with_reducible assumption) | (with_reducible refine Below.alloc ?_ ?_ _) | (with_reducible refine Below.setCell ?_ ?_ _) | (with_reducible refine Below.drew ?_) | (with_reducible refine below_drewN ?_ _) | (with_reducible refine below_via ?_ (by with_reducible assumption) ?_) | omega | (simp; done) | (simp; omega)))⟩
  case round =>
    clear HRW
    obtain ⟨k, ys, done, hk, rfl, rfl, hw, hyl, hown, hgd, hbl⟩ := hrel
    have HW := Lib.hid hw
    have Hown := Lib.hid hown
    have Hgd := Lib.hid hgd
    have Hbl := Lib.hid hbl
    have hzr := hbl.size
    have g0 := (hbl.cell (p := ⟨w.heap.size, 0, none⟩) hsz).trans HX.out.1
    have g1 := (hbl.cell (p := ⟨w.heap.size, 1, none⟩) hsz).trans HX.out.2
    clear hw hown hgd hbl
    by_cases hlt : k < l.length
    · have kl : (k : Int) < (l.length : Int) := by omega
      have dl : decide ((k : Int) < (l.length : Int)) = true := by simpa using hlt
      have hd := Lib.hid (lg_atPosV hlt)
      have HGX := Lib.hid (HGO.out l[k] (List.getElem_mem hlt))
      obtain ⟨b, o, rfl, hb, hc⟩ := HRO.out k (encPosV l[k]) (by simp [hlt])
      have e0 := (Hbl.out.cell (p := ⟨b, o + k * 3 + 0, none⟩) hb).trans (hc 0 _ rfl)
      have e1 := (Hbl.out.cell (p := ⟨b, o + k * 3 + 1, none⟩) hb).trans (hc 1 _ rfl)
      have e2 := (Hbl.out.cell (p := ⟨b, o + k * 3 + 2, none⟩) hb).trans (hc 2 _ rfl)
      simp only [Nat.add_zero] at e0
      clear hc
      have hbw : b < wr.heap.size := by omega
      cases done
      · cases hlo : lessU l[k].unit u
        · have CO := Lib.hid (fun W => hlo ▸ ref15Less l[k].unit u W)
          rcases un_tPosV (x := l[k].unit) (u := u) with h | h
          · have HU := Lib.hid h
            rw [h] at CO e0 e1
            have HLO := Lib.hid hlo
            clear h hlo
            go_wp2_with fail
            go_region_held3 (fun w' => (w'.cell? ⟨b, o + k * 3, none⟩ = some (.int .i64 u.acc) ∧ w'.cell? ⟨b, o + k * 3 + 1, none⟩ = some (.int .i64 u.cli)) ∧ (w'.cell? ⟨w.heap.size, 0, none⟩ = some (.int .i64 u.acc) ∧ w'.cell? ⟨w.heap.size, 1, none⟩ = some (.int .i64 u.cli))) (first | (simp [go_sem]; done) | (repeat' (first | (with_reducible assumption) | (with_reducible refine And.intro ?_ ?_) | (with_reducible refine cell_drew ?_) | (with_reducible refine cell_via (by with_reducible assumption) ?_ ?_) | (simp [*]; done) | (simp [go_sem]; done) | (with_reducible refine cell_alloc ?_ ?_) | (with_reducible refine cell_set_far ?_ ?_) | omega | (simp; omega)))) (first | (go_at_call 94; (with_reducible refine (CO.out _).mono ?_); rintro e w1 ⟨rfl, hb1⟩; obtain ⟨fc1, fg1, hc1, hf1, hz1⟩ := bget hb1; (try simp at hz1)) | fail)
            go_wp2_with (at_builtin; refine wpList_app rfl _ _ _ rfl elPosV wo.heap.size _ _ rfl (Hown.out.keep (by (repeat' (first | (with_reducible exact Below.refl _ _) | (with_reducible assumption) | (with_reducible refine Below.alloc ?_ ?_ _) | (with_reducible refine Below.setCell ?_ ?_ _) | (with_reducible refine Below.drew ?_) | (with_reducible refine below_drewN ?_ _) | (with_reducible refine below_via ?_ (by with_reducible assumption) ?_) | omega | (simp; done) | (simp; omega))))) (some ⟨_, 0, none⟩) 1 1 rfl [[.int .i64 u.acc, .int .i64 u.cli, .slice A3 N.length c3]] rfl (fun h => by cases h) (rd_oneN (by simp)) (row3PosV _ _ _ _ _) (by unfold maxLen; simp; omega) (by simp; omega) (by first | omega | (simp; done) | (simp; omega)) ?_; intro v5 w5 hown5 hb5; have HO5 := Lib.hid hown5; clear hown5; obtain ⟨fc5, fg5, hc5, hf5, hz5⟩ := bget hb5; (try simp at hz5))
            go_quiet (fail)
            go_wp2_with fail
            go_roundw
            case rel =>
              refine ⟨k + 1, ys ++ [⟨u, ⟨A3, c3, N⟩⟩], true, by omega, by go_num, rfl, ?_, ?_, ?_, ?_, by have hbl := Hbl.out; (repeat' (first | (with_reducible exact Below.refl _ _) | (with_reducible assumption) | (with_reducible refine Below.alloc ?_ ?_ _) | (with_reducible refine Below.setCell ?_ ?_ _) | (with_reducible refine Below.drew ?_) | (with_reducible refine below_drewN ?_ _) | (with_reducible refine below_via ?_ (by with_reducible assumption) ?_) | omega | (simp; done) | (simp; omega)))⟩
              · rw [← HW.out, hd.out, shG_4 (x := lgPosV l[k]) HU.out HLO.out]; first | done | (simp [List.map_append, lgPosV]; done)
              · (try simp only [List.length_append, List.length_cons, List.length_nil]); omega
              · (try rw [List.map_append]); exact HO5.out.keep (by (repeat' (first | (with_reducible exact Below.refl _ _) | (with_reducible assumption) | (with_reducible refine Below.alloc ?_ ?_ _) | (with_reducible refine Below.setCell ?_ ?_ _) | (with_reducible refine Below.drew ?_) | (with_reducible refine below_drewN ?_ _) | (with_reducible refine below_via ?_ (by with_reducible assumption) ?_) | omega | (simp; done) | (simp; omega))))
              · intro y hy
                (try simp only [List.mem_append, List.mem_cons, List.not_mem_nil, or_false] at hy)
                (rcases hy with hy | rfl; exact Hgd.out y hy; exact HNG.out)
            case measure => simp [intOf]; omega
          · have HU := Lib.hid (un_dPosV h)
            have HLO := Lib.hid hlo
            clear hlo
            rcases h with h | h
            all_goals
              go_wp2_with fail
              go_region_held3 (fun w' => (w'.cell? ⟨b, o + k * 3, none⟩ = some (.int .i64 l[k].unit.acc) ∧ w'.cell? ⟨b, o + k * 3 + 1, none⟩ = some (.int .i64 l[k].unit.cli)) ∧ (w'.cell? ⟨w.heap.size, 0, none⟩ = some (.int .i64 u.acc) ∧ w'.cell? ⟨w.heap.size, 1, none⟩ = some (.int .i64 u.cli))) (first | (simp [go_sem]; done) | (repeat' (first | (with_reducible assumption) | (with_reducible refine And.intro ?_ ?_) | (with_reducible refine cell_drew ?_) | (with_reducible refine cell_via (by with_reducible assumption) ?_ ?_) | (simp [*]; done) | (simp [go_sem]; done) | (with_reducible refine cell_alloc ?_ ?_) | (with_reducible refine cell_set_far ?_ ?_) | omega | (simp; omega)))) (first | (go_at_call 94; (with_reducible refine (CO.out _).mono ?_); rintro e w1 ⟨rfl, hb1⟩; obtain ⟨fc1, fg1, hc1, hf1, hz1⟩ := bget hb1; (try simp at hz1)) | fail)
              go_wp2_with (at_builtin; refine wpList_app rfl _ _ _ rfl elPosV wo.heap.size _ _ rfl (Hown.out.keep (by (repeat' (first | (with_reducible exact Below.refl _ _) | (with_reducible assumption) | (with_reducible refine Below.alloc ?_ ?_ _) | (with_reducible refine Below.setCell ?_ ?_ _) | (with_reducible refine Below.drew ?_) | (with_reducible refine below_drewN ?_ _) | (with_reducible refine below_via ?_ (by with_reducible assumption) ?_) | omega | (simp; done) | (simp; omega))))) (some ⟨_, 0, none⟩) 1 1 rfl [[.int .i64 u.acc, .int .i64 u.cli, .slice A3 N.length c3]] rfl (fun h => by cases h) (rd_oneN (by simp)) (row3PosV _ _ _ _ _) (by unfold maxLen; simp; omega) (by simp; omega) (by first | omega | (simp; done) | (simp; omega)) ?_; intro v5 w5 hown5 hb5; have HO5 := Lib.hid hown5; clear hown5; obtain ⟨fc5, fg5, hc5, hf5, hz5⟩ := bget hb5; (try simp at hz5))
              go_quiet (fail)
              go_wp2_with (at_builtin; refine wpList_app rfl _ _ _ rfl elPosV wo.heap.size _ _ rfl (HO5.out.keep (by (repeat' (first | (with_reducible exact Below.refl _ _) | (with_reducible assumption) | (with_reducible refine Below.alloc ?_ ?_ _) | (with_reducible refine Below.setCell ?_ ?_ _) | (with_reducible refine Below.drew ?_) | (with_reducible refine below_drewN ?_ _) | (with_reducible refine below_via ?_ (by with_reducible assumption) ?_) | omega | (simp; done) | (simp; omega))))) (some ⟨_, 0, none⟩) 1 1 rfl [[.int .i64 l[k].unit.acc, .int .i64 l[k].unit.cli, .slice l[k].legs.A l[k].legs.val.length l[k].legs.c]] rfl (fun h => by cases h) (rd_oneN (by simp)) (row3PosV _ _ _ _ _) (by unfold maxLen; simp; omega) (by simp; omega) (by first | omega | (simp; done) | (simp; omega)) ?_; intro v6 w6 hown6 hb6; have HO6 := Lib.hid hown6; clear hown6; obtain ⟨fc6, fg6, hc6, hf6, hz6⟩ := bget hb6; (try simp at hz6))
              go_roundw
              case rel =>
                refine ⟨k + 1, ys ++ [⟨u, ⟨A3, c3, N⟩⟩, l[k]], true, by omega, by go_num, rfl, ?_, ?_, ?_, ?_, by have hbl := Hbl.out; (repeat' (first | (with_reducible exact Below.refl _ _) | (with_reducible assumption) | (with_reducible refine Below.alloc ?_ ?_ _) | (with_reducible refine Below.setCell ?_ ?_ _) | (with_reducible refine Below.drew ?_) | (with_reducible refine below_drewN ?_ _) | (with_reducible refine below_via ?_ (by with_reducible assumption) ?_) | omega | (simp; done) | (simp; omega)))⟩
                · rw [← HW.out, hd.out, shG_5 (x := lgPosV l[k]) HU.out HLO.out]; first | done | (simp [List.map_append, lgPosV]; done)
                · (try simp only [List.length_append, List.length_cons, List.length_nil]); omega
                · (try rw [List.map_append]); (have h6 := HO6.out; rw [List.append_assoc] at h6; exact h6)
                · intro y hy
                  (try simp only [List.mem_append, List.mem_cons, List.not_mem_nil, or_false] at hy)
                  (rcases hy with hy | rfl | rfl; exact Hgd.out y hy; exact HNG.out; exact HGX.out)
              case measure => simp [intOf]; omega
        · have CO := Lib.hid (fun W => hlo ▸ ref15Less l[k].unit u W)
          have HLO := Lib.hid hlo
          have HU := Lib.hid (lessU_ne hlo)
          have hh : ((l[k].unit.acc == u.acc) = false) ∨ ((l[k].unit.cli == u.cli) = false) := neqUn (lessU_ne hlo)
          clear hlo
          rcases hh with h | h
          all_goals
            go_wp2_with fail
            go_region_held3 (fun w' => (w'.cell? ⟨b, o + k * 3, none⟩ = some (.int .i64 l[k].unit.acc) ∧ w'.cell? ⟨b, o + k * 3 + 1, none⟩ = some (.int .i64 l[k].unit.cli)) ∧ (w'.cell? ⟨w.heap.size, 0, none⟩ = some (.int .i64 u.acc) ∧ w'.cell? ⟨w.heap.size, 1, none⟩ = some (.int .i64 u.cli))) (first | (simp [go_sem]; done) | (repeat' (first | (with_reducible assumption) | (with_reducible refine And.intro ?_ ?_) | (with_reducible refine cell_drew ?_) | (with_reducible refine cell_via (by with_reducible assumption) ?_ ?_) | (simp [*]; done) | (simp [go_sem]; done) | (with_reducible refine cell_alloc ?_ ?_) | (with_reducible refine cell_set_far ?_ ?_) | omega | (simp; omega)))) (first | (go_at_call 94; (with_reducible refine (CO.out _).mono ?_); rintro e w1 ⟨rfl, hb1⟩; obtain ⟨fc1, fg1, hc1, hf1, hz1⟩ := bget hb1; (try simp at hz1)) | fail)
            go_wp2_with fail
            go_quiet (fail)
            go_wp2_with (at_builtin; refine wpList_app rfl _ _ _ rfl elPosV wo.heap.size _ _ rfl (Hown.out.keep (by (repeat' (first | (with_reducible exact Below.refl _ _) | (with_reducible assumption) | (with_reducible refine Below.alloc ?_ ?_ _) | (with_reducible refine Below.setCell ?_ ?_ _) | (with_reducible refine Below.drew ?_) | (with_reducible refine below_drewN ?_ _) | (with_reducible refine below_via ?_ (by with_reducible assumption) ?_) | omega | (simp; done) | (simp; omega))))) (some ⟨_, 0, none⟩) 1 1 rfl [[.int .i64 l[k].unit.acc, .int .i64 l[k].unit.cli, .slice l[k].legs.A l[k].legs.val.length l[k].legs.c]] rfl (fun h => by cases h) (rd_oneN (by simp)) (row3PosV _ _ _ _ _) (by unfold maxLen; simp; omega) (by simp; omega) (by first | omega | (simp; done) | (simp; omega)) ?_; intro v6 w6 hown6 hb6; have HO6 := Lib.hid hown6; clear hown6; obtain ⟨fc6, fg6, hc6, hf6, hz6⟩ := bget hb6; (try simp at hz6))
            go_roundw
            case rel =>
              refine ⟨k + 1, ys ++ [l[k]], false, by omega, by go_num, rfl, ?_, ?_, ?_, ?_, by have hbl := Hbl.out; (repeat' (first | (with_reducible exact Below.refl _ _) | (with_reducible assumption) | (with_reducible refine Below.alloc ?_ ?_ _) | (with_reducible refine Below.setCell ?_ ?_ _) | (with_reducible refine Below.drew ?_) | (with_reducible refine below_drewN ?_ _) | (with_reducible refine below_via ?_ (by with_reducible assumption) ?_) | omega | (simp; done) | (simp; omega)))⟩
              · rw [← HW.out, hd.out, shG_3 (x := lgPosV l[k]) HU.out HLO.out]; first | done | (simp [List.map_append, lgPosV]; done)
              · (try simp only [List.length_append, List.length_cons, List.length_nil]); omega
              · (try rw [List.map_append]); exact HO6.out
              · intro y hy
                (try simp only [List.mem_append, List.mem_cons, List.not_mem_nil, or_false] at hy)
                (rcases hy with hy | rfl; exact Hgd.out y hy; exact HGX.out)
            case measure => simp [intOf]; omega
      · rcases un_tPosV (x := l[k].unit) (u := u) with h | h
        · have HU := Lib.hid h
          rw [h] at e0 e1
          clear h
          go_wp2_with fail
          refine wp_region_held_drew (S := (fun w' => (w'.cell? ⟨w.heap.size, 0, none⟩ = some (.int .i64 u.acc) ∧ w'.cell? ⟨w.heap.size, 1, none⟩ = some (.int .i64 u.cli)))) (by kernel_rfl) ?_ (fun hHeld => ?_)
          · (first | (simp [go_sem]; done) | (repeat' (first | (with_reducible assumption) | (with_reducible refine And.intro ?_ ?_) | (with_reducible refine cell_drew ?_) | (with_reducible refine cell_via (by with_reducible assumption) ?_ ?_) | (simp [*]; done) | (simp [go_sem]; done) | (with_reducible refine cell_alloc ?_ ?_) | (with_reducible refine cell_set_far ?_ ?_) | omega | (simp; omega))))
          refine wpAnyH_take (i := 0) (v := ?_) rfl (by kernel_rfl) (by kernel_rfl) (by kernel_rfl) (fun _ _ _ h => h) (Or.inl ⟨by rfl, ?_⟩) (by assumption) ?_
          rotate_left
          focus (intro w hSw; (try dsimp only at hSw); go_simp; (try with_reducible rfl))
          (try simp only [Act.put, List.getElem_toArray, List.getElem_cons_zero, List.setIfInBounds_toArray, List.set_cons_zero, List.set_cons_succ])
          refine wpAnyH_take (i := 1) (v := ?_) rfl (by kernel_rfl) (by kernel_rfl) (by kernel_rfl) (fun _ _ _ h => h) (Or.inl ⟨by rfl, ?_⟩) (by assumption) ?_
          rotate_left
          focus (intro w hSw; (try dsimp only at hSw); go_simp; (try with_reducible rfl))
          (try simp only [Act.put, List.getElem_toArray, List.getElem_cons_succ, List.getElem_cons_zero, List.setIfInBounds_toArray, List.set_cons_zero, List.set_cons_succ])
          refine wpAnyH_take (i := 2) (v := ?_) rfl (by kernel_rfl) (by kernel_rfl) (by kernel_rfl) (fun _ _ _ h => h) (Or.inl ⟨by rfl, ?_⟩) (by assumption) ?_
          rotate_left
          focus (intro w hSw; (try dsimp only at hSw); go_simp; (try with_reducible rfl))
          (try simp only [Act.put, List.getElem_toArray, List.getElem_cons_succ, List.getElem_cons_zero, List.setIfInBounds_toArray, List.set_cons_zero, List.set_cons_succ])
          refine wpAnyH_take (i := 3) (v := undef) rfl (by kernel_rfl) (by kernel_rfl) (by kernel_rfl) (fun _ _ _ h => h) (Or.inr ⟨by rfl, rfl⟩) (by assumption) ?_
          (try simp only [Act.put, List.getElem_toArray, List.getElem_cons_succ, List.getElem_cons_zero, List.setIfInBounds_toArray, List.set_cons_zero, List.set_cons_succ])
          refine wpAnyH_take (i := 4) (v := undef) rfl (by kernel_rfl) (by kernel_rfl) (by kernel_rfl) (fun _ _ _ h => h) (Or.inr ⟨by rfl, rfl⟩) (by assumption) ?_
          (try simp only [Act.put, List.getElem_toArray, List.getElem_cons_succ, List.getElem_cons_zero, List.setIfInBounds_toArray, List.set_cons_zero, List.set_cons_succ])
          refine wpAnyH_take (i := 5) (v := undef) rfl (by kernel_rfl) (by kernel_rfl) (by kernel_rfl) (fun _ _ _ h => h) (Or.inr ⟨by rfl, rfl⟩) (by assumption) ?_
          (try simp only [Act.put, List.getElem_toArray, List.getElem_cons_succ, List.getElem_cons_zero, List.setIfInBounds_toArray, List.set_cons_zero, List.set_cons_succ])
          refine wpAnyH_take (i := 6) (v := undef) rfl (by kernel_rfl) (by kernel_rfl) (by kernel_rfl) (fun _ _ _ h => h) (Or.inr ⟨by rfl, rfl⟩) (by assumption) ?_
          (try simp only [Act.put, List.getElem_toArray, List.getElem_cons_succ, List.getElem_cons_zero, List.setIfInBounds_toArray, List.set_cons_zero, List.set_cons_succ])
          refine wpAnyH_take (i := 7) (v := undef) rfl (by kernel_rfl) (by kernel_rfl) (by kernel_rfl) (fun _ _ _ h => h) (Or.inr ⟨by rfl, rfl⟩) (by assumption) ?_
          (try simp only [Act.put, List.getElem_toArray, List.getElem_cons_succ, List.getElem_cons_zero, List.setIfInBounds_toArray, List.set_cons_zero, List.set_cons_succ])
          refine wpAnyH_take (i := 8) (v := undef) rfl (by kernel_rfl) (by kernel_rfl) (by kernel_rfl) (fun _ _ _ h => h) (Or.inr ⟨by rfl, rfl⟩) (by assumption) ?_
          (try simp only [Act.put, List.getElem_toArray, List.getElem_cons_succ, List.getElem_cons_zero, List.setIfInBounds_toArray, List.set_cons_zero, List.set_cons_succ])
          refine wpAnyH_take (i := 9) (v := undef) rfl (by kernel_rfl) (by kernel_rfl) (by kernel_rfl) (fun _ _ _ h => h) (Or.inr ⟨by rfl, rfl⟩) (by assumption) ?_
          (try simp only [Act.put, List.getElem_toArray, List.getElem_cons_succ, List.getElem_cons_zero, List.setIfInBounds_toArray, List.set_cons_zero, List.set_cons_succ])
          refine wpAnyH_take (i := 10) (v := undef) rfl (by kernel_rfl) (by kernel_rfl) (by kernel_rfl) (fun _ _ _ h => h) (Or.inr ⟨by rfl, rfl⟩) (by assumption) ?_
          (try simp only [Act.put, List.getElem_toArray, List.getElem_cons_succ, List.getElem_cons_zero, List.setIfInBounds_toArray, List.set_cons_zero, List.set_cons_succ])
          refine wpAnyH_take (i := 11) (v := ?_) rfl (by kernel_rfl) (by kernel_rfl) (by kernel_rfl) (fun _ _ _ h => h) (Or.inl ⟨by rfl, ?_⟩) (by assumption) ?_
          rotate_left
          focus (intro w hSw; (try dsimp only at hSw); go_simp; (try with_reducible rfl))
          (try simp only [Act.put, List.getElem_toArray, List.getElem_cons_succ, List.getElem_cons_zero, List.setIfInBounds_toArray, List.set_cons_zero, List.set_cons_succ])
          refine wpAnyH_done (by kernel_rfl) ?_ _
          go_wp2_with fail
          go_quiet (fail)
          go_wp2_with fail
          go_roundw
          case rel =>
            refine ⟨k + 1, ys, true, by omega, by go_num, rfl, ?_, ?_, ?_, ?_, by have hbl := Hbl.out; (repeat' (first | (with_reducible exact Below.refl _ _) | (with_reducible assumption) | (with_reducible refine Below.alloc ?_ ?_ _) | (with_reducible refine Below.setCell ?_ ?_ _) | (with_reducible refine Below.drew ?_) | (with_reducible refine below_drewN ?_ _) | (with_reducible refine below_via ?_ (by with_reducible assumption) ?_) | omega | (simp; done) | (simp; omega)))⟩
            · rw [← HW.out, hd.out, shG_1 (x := lgPosV l[k]) HU.out]; first | done | (simp [List.map_append, lgPosV]; done)
            · (try simp only [List.length_append, List.length_cons, List.length_nil]); omega
            · (try rw [List.map_append]); exact Hown.out.keep (by (repeat' (first | (with_reducible exact Below.refl _ _) | (with_reducible assumption) | (with_reducible refine Below.alloc ?_ ?_ _) | (with_reducible refine Below.setCell ?_ ?_ _) | (with_reducible refine Below.drew ?_) | (with_reducible refine below_drewN ?_ _) | (with_reducible refine below_via ?_ (by with_reducible assumption) ?_) | omega | (simp; done) | (simp; omega))))
            · intro y hy
              (try simp only [List.mem_append, List.mem_cons, List.not_mem_nil, or_false] at hy)
              exact Hgd.out y hy
          case measure => simp [intOf]; omega
        · have HU := Lib.hid (un_dPosV h)
          rcases h with h | h
          all_goals
            go_wp2_with fail
            refine wp_region_held_drew (S := (fun w' => (w'.cell? ⟨w.heap.size, 0, none⟩ = some (.int .i64 u.acc) ∧ w'.cell? ⟨w.heap.size, 1, none⟩ = some (.int .i64 u.cli)))) (by kernel_rfl) ?_ (fun hHeld => ?_)
            · (first | (simp [go_sem]; done) | (repeat' (first | (with_reducible assumption) | (with_reducible refine And.intro ?_ ?_) | (with_reducible refine cell_drew ?_) | (with_reducible refine cell_via (by with_reducible assumption) ?_ ?_) | (simp [*]; done) | (simp [go_sem]; done) | (with_reducible refine cell_alloc ?_ ?_) | (with_reducible refine cell_set_far ?_ ?_) | omega | (simp; omega))))
            refine wpAnyH_take (i := 0) (v := ?_) rfl (by kernel_rfl) (by kernel_rfl) (by kernel_rfl) (fun _ _ _ h => h) (Or.inl ⟨by rfl, ?_⟩) (by assumption) ?_
            rotate_left
            focus (intro w hSw; (try dsimp only at hSw); go_simp; (try with_reducible rfl))
            (try simp only [Act.put, List.getElem_toArray, List.getElem_cons_zero, List.setIfInBounds_toArray, List.set_cons_zero, List.set_cons_succ])
            refine wpAnyH_take (i := 1) (v := ?_) rfl (by kernel_rfl) (by kernel_rfl) (by kernel_rfl) (fun _ _ _ h => h) (Or.inl ⟨by rfl, ?_⟩) (by assumption) ?_
            rotate_left
            focus (intro w hSw; (try dsimp only at hSw); go_simp; (try with_reducible rfl))
            (try simp only [Act.put, List.getElem_toArray, List.getElem_cons_succ, List.getElem_cons_zero, List.setIfInBounds_toArray, List.set_cons_zero, List.set_cons_succ])
            refine wpAnyH_take (i := 2) (v := ?_) rfl (by kernel_rfl) (by kernel_rfl) (by kernel_rfl) (fun _ _ _ h => h) (Or.inl ⟨by rfl, ?_⟩) (by assumption) ?_
            rotate_left
            focus (intro w hSw; (try dsimp only at hSw); go_simp; (try with_reducible rfl))
            (try simp only [Act.put, List.getElem_toArray, List.getElem_cons_succ, List.getElem_cons_zero, List.setIfInBounds_toArray, List.set_cons_zero, List.set_cons_succ])
            refine wpAnyH_take (i := 3) (v := undef) rfl (by kernel_rfl) (by kernel_rfl) (by kernel_rfl) (fun _ _ _ h => h) (Or.inr ⟨by rfl, rfl⟩) (by assumption) ?_
            (try simp only [Act.put, List.getElem_toArray, List.getElem_cons_succ, List.getElem_cons_zero, List.setIfInBounds_toArray, List.set_cons_zero, List.set_cons_succ])
            refine wpAnyH_take (i := 4) (v := undef) rfl (by kernel_rfl) (by kernel_rfl) (by kernel_rfl) (fun _ _ _ h => h) (Or.inr ⟨by rfl, rfl⟩) (by assumption) ?_
            (try simp only [Act.put, List.getElem_toArray, List.getElem_cons_succ, List.getElem_cons_zero, List.setIfInBounds_toArray, List.set_cons_zero, List.set_cons_succ])
            refine wpAnyH_take (i := 5) (v := undef) rfl (by kernel_rfl) (by kernel_rfl) (by kernel_rfl) (fun _ _ _ h => h) (Or.inr ⟨by rfl, rfl⟩) (by assumption) ?_
            (try simp only [Act.put, List.getElem_toArray, List.getElem_cons_succ, List.getElem_cons_zero, List.setIfInBounds_toArray, List.set_cons_zero, List.set_cons_succ])
            refine wpAnyH_take (i := 6) (v := undef) rfl (by kernel_rfl) (by kernel_rfl) (by kernel_rfl) (fun _ _ _ h => h) (Or.inr ⟨by rfl, rfl⟩) (by assumption) ?_
            (try simp only [Act.put, List.getElem_toArray, List.getElem_cons_succ, List.getElem_cons_zero, List.setIfInBounds_toArray, List.set_cons_zero, List.set_cons_succ])
            refine wpAnyH_take (i := 7) (v := undef) rfl (by kernel_rfl) (by kernel_rfl) (by kernel_rfl) (fun _ _ _ h => h) (Or.inr ⟨by rfl, rfl⟩) (by assumption) ?_
            (try simp only [Act.put, List.getElem_toArray, List.getElem_cons_succ, List.getElem_cons_zero, List.setIfInBounds_toArray, List.set_cons_zero, List.set_cons_succ])
            refine wpAnyH_take (i := 8) (v := undef) rfl (by kernel_rfl) (by kernel_rfl) (by kernel_rfl) (fun _ _ _ h => h) (Or.inr ⟨by rfl, rfl⟩) (by assumption) ?_
            (try simp only [Act.put, List.getElem_toArray, List.getElem_cons_succ, List.getElem_cons_zero, List.setIfInBounds_toArray, List.set_cons_zero, List.set_cons_succ])
            refine wpAnyH_take (i := 9) (v := undef) rfl (by kernel_rfl) (by kernel_rfl) (by kernel_rfl) (fun _ _ _ h => h) (Or.inr ⟨by rfl, rfl⟩) (by assumption) ?_
            (try simp only [Act.put, List.getElem_toArray, List.getElem_cons_succ, List.getElem_cons_zero, List.setIfInBounds_toArray, List.set_cons_zero, List.set_cons_succ])
            refine wpAnyH_take (i := 10) (v := undef) rfl (by kernel_rfl) (by kernel_rfl) (by kernel_rfl) (fun _ _ _ h => h) (Or.inr ⟨by rfl, rfl⟩) (by assumption) ?_
            (try simp only [Act.put, List.getElem_toArray, List.getElem_cons_succ, List.getElem_cons_zero, List.setIfInBounds_toArray, List.set_cons_zero, List.set_cons_succ])
            refine wpAnyH_take (i := 11) (v := ?_) rfl (by kernel_rfl) (by kernel_rfl) (by kernel_rfl) (fun _ _ _ h => h) (Or.inl ⟨by rfl, ?_⟩) (by assumption) ?_
            rotate_left
            focus (intro w hSw; (try dsimp only at hSw); go_simp; (try with_reducible rfl))
            (try simp only [Act.put, List.getElem_toArray, List.getElem_cons_succ, List.getElem_cons_zero, List.setIfInBounds_toArray, List.set_cons_zero, List.set_cons_succ])
            refine wpAnyH_done (by kernel_rfl) ?_ _
            go_wp2_with fail
            go_quiet (fail)
            go_wp2_with (at_builtin; refine wpList_app rfl _ _ _ rfl elPosV wo.heap.size _ _ rfl (Hown.out.keep (by (repeat' (first | (with_reducible exact Below.refl _ _) | (with_reducible assumption) | (with_reducible refine Below.alloc ?_ ?_ _) | (with_reducible refine Below.setCell ?_ ?_ _) | (with_reducible refine Below.drew ?_) | (with_reducible refine below_drewN ?_ _) | (with_reducible refine below_via ?_ (by with_reducible assumption) ?_) | omega | (simp; done) | (simp; omega))))) (some ⟨_, 0, none⟩) 1 1 rfl [[.int .i64 l[k].unit.acc, .int .i64 l[k].unit.cli, .slice l[k].legs.A l[k].legs.val.length l[k].legs.c]] rfl (fun h => by cases h) (rd_oneN (by simp)) (row3PosV _ _ _ _ _) (by unfold maxLen; simp; omega) (by simp; omega) (by first | omega | (simp; done) | (simp; omega)) ?_; intro v6 w6 hown6 hb6; have HO6 := Lib.hid hown6; clear hown6; obtain ⟨fc6, fg6, hc6, hf6, hz6⟩ := bget hb6; (try simp at hz6))
            go_roundw
            case rel =>
              refine ⟨k + 1, ys ++ [l[k]], true, by omega, by go_num, rfl, ?_, ?_, ?_, ?_, by have hbl := Hbl.out; (repeat' (first | (with_reducible exact Below.refl _ _) | (with_reducible assumption) | (with_reducible refine Below.alloc ?_ ?_ _) | (with_reducible refine Below.setCell ?_ ?_ _) | (with_reducible refine Below.drew ?_) | (with_reducible refine below_drewN ?_ _) | (with_reducible refine below_via ?_ (by with_reducible assumption) ?_) | omega | (simp; done) | (simp; omega)))⟩
              · rw [← HW.out, hd.out, shG_2 (x := lgPosV l[k]) HU.out]; first | done | (simp [List.map_append, lgPosV]; done)
              · (try simp only [List.length_append, List.length_cons, List.length_nil]); omega
              · (try rw [List.map_append]); exact HO6.out
              · intro y hy
                (try simp only [List.mem_append, List.mem_cons, List.not_mem_nil, or_false] at hy)
                (rcases hy with hy | rfl; exact Hgd.out y hy; exact HGX.out)
            case measure => simp [intOf]; omega
    · have dl : decide ((k : Int) < (l.length : Int)) = false := by simpa using hlt
      have HD := Lib.hid (drop_all (l := l) (k := k) (by omega))
      cases done
      · go_wp2_with (at_builtin; refine wpList_app rfl _ _ _ rfl elPosV wo.heap.size _ _ rfl (Hown.out.keep (by (repeat' (first | (with_reducible exact Below.refl _ _) | (with_reducible assumption) | (with_reducible refine Below.alloc ?_ ?_ _) | (with_reducible refine Below.setCell ?_ ?_ _) | (with_reducible refine Below.drew ?_) | (with_reducible refine below_drewN ?_ _) | (with_reducible refine below_via ?_ (by with_reducible assumption) ?_) | omega | (simp; done) | (simp; omega))))) (some ⟨_, 0, none⟩) 1 1 rfl [[.int .i64 u.acc, .int .i64 u.cli, .slice A3 N.length c3]] rfl (fun h => by cases h) (rd_oneN (by simp)) (row3PosV _ _ _ _ _) (by unfold maxLen; simp; omega) (by simp; omega) (by first | omega | (simp; done) | (simp; omega)) ?_; intro v5 w5 hown5 hb5; have HO5 := Lib.hid hown5; clear hown5; obtain ⟨fc5, fg5, hc5, hf5, hz5⟩ := bget hb5; (try simp at hz5))
        go_ret2
        have h5 : Below wo.heap.size wo w5 := by have hbl := Hbl.out; (repeat' (first | (with_reducible exact Below.refl _ _) | (with_reducible assumption) | (with_reducible refine Below.alloc ?_ ?_ _) | (with_reducible refine Below.setCell ?_ ?_ _) | (with_reducible refine Below.drew ?_) | (with_reducible refine below_drewN ?_ _) | (with_reducible refine below_via ?_ (by with_reducible assumption) ?_) | omega | (simp; done) | (simp; omega)))
        refine ⟨_, ys ++ [⟨u, ⟨A3, c3, N⟩⟩], rfl, ?_, ?_, fun y hy => ?_, Hb03.out.trans (h5.mono Hb03.out.size)⟩
        · rw [← HW.out, HD.out, List.map_append]; first | done | rfl
        · rw [List.map_append]; exact HO5.out.mono Hb03.out.size
        · simp only [List.mem_append, List.mem_cons, List.not_mem_nil, or_false] at hy
          rcases hy with hy | rfl
          · exact (Hgd.out y hy).keep h5
          · exact HNG.out.keep h5
      · go_wp2_with fail
        go_ret2
        have h5 := Hbl.out
        refine ⟨_, ys, rfl, ?_, Hown.out.mono Hb03.out.size, fun y hy => (Hgd.out y hy).keep h5, Hb03.out.trans (h5.mono Hb03.out.size)⟩
        rw [← HW.out, HD.out]; simp [shG]
end Go.Proofs.Ytiidplinmempcaa
