/- Joined: Ned2, Pur1, Lot5. -/
import Derived.Test.YtalgfpegaobacaaGreatKz14
import Derived.Test.YtalgfpegaobacaaGreatKz16
import Derived.Test.YtalgfpegaobacaaGreatKz8
import Derived.Test.YtalgfpegaobacaaGreatKz11
import Derived.Test.YtalgfpegaobacaaGreatKz12
import Derived.Test.YtalgfpegaobacaaGreatKz2
/- Margin units: contracts of book.Net, need.Of. -/
namespace Go.Proofs.YtalgfpegaobacaaGreat
open Go.RowKit
def encSN (y : SlOf Leg) : List Value := [.slice y.A y.val.length y.c]
theorem net_rss {w : World} {base : Nat} {ys : List (SlOf Leg)} {A : Option Addr} {c : Nat} (hr : Rs w 1 (ys.map encSN) A c) (hg : ∀ y ∈ ys, Own w base 162 2 (.slice y.A y.val.length y.c) (y.val.map encLeg)) : RsS 2 encLeg w (ys.map (·.val)) A c := by
  refine ⟨⟨ys.map (fun y => .slice y.A y.val.length y.c), ⟨by simp, fun i a b h1 h2 => ?_⟩, by rw [List.map_map]; exact hr⟩⟩
  rw [List.getElem?_map] at h1 h2
  cases hy : ys[i]? with
  | none => rw [hy] at h1; cases h1
  | some y =>
    rw [hy] at h1 h2
    simp only [Option.map_some, Option.some.injEq] at h1 h2
    subst h1 h2
    exact isl (hg y (List.mem_of_getElem? hy)).good
set_option maxRecDepth 100000 in
set_option maxHeartbeats 8000000 in
theorem bookNet (l : List PosV) (us : List Un) (A B : Option Addr) (c d : Nat) (w : World) (hl : l.length ≤ 1000000) (hul : us.length ≤ 2000000) (h64 : L64 (l.map lgPosV)) (hr : Rd w A 3 (l.map encPosV)) (hg : ∀ x ∈ l, GoodPosV w x) (hru : Rd w B 2 (us.map encUn)) :
    Calls Tryz.prog 50 #[.slice A l.length c, .slice B us.length d] w (LegsPost w (netC (l.map lgPosV) us) (netL (l.map lgPosV) us)) := by
  have HR := Lib.hid hr
  have HG := Lib.hid hg
  have HU := Lib.hid hru
  have HS := Lib.hid (show ∀ ys : List (SlOf Leg), ys.map (·.val) = us.map (ofK (l.map lgPosV)) → Short (ys.map (·.val)) ∧ ∀ z ∈ ys.map (·.val), Legs64 z from fun ys h => by
    rw [h]
    refine ⟨⟨by rw [List.length_map]; omega, fun z hz => ?_⟩, fun z hz => ?_⟩
    · obtain ⟨u, _, rfl⟩ := List.mem_map.1 hz
      have := of_len hg u
      omega
    · obtain ⟨u, _, rfl⟩ := List.mem_map.1 hz
      exact of64 h64 u)
  have ci := fun W (h : Below w.heap.size w W) => bookIs l A c W (by omega) (hr.keep h) (fun x hx => (hg x hx).keep h)
  have hib : isPosV l = isK isV (l.map lgPosV) := rfl
  rw [hib] at ci
  have HOF := Lib.hid (fun u => of_len hg u)
  clear hr hg hru h64 hib
  cases hk : isK isV (l.map lgPosV)
  · rw [hk] at ci
    have CI := Lib.hid ci
    have HC := Lib.hid (show netC (l.map lgPosV) us = 3 from by unfold netC; rw [hk]; rfl)
    have HL := Lib.hid (show netL (l.map lgPosV) us = [] from by unfold netL; rw [hk]; rfl)
    rw [HC.out, HL.out]
    clear ci hk
    go_enter Tryz.func50, Tryz.ntmps50
    go_wp2_with (first | (go_at_call 46; (with_reducible refine (CI.out _ (by (repeat' (first | (with_reducible exact Below.refl _ _) | (with_reducible assumption) | (with_reducible refine Below.alloc ?_ ?_ _) | (with_reducible refine Below.setCell ?_ ?_ _) | (with_reducible refine Below.drew ?_) | (with_reducible refine below_drewN ?_ _) | (with_reducible refine below_via ?_ (by with_reducible assumption) ?_) | omega | (simp; done) | (simp; omega))))).mono ?_); rintro e w1 ⟨rfl, hb1⟩; obtain ⟨fc1, fg1, hc1, hf1, hz1⟩ := bget hb1; (try simp at hz1)) | fail)
    go_ret2
    exact ⟨_, rfl, Own.nil _ _ _ _, by (repeat' (first | (with_reducible exact Below.refl _ _) | (with_reducible assumption) | (with_reducible refine Below.alloc ?_ ?_ _) | (with_reducible refine Below.setCell ?_ ?_ _) | (with_reducible refine Below.drew ?_) | (with_reducible refine below_drewN ?_ _) | (with_reducible refine below_via ?_ (by with_reducible assumption) ?_) | omega | (simp; done) | (simp; omega)))⟩
  rw [hk] at ci
  have CI := Lib.hid ci
  have HC := Lib.hid (show netC (l.map lgPosV) us = addC (us.map (ofK (l.map lgPosV))) from by unfold netC; rw [hk]; rfl)
  have HL := Lib.hid (show netL (l.map lgPosV) us = addL (us.map (ofK (l.map lgPosV))) from by unfold netL; rw [hk]; rfl)
  rw [HC.out, HL.out]
  clear ci hk HC HL
  go_enter Tryz.func50, Tryz.ntmps50
  go_wp2_with (first | (go_at_call 46; (with_reducible refine (CI.out _ (by (repeat' (first | (with_reducible exact Below.refl _ _) | (with_reducible assumption) | (with_reducible refine Below.alloc ?_ ?_ _) | (with_reducible refine Below.setCell ?_ ?_ _) | (with_reducible refine Below.drew ?_) | (with_reducible refine below_drewN ?_ _) | (with_reducible refine below_via ?_ (by with_reducible assumption) ?_) | omega | (simp; done) | (simp; omega))))).mono ?_); rintro e w1 ⟨rfl, hb1⟩; obtain ⟨fc1, fg1, hc1, hf1, hz1⟩ := bget hb1; (try simp at hz1)) | fail)
  have Hb1 := Lib.hid hb1
  clear hc1 hf1 hb1
  go_loopw [6, 14] (fun v i wr => ∃ (k : Nat) (ys : List (SlOf Leg)), k ≤ us.length ∧ i = .int .i64 k ∧ ys.map (·.val) = (us.take k).map (ofK (l.map lgPosV)) ∧ Own wr w.heap.size 92 1 v (ys.map encSN) ∧ (∀ y ∈ ys, Own wr w.heap.size 162 2 (.slice y.A y.val.length y.c) (y.val.map encLeg)) ∧ Below w.heap.size w wr) (fun _ i _ => us.length - (intOf i).toNat)
  case atStart => exact ⟨0, [], Nat.zero_le _, rfl, rfl, Own.nil _ _ _ _, fun y hy => absurd hy (by simp), Hb1.out⟩
  case round =>
    obtain ⟨k, ys, hk, rfl, hlg, hown, hgd, hbl⟩ := hrel
    have Hlg := Lib.hid hlg
    have Hown := Lib.hid hown
    have Hgd := Lib.hid hgd
    have Hbl := Lib.hid hbl
    have hz := hbl.size
    have hyl : ys.length = k := by have := congrArg List.length hlg; simp only [List.length_map, List.length_take] at this; omega
    have HYL := Lib.hid hyl
    have hyl2 : ys.length ≤ 2000000 := by omega
    clear hlg hown hgd hbl hyl
    by_cases hlt : k < us.length
    · have kl : (k : Int) < (us.length : Int) := by omega
      have dl : decide ((k : Int) < (us.length : Int)) = true := by simpa using hlt
      obtain ⟨b, o, rfl, hb, hc⟩ := HU.out k (encUn us[k]) (by simp [hlt])
      have e0 := (Hbl.out.cell (p := ⟨b, o + k * 2 + 0, none⟩) hb).trans (hc 0 _ rfl)
      have e1 := (Hbl.out.cell (p := ⟨b, o + k * 2 + 1, none⟩) hb).trans (hc 1 _ rfl)
      simp only [Nat.add_zero] at e0
      clear hc
      have hbw : b < wr.heap.size := by omega
      have HM := Lib.hid (show (us.take (k + 1)).map (ofK (l.map lgPosV)) = (us.take k).map (ofK (l.map lgPosV)) ++ [ofK (l.map lgPosV) us[k]] from map_snoc hlt _)
      have hol := HOF.out us[k]
      have co := fun W (h : Below w.heap.size w W) => bookOf l us[k] A c W (by omega) (HR.out.keep h) (fun x hx => (HG.out x hx).keep h)
      generalize ofK (l.map lgPosV) us[k] = O at *
      have CO := Lib.hid co
      clear co
      go_wp2_with (first | (go_at_call 82; (with_reducible refine (CO.out _ (by have hbl := Hbl.out; (repeat' (first | (with_reducible exact Below.refl _ _) | (with_reducible assumption) | (with_reducible refine Below.alloc ?_ ?_ _) | (with_reducible refine Below.setCell ?_ ?_ _) | (with_reducible refine Below.drew ?_) | (with_reducible refine below_drewN ?_ _) | (with_reducible refine below_via ?_ (by with_reducible assumption) ?_) | omega | (simp; done) | (simp; omega))))).mono ?_); rintro e w3 ⟨v3, rfl, hown3, hb3⟩; obtain ⟨A3, c3, hv3, hrs3, hform3⟩ := hown3.rs; (rw [List.length_map] at hv3); subst hv3; have HO3 := Lib.hid hown3; clear hown3 hrs3 hform3; obtain ⟨fc3, fg3, hc3, hf3, hz3⟩ := bget hb3; (try simp at hz3)) | (at_builtin; refine wpList_appG rfl _ _ _ rfl elLs w.heap.size _ _ rfl (Hown.out.keep (by (repeat' (first | (with_reducible exact Below.refl _ _) | (with_reducible assumption) | (with_reducible refine Below.alloc ?_ ?_ _) | (with_reducible refine Below.setCell ?_ ?_ _) | (with_reducible refine Below.drew ?_) | (with_reducible refine below_drewN ?_ _) | (with_reducible refine below_via ?_ (by with_reducible assumption) ?_) | omega | (simp; done) | (simp; omega))))) ⟨_, 0, none⟩ 1 1 rfl [[.slice A3 O.length c3]] rfl (rd_oneN (by simp)) (rows1 _ rfl) (by unfold maxLen; simp; omega) (by simp; omega) (by first | omega | (simp; done) | (simp; omega)) ?_; intro v4 w4 hown4 hb4 hg4; have HO4 := Lib.hid hown4; have HG4 := Lib.hid hg4; clear hown4 hg4; obtain ⟨fc4, fg4, hc4, hf4, hz4⟩ := bget hb4; (try simp at hz4)) | fail)
      go_roundw
      case rel =>
        have h03 : Below wr.heap.size wr w3 := by clear hb4; (repeat' (first | (with_reducible exact Below.refl _ _) | (with_reducible assumption) | (with_reducible refine Below.alloc ?_ ?_ _) | (with_reducible refine Below.setCell ?_ ?_ _) | (with_reducible refine Below.drew ?_) | (with_reducible refine below_drewN ?_ _) | (with_reducible refine below_via ?_ (by with_reducible assumption) ?_) | omega | (simp; done) | (simp; omega)))
        have h3a := (Below.refl w3.heap.size w3).alloc (Nat.le_refl _) (.cells #[.slice A3 O.length c3] 92)
        have ho3 := HO3.out.mono (b := w.heap.size) (by simp; omega)
        have ha4 : Away 92 w3 w4 := (Away.below h3a).trans (Away.grown HG4.out (Own.typed ((Hown.out.keep h03).keep h3a)))
        refine ⟨k + 1, ys ++ [⟨A3, c3, O⟩], by omega, by go_num, ?_, ?_, ?_, ?_⟩
        · rw [HM.out, List.map_append, Hlg.out]; rfl
        · rw [List.map_append]; exact HO4.out
        · intro y hy
          rcases List.mem_append.1 hy with h | h
          · exact (Hgd.out y h).away ((Away.below h03).trans ha4) (by decide)
          · rw [List.mem_singleton] at h
            subst h
            exact ho3.away ha4 (by decide)
        · have hbl := Hbl.out
          clear h03 h3a ha4
          (repeat' (first | (with_reducible exact Below.refl _ _) | (with_reducible assumption) | (with_reducible refine Below.alloc ?_ ?_ _) | (with_reducible refine Below.setCell ?_ ?_ _) | (with_reducible refine Below.drew ?_) | (with_reducible refine below_drewN ?_ _) | (with_reducible refine below_via ?_ (by with_reducible assumption) ?_) | omega | (simp; done) | (simp; omega)))
      case measure => simp [intOf]; omega
    · have dl : decide ((k : Int) < (us.length : Int)) = false := by simpa using hlt
      have hys : ys.map (·.val) = us.map (ofK (l.map lgPosV)) := by rw [Hlg.out, List.take_of_length_le (by omega)]
      obtain ⟨hs1, hs2⟩ := HS.out ys hys
      have hyz : ys.length = (ys.map (·.val)).length := by rw [List.length_map]
      have ho := Hown.out
      obtain ⟨A2, c2, hv2, hrs2, _⟩ := ho.rs
      rw [List.length_map, hyz] at hv2
      have hrn := net_rss hrs2 Hgd.out
      obtain ⟨ls, hls⟩ : ∃ ls, ls = ys.map (·.val) := ⟨_, rfl⟩
      rw [← hls] at hs1 hs2 hv2 hrn
      subst hv2
      have HLS := Lib.hid (hls.trans hys)
      have CA := Lib.hid (vecAdd ls A2 c2 wr hs1 hs2 hrn)
      clear hys hs1 hs2 ho hrs2 hyz HYL hls hrn hyl2
      go_wp2_with (first | (go_at_call 83; (with_reducible refine CA.out.mono ?_); rintro e w5 ⟨v5, rfl, hown5, hb5⟩; have HO5 := Lib.hid hown5; clear hown5; obtain ⟨fc5, fg5, hc5, hf5, hz5⟩ := bget hb5; (try simp at hz5)) | fail)
      go_ret2
      exact ⟨_, by rw [← HLS.out]; rfl, by rw [← HLS.out]; exact HO5.out.mono (by first | omega | (simp; done) | (simp; omega)), by have hbl := Hbl.out; (repeat' (first | (with_reducible exact Below.refl _ _) | (with_reducible assumption) | (with_reducible refine Below.alloc ?_ ?_ _) | (with_reducible refine Below.setCell ?_ ?_ _) | (with_reducible refine Below.drew ?_) | (with_reducible refine below_drewN ?_ _) | (with_reducible refine below_via ?_ (by with_reducible assumption) ?_) | omega | (simp; done) | (simp; omega)))⟩
set_option maxRecDepth 100000 in
set_option maxHeartbeats 8000000 in
theorem needOf (t : List InstV) (l : List PosV) (x : AcctV) (u : Un) (A B : Option Addr) (c d : Nat) (w : World) (ht : t.length ≤ 1000000) (hl : l.length ≤ 1000000) (hxl : x.clients.val.length ≤ 1000000) (h64 : L64 (l.map lgPosV))
    (hrt : Rd w A 5 (t.map encInstV)) (hgt : ∀ x ∈ t, x.moves.val.length ≤ 1048576 ∧ GoodI w x) (hr : Rd w B 3 (l.map encPosV)) (hg : ∀ x ∈ l, GoodPosV w x) (hx : GoodA w x) :
    Calls Tryz.prog 22 #[.slice A t.length c, .slice B l.length d, .agg #[.int .i64 x.id, .int .i64 x.member, .int .i64 x.kind, .slice x.clients.A x.clients.val.length x.clients.c], .agg #[.int .i64 u.acc, .int .i64 u.cli]] w fun e w' => e = .returned (.tuple #[.int .i64 (nofN t (l.map lgPosV) (lgA x) u), .int .i64 (nofC t (l.map lgPosV) (lgA x) u)]) ∧ Below w.heap.size w w' := by
  have HX := Lib.hid hx
  have hul := unitsN_len (lgA x)
  have hpl := partsN_len (lgA x) u
  have hul2 : (lgA x).clients.length ≤ 1000000 := hxl
  have ci := fun W (h : Below w.heap.size w W) => bookIs l B d W (by omega) (hr.keep h) (fun x hx => (hg x hx).keep h)
  have hib : isPosV l = isK isV (l.map lgPosV) := rfl
  rw [hib] at ci
  have CN := Lib.hid (fun W B2 d2 (h : Below w.heap.size w W) (h2 : Rd W B2 2 ((partsN (lgA x) u).map encUn)) => bookNet l (partsN (lgA x) u) B B2 d d2 W hl (by omega) h64 (hr.keep h) (fun x hx => (hg x hx).keep h) h2)
  have CM := Lib.hid (fun W B2 d2 (h : Below w.heap.size w W) (h2 : Rd W B2 2 ((netL (l.map lgPosV) (partsN (lgA x) u)).map encLeg)) => gridMargin t (netL (l.map lgPosV) (partsN (lgA x) u)) A B2 c d2 W ht (by have := netL_len (l.map lgPosV) (partsN (lgA x) u); omega) (netL64 _ _) (hrt.keep h) (fun x hx => ⟨(hgt x hx).1, (hgt x hx).2.keep h⟩) h2)
  clear hib hr hg hrt hgt hx h64
  cases hk : isK isV (l.map lgPosV)
  · rw [hk] at ci
    have CI := Lib.hid ci
    have HC := Lib.hid (show nofC t (l.map lgPosV) (lgA x) u = 3 from by unfold nofC; rw [hk]; rfl)
    have HN := Lib.hid (nofN_no (show nofC t (l.map lgPosV) (lgA x) u ≠ 0 by rw [HC.out]; decide))
    rw [HC.out, HN.out]
    clear ci hk
    go_enter Tryz.func22, Tryz.ntmps22
    go_wp2_with (first | (go_at_call 46; (with_reducible refine (CI.out _ (by (repeat' (first | (with_reducible exact Below.refl _ _) | (with_reducible assumption) | (with_reducible refine Below.alloc ?_ ?_ _) | (with_reducible refine Below.setCell ?_ ?_ _) | (with_reducible refine Below.drew ?_) | (with_reducible refine below_drewN ?_ _) | (with_reducible refine below_via ?_ (by with_reducible assumption) ?_) | omega | (simp; done) | (simp; omega))))).mono ?_); rintro e w1 ⟨rfl, hb1⟩; obtain ⟨fc1, fg1, hc1, hf1, hz1⟩ := bget hb1; (try simp at hz1)) | fail)
    go_ret2
    exact ⟨rfl, by (repeat' (first | (with_reducible exact Below.refl _ _) | (with_reducible assumption) | (with_reducible refine Below.alloc ?_ ?_ _) | (with_reducible refine Below.setCell ?_ ?_ _) | (with_reducible refine Below.drew ?_) | (with_reducible refine below_drewN ?_ _) | (with_reducible refine below_via ?_ (by with_reducible assumption) ?_) | omega | (simp; done) | (simp; omega)))⟩
  rw [hk] at ci
  have CI := Lib.hid ci
  clear ci
  by_cases hin : u ∈ unitsN (lgA x)
  rotate_left
  · have HIN := Lib.hid (decide_eq_false hin)
    have HC := Lib.hid (show nofC t (l.map lgPosV) (lgA x) u = 11 from by unfold nofC; rw [hk, if_pos rfl, if_neg hin])
    have HN := Lib.hid (nofN_no (show nofC t (l.map lgPosV) (lgA x) u ≠ 0 by rw [HC.out]; decide))
    rw [HC.out, HN.out]
    clear hin hk
    go_enter Tryz.func22, Tryz.ntmps22
    go_wp2_with (first | (go_at_call 46; (with_reducible refine (CI.out _ (by (repeat' (first | (with_reducible exact Below.refl _ _) | (with_reducible assumption) | (with_reducible refine Below.alloc ?_ ?_ _) | (with_reducible refine Below.setCell ?_ ?_ _) | (with_reducible refine Below.drew ?_) | (with_reducible refine below_drewN ?_ _) | (with_reducible refine below_via ?_ (by with_reducible assumption) ?_) | omega | (simp; done) | (simp; omega))))).mono ?_); rintro e w1 ⟨rfl, hb1⟩; obtain ⟨fc1, fg1, hc1, hf1, hz1⟩ := bget hb1; (try simp at hz1)) | fail)
    go_region_held3 (fun w' => ((w'.cell? ⟨w.heap.size, 0, none⟩ = some (.int .i64 x.id) ∧ w'.cell? ⟨w.heap.size, 1, none⟩ = some (.int .i64 x.member) ∧ w'.cell? ⟨w.heap.size, 2, none⟩ = some (.int .i64 x.kind) ∧ w'.cell? ⟨w.heap.size, 3, none⟩ = some (.slice x.clients.A x.clients.val.length x.clients.c)) ∧ w'.cell? ⟨w.heap.size + 1, 0, none⟩ = some (.int .i64 u.acc) ∧ w'.cell? ⟨w.heap.size + 1, 1, none⟩ = some (.int .i64 u.cli))) (first | (simp [go_sem]; done) | (repeat' (first | (with_reducible assumption) | (with_reducible refine And.intro ?_ ?_) | (with_reducible refine cell_drew ?_) | (with_reducible refine cell_via (by with_reducible assumption) ?_ ?_) | (simp [*]; done) | (simp [go_sem]; done) | (with_reducible refine cell_alloc ?_ ?_) | (with_reducible refine cell_set_far ?_ ?_) | omega | (simp; omega)))) (first | (go_at_call 38; (with_reducible refine (needUnits x _ hxl (HX.out.keep (by (repeat' (first | (with_reducible exact Below.refl _ _) | (with_reducible assumption) | (with_reducible refine Below.alloc ?_ ?_ _) | (with_reducible refine Below.setCell ?_ ?_ _) | (with_reducible refine Below.drew ?_) | (with_reducible refine below_drewN ?_ _) | (with_reducible refine below_via ?_ (by with_reducible assumption) ?_) | omega | (simp; done) | (simp; omega)))))).mono ?_); rintro e w2 ⟨A2, c2, rfl, hrs2, hb2⟩; have HS2 := Lib.hid hrs2.rd; clear hrs2; obtain ⟨fc2, fg2, hc2, hf2, hz2⟩ := bget hb2; (try simp at hz2)) | (go_at_call 49; (with_reducible refine (unContains (unitsN (lgA x)) u A2 c2 _ (by omega) (HS2.out.keep (by (repeat' (first | (with_reducible exact Below.refl _ _) | (with_reducible assumption) | (with_reducible refine Below.alloc ?_ ?_ _) | (with_reducible refine Below.setCell ?_ ?_ _) | (with_reducible refine Below.drew ?_) | (with_reducible refine below_drewN ?_ _) | (with_reducible refine below_via ?_ (by with_reducible assumption) ?_) | omega | (simp; done) | (simp; omega)))))).mono ?_); rw [HIN.out]; rintro e w3 ⟨rfl, hb3⟩; obtain ⟨fc3, fg3, hc3, hf3, hz3⟩ := bget hb3; (try simp at hz3)) | fail)
    all_goals
      go_wp2_with fail
      go_ret2
      exact ⟨rfl, by (repeat' (first | (with_reducible exact Below.refl _ _) | (with_reducible assumption) | (with_reducible refine Below.alloc ?_ ?_ _) | (with_reducible refine Below.setCell ?_ ?_ _) | (with_reducible refine Below.drew ?_) | (with_reducible refine below_drewN ?_ _) | (with_reducible refine below_via ?_ (by with_reducible assumption) ?_) | omega | (simp; done) | (simp; omega)))⟩
  have HIN := Lib.hid (decide_eq_true hin)
  by_cases hn : netC (l.map lgPosV) (partsN (lgA x) u) = 0
  · have HC := Lib.hid (show nofC t (l.map lgPosV) (lgA x) u = marginC t (netL (l.map lgPosV) (partsN (lgA x) u)) from by unfold nofC; rw [hk, if_pos rfl, if_pos hin, if_pos hn])
    have HN := Lib.hid (show nofN t (l.map lgPosV) (lgA x) u = marginN t (netL (l.map lgPosV) (partsN (lgA x) u)) from by unfold nofN; rw [hk, if_pos rfl, if_pos hin, if_pos hn])
    rw [HC.out, HN.out]
    rw [hn] at CN
    clear hin hk hn HC HN
    generalize netL (l.map lgPosV) (partsN (lgA x) u) = M at *
    go_enter Tryz.func22, Tryz.ntmps22
    go_wp2_with (first | (go_at_call 46; (with_reducible refine (CI.out _ (by (repeat' (first | (with_reducible exact Below.refl _ _) | (with_reducible assumption) | (with_reducible refine Below.alloc ?_ ?_ _) | (with_reducible refine Below.setCell ?_ ?_ _) | (with_reducible refine Below.drew ?_) | (with_reducible refine below_drewN ?_ _) | (with_reducible refine below_via ?_ (by with_reducible assumption) ?_) | omega | (simp; done) | (simp; omega))))).mono ?_); rintro e w1 ⟨rfl, hb1⟩; obtain ⟨fc1, fg1, hc1, hf1, hz1⟩ := bget hb1; (try simp at hz1)) | fail)
    go_region_held3 (fun w' => ((w'.cell? ⟨w.heap.size, 0, none⟩ = some (.int .i64 x.id) ∧ w'.cell? ⟨w.heap.size, 1, none⟩ = some (.int .i64 x.member) ∧ w'.cell? ⟨w.heap.size, 2, none⟩ = some (.int .i64 x.kind) ∧ w'.cell? ⟨w.heap.size, 3, none⟩ = some (.slice x.clients.A x.clients.val.length x.clients.c)) ∧ w'.cell? ⟨w.heap.size + 1, 0, none⟩ = some (.int .i64 u.acc) ∧ w'.cell? ⟨w.heap.size + 1, 1, none⟩ = some (.int .i64 u.cli))) (first | (simp [go_sem]; done) | (repeat' (first | (with_reducible assumption) | (with_reducible refine And.intro ?_ ?_) | (with_reducible refine cell_drew ?_) | (with_reducible refine cell_via (by with_reducible assumption) ?_ ?_) | (simp [*]; done) | (simp [go_sem]; done) | (with_reducible refine cell_alloc ?_ ?_) | (with_reducible refine cell_set_far ?_ ?_) | omega | (simp; omega)))) (first | (go_at_call 38; (with_reducible refine (needUnits x _ hxl (HX.out.keep (by (repeat' (first | (with_reducible exact Below.refl _ _) | (with_reducible assumption) | (with_reducible refine Below.alloc ?_ ?_ _) | (with_reducible refine Below.setCell ?_ ?_ _) | (with_reducible refine Below.drew ?_) | (with_reducible refine below_drewN ?_ _) | (with_reducible refine below_via ?_ (by with_reducible assumption) ?_) | omega | (simp; done) | (simp; omega)))))).mono ?_); rintro e w2 ⟨A2, c2, rfl, hrs2, hb2⟩; have HS2 := Lib.hid hrs2.rd; clear hrs2; obtain ⟨fc2, fg2, hc2, hf2, hz2⟩ := bget hb2; (try simp at hz2)) | (go_at_call 49; (with_reducible refine (unContains (unitsN (lgA x)) u A2 c2 _ (by omega) (HS2.out.keep (by (repeat' (first | (with_reducible exact Below.refl _ _) | (with_reducible assumption) | (with_reducible refine Below.alloc ?_ ?_ _) | (with_reducible refine Below.setCell ?_ ?_ _) | (with_reducible refine Below.drew ?_) | (with_reducible refine below_drewN ?_ _) | (with_reducible refine below_via ?_ (by with_reducible assumption) ?_) | omega | (simp; done) | (simp; omega)))))).mono ?_); rw [HIN.out]; rintro e w3 ⟨rfl, hb3⟩; obtain ⟨fc3, fg3, hc3, hf3, hz3⟩ := bget hb3; (try simp at hz3)) | fail)
    all_goals
      go_wp2_with (first | (go_at_call 23; (with_reducible refine (needParts x u _ hxl (HX.out.keep (by (repeat' (first | (with_reducible exact Below.refl _ _) | (with_reducible assumption) | (with_reducible refine Below.alloc ?_ ?_ _) | (with_reducible refine Below.setCell ?_ ?_ _) | (with_reducible refine Below.drew ?_) | (with_reducible refine below_drewN ?_ _) | (with_reducible refine below_via ?_ (by with_reducible assumption) ?_) | omega | (simp; done) | (simp; omega)))))).mono ?_); rintro e w4 ⟨A4, c4, rfl, hrs4, hb4⟩; have HS4 := Lib.hid hrs4.rd; clear hrs4; obtain ⟨fc4, fg4, hc4, hf4, hz4⟩ := bget hb4; (try simp at hz4)) | (go_at_call 50; (with_reducible refine (CN.out _ _ _ (by (repeat' (first | (with_reducible exact Below.refl _ _) | (with_reducible assumption) | (with_reducible refine Below.alloc ?_ ?_ _) | (with_reducible refine Below.setCell ?_ ?_ _) | (with_reducible refine Below.drew ?_) | (with_reducible refine below_drewN ?_ _) | (with_reducible refine below_via ?_ (by with_reducible assumption) ?_) | omega | (simp; done) | (simp; omega)))) (HS4.out.keep (by (repeat' (first | (with_reducible exact Below.refl _ _) | (with_reducible assumption) | (with_reducible refine Below.alloc ?_ ?_ _) | (with_reducible refine Below.setCell ?_ ?_ _) | (with_reducible refine Below.drew ?_) | (with_reducible refine below_drewN ?_ _) | (with_reducible refine below_via ?_ (by with_reducible assumption) ?_) | omega | (simp; done) | (simp; omega)))))).mono ?_); rintro e w5 ⟨v5, rfl, hown5, hb5⟩; obtain ⟨A5, c5, hv5, hrs5, hfm5⟩ := hown5.rs; (rw [List.length_map] at hv5); subst hv5; have HS5 := Lib.hid hrs5.rd; clear hown5 hrs5 hfm5; obtain ⟨fc5, fg5, hc5, hf5, hz5⟩ := bget hb5; (try simp at hz5)) | (go_at_call 51; (with_reducible refine (CM.out _ _ _ (by (repeat' (first | (with_reducible exact Below.refl _ _) | (with_reducible assumption) | (with_reducible refine Below.alloc ?_ ?_ _) | (with_reducible refine Below.setCell ?_ ?_ _) | (with_reducible refine Below.drew ?_) | (with_reducible refine below_drewN ?_ _) | (with_reducible refine below_via ?_ (by with_reducible assumption) ?_) | omega | (simp; done) | (simp; omega)))) (HS5.out.keep (by (repeat' (first | (with_reducible exact Below.refl _ _) | (with_reducible assumption) | (with_reducible refine Below.alloc ?_ ?_ _) | (with_reducible refine Below.setCell ?_ ?_ _) | (with_reducible refine Below.drew ?_) | (with_reducible refine below_drewN ?_ _) | (with_reducible refine below_via ?_ (by with_reducible assumption) ?_) | omega | (simp; done) | (simp; omega)))))).mono ?_); rintro e w6 ⟨rfl, hb6⟩; obtain ⟨fc6, fg6, hc6, hf6, hz6⟩ := bget hb6; (try simp at hz6)) | fail)
      go_ret2
      exact ⟨rfl, by (repeat' (first | (with_reducible exact Below.refl _ _) | (with_reducible assumption) | (with_reducible refine Below.alloc ?_ ?_ _) | (with_reducible refine Below.setCell ?_ ?_ _) | (with_reducible refine Below.drew ?_) | (with_reducible refine below_drewN ?_ _) | (with_reducible refine below_via ?_ (by with_reducible assumption) ?_) | omega | (simp; done) | (simp; omega)))⟩
  · have HC := Lib.hid (show nofC t (l.map lgPosV) (lgA x) u = netC (l.map lgPosV) (partsN (lgA x) u) from by unfold nofC; rw [hk, if_pos rfl, if_pos hin, if_neg hn])
    have HN := Lib.hid (nofN_no (show nofC t (l.map lgPosV) (lgA x) u ≠ 0 by rw [HC.out]; exact hn))
    rw [HC.out, HN.out]
    have dn : (netC (l.map lgPosV) (partsN (lgA x) u) != 0) = true := by simpa using hn
    have dn2 : (netC (l.map lgPosV) (partsN (lgA x) u) == 0) = false := by simpa using hn
    clear hin hk hn HC HN
    generalize netL (l.map lgPosV) (partsN (lgA x) u) = M at *
    generalize netC (l.map lgPosV) (partsN (lgA x) u) = code at *
    go_enter Tryz.func22, Tryz.ntmps22
    go_wp2_with (first | (go_at_call 46; (with_reducible refine (CI.out _ (by (repeat' (first | (with_reducible exact Below.refl _ _) | (with_reducible assumption) | (with_reducible refine Below.alloc ?_ ?_ _) | (with_reducible refine Below.setCell ?_ ?_ _) | (with_reducible refine Below.drew ?_) | (with_reducible refine below_drewN ?_ _) | (with_reducible refine below_via ?_ (by with_reducible assumption) ?_) | omega | (simp; done) | (simp; omega))))).mono ?_); rintro e w1 ⟨rfl, hb1⟩; obtain ⟨fc1, fg1, hc1, hf1, hz1⟩ := bget hb1; (try simp at hz1)) | fail)
    go_region_held3 (fun w' => ((w'.cell? ⟨w.heap.size, 0, none⟩ = some (.int .i64 x.id) ∧ w'.cell? ⟨w.heap.size, 1, none⟩ = some (.int .i64 x.member) ∧ w'.cell? ⟨w.heap.size, 2, none⟩ = some (.int .i64 x.kind) ∧ w'.cell? ⟨w.heap.size, 3, none⟩ = some (.slice x.clients.A x.clients.val.length x.clients.c)) ∧ w'.cell? ⟨w.heap.size + 1, 0, none⟩ = some (.int .i64 u.acc) ∧ w'.cell? ⟨w.heap.size + 1, 1, none⟩ = some (.int .i64 u.cli))) (first | (simp [go_sem]; done) | (repeat' (first | (with_reducible assumption) | (with_reducible refine And.intro ?_ ?_) | (with_reducible refine cell_drew ?_) | (with_reducible refine cell_via (by with_reducible assumption) ?_ ?_) | (simp [*]; done) | (simp [go_sem]; done) | (with_reducible refine cell_alloc ?_ ?_) | (with_reducible refine cell_set_far ?_ ?_) | omega | (simp; omega)))) (first | (go_at_call 38; (with_reducible refine (needUnits x _ hxl (HX.out.keep (by (repeat' (first | (with_reducible exact Below.refl _ _) | (with_reducible assumption) | (with_reducible refine Below.alloc ?_ ?_ _) | (with_reducible refine Below.setCell ?_ ?_ _) | (with_reducible refine Below.drew ?_) | (with_reducible refine below_drewN ?_ _) | (with_reducible refine below_via ?_ (by with_reducible assumption) ?_) | omega | (simp; done) | (simp; omega)))))).mono ?_); rintro e w2 ⟨A2, c2, rfl, hrs2, hb2⟩; have HS2 := Lib.hid hrs2.rd; clear hrs2; obtain ⟨fc2, fg2, hc2, hf2, hz2⟩ := bget hb2; (try simp at hz2)) | (go_at_call 49; (with_reducible refine (unContains (unitsN (lgA x)) u A2 c2 _ (by omega) (HS2.out.keep (by (repeat' (first | (with_reducible exact Below.refl _ _) | (with_reducible assumption) | (with_reducible refine Below.alloc ?_ ?_ _) | (with_reducible refine Below.setCell ?_ ?_ _) | (with_reducible refine Below.drew ?_) | (with_reducible refine below_drewN ?_ _) | (with_reducible refine below_via ?_ (by with_reducible assumption) ?_) | omega | (simp; done) | (simp; omega)))))).mono ?_); rw [HIN.out]; rintro e w3 ⟨rfl, hb3⟩; obtain ⟨fc3, fg3, hc3, hf3, hz3⟩ := bget hb3; (try simp at hz3)) | fail)
    all_goals
      go_wp2_with (first | (go_at_call 23; (with_reducible refine (needParts x u _ hxl (HX.out.keep (by (repeat' (first | (with_reducible exact Below.refl _ _) | (with_reducible assumption) | (with_reducible refine Below.alloc ?_ ?_ _) | (with_reducible refine Below.setCell ?_ ?_ _) | (with_reducible refine Below.drew ?_) | (with_reducible refine below_drewN ?_ _) | (with_reducible refine below_via ?_ (by with_reducible assumption) ?_) | omega | (simp; done) | (simp; omega)))))).mono ?_); rintro e w4 ⟨A4, c4, rfl, hrs4, hb4⟩; have HS4 := Lib.hid hrs4.rd; clear hrs4; obtain ⟨fc4, fg4, hc4, hf4, hz4⟩ := bget hb4; (try simp at hz4)) | (go_at_call 50; (with_reducible refine (CN.out _ _ _ (by (repeat' (first | (with_reducible exact Below.refl _ _) | (with_reducible assumption) | (with_reducible refine Below.alloc ?_ ?_ _) | (with_reducible refine Below.setCell ?_ ?_ _) | (with_reducible refine Below.drew ?_) | (with_reducible refine below_drewN ?_ _) | (with_reducible refine below_via ?_ (by with_reducible assumption) ?_) | omega | (simp; done) | (simp; omega)))) (HS4.out.keep (by (repeat' (first | (with_reducible exact Below.refl _ _) | (with_reducible assumption) | (with_reducible refine Below.alloc ?_ ?_ _) | (with_reducible refine Below.setCell ?_ ?_ _) | (with_reducible refine Below.drew ?_) | (with_reducible refine below_drewN ?_ _) | (with_reducible refine below_via ?_ (by with_reducible assumption) ?_) | omega | (simp; done) | (simp; omega)))))).mono ?_); rintro e w5 ⟨v5, rfl, hown5, hb5⟩; obtain ⟨A5, c5, hv5, hrs5, hfm5⟩ := hown5.rs; (rw [List.length_map] at hv5); subst hv5; have HS5 := Lib.hid hrs5.rd; clear hown5 hrs5 hfm5; obtain ⟨fc5, fg5, hc5, hf5, hz5⟩ := bget hb5; (try simp at hz5)) | fail)
      go_ret2
      exact ⟨rfl, by (repeat' (first | (with_reducible exact Below.refl _ _) | (with_reducible assumption) | (with_reducible refine Below.alloc ?_ ?_ _) | (with_reducible refine Below.setCell ?_ ?_ _) | (with_reducible refine Below.drew ?_) | (with_reducible refine below_drewN ?_ _) | (with_reducible refine below_via ?_ (by with_reducible assumption) ?_) | omega | (simp; done) | (simp; omega)))⟩
end Go.Proofs.YtalgfpegaobacaaGreat

/- Purses: contracts of purse.Is, purse.Get, the reference's Is; the law's Few. -/
namespace Go.Proofs.YtalgfpegaobacaaGreat
open Go.RowKit
theorem elFlow : Elem Tryz.prog 25 50 3 24 := elem_of Tryz.underlying25 (z := .agg #[.int .i64 0, .int .i64 0, .int .i64 0]) (by kernel_rfl) rfl (by omega)
theorem un_tF {x u : Un} : x = u ∨ ((x.acc == u.acc) = false) ∨ ((x.cli == u.cli) = false) := by
  by_cases h : x = u
  · exact .inl h
  · exact .inr (neqUn h)
theorem un_dF {x u : Un} (h : ((x.acc == u.acc) = false) ∨ ((x.cli == u.cli) = false)) : x ≠ u := by
  rintro rfl
  rcases h with h | h <;> simp at h
theorem lg_atF {l : List Flow} {k : Nat} (h : k < l.length) : (l.drop k).map lgF = lgF l[k] :: (l.drop (k + 1)).map lgF := by rw [drop_cons' h, List.map_cons]
theorem pred_F {k : Nat} (h : 1 ≤ k) (hk : k ≤ 1000000) : (0 : Int) ≤ (k : Int) - 1 ∧ ((k : Int) - 1).toNat = k - 1 ∧ IntKind.i64.wrap ((k : Int) - 1) = (k : Int) - 1 :=
  ⟨by omega, by omega, IntWalk.i64_in _ (by omega)⟩
theorem okP_yes {x : Flow} (h : (x.amount == 0) = false) : okP (lgF x).rows = true := by
  show (!(x.amount == 0)) = true
  rw [h]; rfl
theorem okP_no {x : Flow} (h : (x.amount == 0) = true) : okP (lgF x).rows = false := by
  show (!(x.amount == 0)) = false
  rw [h]; rfl
set_option maxRecDepth 100000 in
set_option maxHeartbeats 8000000 in
theorem purseIs (l : List Flow) (A : Option Addr) (c : Nat) (w : World) (hl : l.length ≤ 1000000) (hr : Rd w A 3 (l.map encFlow)) :
    Calls Tryz.prog 47 #[.slice A l.length c] w fun e w' => e = .returned (.bool (isPu l)) ∧ Below w.heap.size w w' := by
  have HR := Lib.hid hr
  have HIL := Lib.hid (show isPu l = isKR okP none (l.map lgF) from rfl)
  clear hr
  go_enter Tryz.func47, Tryz.ntmps47
  go_wp2_with fail
  go_loopw [7] (fun i wr => ∃ (k : Nat) (p : Option Un), k ≤ l.length ∧ i = .int .i64 k ∧ isKR okP none (l.map lgF) = isKR okP p ((l.drop k).map lgF) ∧ Below w.heap.size w wr ∧ (k = 0 ∧ p = none ∨ 0 < k ∧ p = l[k - 1]?.map (·.unit))) (fun i _ => l.length - (intOf i).toNat)
  case atStart => exact ⟨0, none, Nat.zero_le _, rfl, rfl, Below.refl _ _, .inl ⟨rfl, rfl⟩⟩
  case round =>
    obtain ⟨k, p, hk, rfl, hv, hbl, hx⟩ := hrel
    have HV := Lib.hid hv
    have Hbl := Lib.hid hbl
    have hz := hbl.size
    clear hv hbl
    by_cases hlt : k < l.length
    · have kl : (k : Int) < (l.length : Int) := by omega
      have dl : decide ((k : Int) < (l.length : Int)) = true := by simpa using hlt
      have hd := lg_atF hlt
      obtain ⟨b, o, rfl, hb, hc⟩ := HR.out k (encFlow l[k]) (by simp [hlt])
      have e0 := (Hbl.out.cell (p := ⟨b, o + k * 3 + 0, none⟩) hb).trans (hc 0 _ rfl)
      have e1 := (Hbl.out.cell (p := ⟨b, o + k * 3 + 1, none⟩) hb).trans (hc 1 _ rfl)
      have e2 := (Hbl.out.cell (p := ⟨b, o + k * 3 + 2, none⟩) hb).trans (hc 2 _ rfl)
      simp only [Nat.add_zero] at e0
      clear hc
      have hbw : b < wr.heap.size := by omega
      cases hq : (l[k].amount == 0)
      · have hne : (lgF l[k]).rows ≠ [] := by intro h; cases h
        have hiv := okP_yes hq
        rcases hx with ⟨k0, hx⟩ | ⟨k0, hx⟩
        · have g0 : decide (0 < k) = false := by simp; omega
          have HN := Lib.hid (show isKR okP p ((l.drop k).map lgF) = isKR okP (some l[k].unit) ((l.drop (k + 1)).map lgF) from by rw [hd]; exact isKR_step hne hiv (fun q hq => by rw [hx] at hq; cases hq))
          clear hx k0 hd hne hiv
          go_wp2_with fail
          go_quiet (fail)
          go_wp2_with fail
          go_roundw
          case rel => exact ⟨k + 1, some l[k].unit, by omega, by go_num, by rw [HV.out, HN.out], by have hbl := Hbl.out; (repeat' (first | (with_reducible exact Below.refl _ _) | (with_reducible assumption) | (with_reducible refine Below.alloc ?_ ?_ _) | (with_reducible refine Below.setCell ?_ ?_ _) | (with_reducible refine Below.drew ?_) | (with_reducible refine below_drewN ?_ _) | (with_reducible refine below_via ?_ (by with_reducible assumption) ?_) | omega | (simp; done) | (simp; omega))), .inr ⟨by omega, by rw [Nat.add_sub_cancel, List.getElem?_eq_getElem hlt]; rfl⟩⟩
          case measure => simp [intOf]; omega
        · have g0 : decide (0 < k) = true := by simpa using k0
          have hk0 : k - 1 < l.length := by omega
          have hp : p = some l[k - 1].unit := by rw [hx, List.getElem?_eq_getElem hk0]; rfl
          obtain ⟨b1, o1, q1, hb1, hc1⟩ := HR.out (k - 1) (encFlow l[k - 1]) (by simp [hk0])
          injection q1 with q1
          injection q1 with q1 q2 _
          subst q1 q2
          have f0 := (Hbl.out.cell (p := ⟨b, o + (k - 1) * 3 + 0, none⟩) hb).trans (hc1 0 _ rfl)
          have f1 := (Hbl.out.cell (p := ⟨b, o + (k - 1) * 3 + 1, none⟩) hb).trans (hc1 1 _ rfl)
          simp only [Nat.add_zero] at f0
          clear hc1 hb1
          cases hlo : lessU l[k - 1].unit l[k].unit
          · have CO := Lib.hid (fun W => hlo ▸ acctLess l[k - 1].unit l[k].unit W)
            have HN := Lib.hid (show isKR okP none (l.map lgF) = false from by rw [HV.out, hd]; exact isKR_no (.inr (.inr ⟨_, hp, hlo⟩)))
            clear hx hlo hp hd hne hiv
            have lk : (k : Int) - 1 < (l.length : Int) := by omega
            have k1 : (1 : Int) ≤ (k : Int) := by omega
            have k2 : 1 ≤ k := by omega
            have lk2 : (k : Int) ≤ (l.length : Int) := by omega
            have lk3 : (k : Int) < (l.length : Int) + 1 := by omega
            have lk4 : k < l.length + 1 := by omega
            obtain ⟨nk, tk, wk⟩ := pred_F k0 (by omega)
            go_wp2_with fail
            go_region_held3 (fun w' => (w'.cell? ⟨wr.heap.size, 0, none⟩ = some (.int .i64 l[k].unit.acc) ∧ w'.cell? ⟨wr.heap.size, 1, none⟩ = some (.int .i64 l[k].unit.cli) ∧ w'.cell? ⟨wr.heap.size, 2, none⟩ = some (.int .i64 l[k].amount)) ∧ (w'.cell? ⟨b, o + (k - 1) * 3, none⟩ = some (.int .i64 l[k - 1].unit.acc) ∧ w'.cell? ⟨b, o + (k - 1) * 3 + 1, none⟩ = some (.int .i64 l[k - 1].unit.cli))) (first | (simp [go_sem]; done) | (repeat' (first | (with_reducible assumption) | (with_reducible refine And.intro ?_ ?_) | (with_reducible refine cell_drew ?_) | (with_reducible refine cell_via (by with_reducible assumption) ?_ ?_) | (simp [*]; done) | (simp [go_sem]; done) | (with_reducible refine cell_alloc ?_ ?_) | (with_reducible refine cell_set_far ?_ ?_) | omega | (simp; omega)))) (first | (go_at_call 80; (with_reducible refine (CO.out _).mono ?_); rintro e w2 ⟨rfl, hb2⟩; obtain ⟨fc2, fg2, hc2, hf2, hz2⟩ := bget hb2; (try simp at hz2)) | fail)
            clear nk tk wk
            go_wp2_with fail
            go_ret
            exact ⟨by rw [HIL.out, HN.out]; rfl, by have hbl := Hbl.out; (repeat' (first | (with_reducible exact Below.refl _ _) | (with_reducible assumption) | (with_reducible refine Below.alloc ?_ ?_ _) | (with_reducible refine Below.setCell ?_ ?_ _) | (with_reducible refine Below.drew ?_) | (with_reducible refine below_drewN ?_ _) | (with_reducible refine below_via ?_ (by with_reducible assumption) ?_) | omega | (simp; done) | (simp; omega)))⟩
          · have CO := Lib.hid (fun W => hlo ▸ acctLess l[k - 1].unit l[k].unit W)
            have HN := Lib.hid (show isKR okP p ((l.drop k).map lgF) = isKR okP (some l[k].unit) ((l.drop (k + 1)).map lgF) from by rw [hd]; exact isKR_step hne hiv (fun q hq => by rw [hp] at hq; injection hq with hq; rw [← hq]; exact hlo))
            clear hx hlo hp hd hne hiv
            have lk : (k : Int) - 1 < (l.length : Int) := by omega
            have k1 : (1 : Int) ≤ (k : Int) := by omega
            have k2 : 1 ≤ k := by omega
            have lk2 : (k : Int) ≤ (l.length : Int) := by omega
            have lk3 : (k : Int) < (l.length : Int) + 1 := by omega
            have lk4 : k < l.length + 1 := by omega
            obtain ⟨nk, tk, wk⟩ := pred_F k0 (by omega)
            go_wp2_with fail
            go_region_held3 (fun w' => (w'.cell? ⟨wr.heap.size, 0, none⟩ = some (.int .i64 l[k].unit.acc) ∧ w'.cell? ⟨wr.heap.size, 1, none⟩ = some (.int .i64 l[k].unit.cli) ∧ w'.cell? ⟨wr.heap.size, 2, none⟩ = some (.int .i64 l[k].amount)) ∧ (w'.cell? ⟨b, o + (k - 1) * 3, none⟩ = some (.int .i64 l[k - 1].unit.acc) ∧ w'.cell? ⟨b, o + (k - 1) * 3 + 1, none⟩ = some (.int .i64 l[k - 1].unit.cli))) (first | (simp [go_sem]; done) | (repeat' (first | (with_reducible assumption) | (with_reducible refine And.intro ?_ ?_) | (with_reducible refine cell_drew ?_) | (with_reducible refine cell_via (by with_reducible assumption) ?_ ?_) | (simp [*]; done) | (simp [go_sem]; done) | (with_reducible refine cell_alloc ?_ ?_) | (with_reducible refine cell_set_far ?_ ?_) | omega | (simp; omega)))) (first | (go_at_call 80; (with_reducible refine (CO.out _).mono ?_); rintro e w2 ⟨rfl, hb2⟩; obtain ⟨fc2, fg2, hc2, hf2, hz2⟩ := bget hb2; (try simp at hz2)) | fail)
            clear nk tk wk
            go_wp2_with fail
            go_roundw
            case rel => exact ⟨k + 1, some l[k].unit, by omega, by go_num, by rw [HV.out, HN.out], by have hbl := Hbl.out; (repeat' (first | (with_reducible exact Below.refl _ _) | (with_reducible assumption) | (with_reducible refine Below.alloc ?_ ?_ _) | (with_reducible refine Below.setCell ?_ ?_ _) | (with_reducible refine Below.drew ?_) | (with_reducible refine below_drewN ?_ _) | (with_reducible refine below_via ?_ (by with_reducible assumption) ?_) | omega | (simp; done) | (simp; omega))), .inr ⟨by omega, by rw [Nat.add_sub_cancel, List.getElem?_eq_getElem hlt]; rfl⟩⟩
            case measure => simp [intOf]; omega
      · have HN := Lib.hid (show isKR okP none (l.map lgF) = false from by rw [HV.out, hd]; exact isKR_no (.inr (.inl (okP_no hq))))
        clear hx hd
        go_wp2_with fail
        go_quiet (fail)
        go_wp2_with fail
        go_ret
        exact ⟨by rw [HIL.out, HN.out]; rfl, by have hbl := Hbl.out; (repeat' (first | (with_reducible exact Below.refl _ _) | (with_reducible assumption) | (with_reducible refine Below.alloc ?_ ?_ _) | (with_reducible refine Below.setCell ?_ ?_ _) | (with_reducible refine Below.drew ?_) | (with_reducible refine below_drewN ?_ _) | (with_reducible refine below_via ?_ (by with_reducible assumption) ?_) | omega | (simp; done) | (simp; omega)))⟩
    · have dl : decide ((k : Int) < (l.length : Int)) = false := by simpa using hlt
      have HD := Lib.hid (drop_all (l := l) (k := k) (by omega))
      have HN := Lib.hid (show isKR okP none (l.map lgF) = true from by rw [HV.out, HD.out]; cases p <;> rfl)
      go_wp2_with fail
      go_ret
      exact ⟨by rw [HIL.out, HN.out]; rfl, Hbl.out⟩
set_option maxRecDepth 100000 in
set_option maxHeartbeats 8000000 in
theorem ref17Is (l : List Flow) (A : Option Addr) (c : Nat) (w : World) (hl : l.length ≤ 1000000) (hr : Rd w A 3 (l.map encFlow)) :
    Calls Tryz.prog 31 #[.slice A l.length c] w fun e w' => e = .returned (.bool (isPu l)) ∧ Below w.heap.size w w' := by
  have HR := Lib.hid hr
  have HIL := Lib.hid (show isPu l = isKR okP none (l.map lgF) from rfl)
  clear hr
  go_enter Tryz.func31, Tryz.ntmps31
  go_wp2_with fail
  go_loopw [3] (fun i wr => ∃ (k : Nat) (p : Option Un), k ≤ l.length ∧ i = .int .i64 k ∧ isKR okP none (l.map lgF) = isKR okP p ((l.drop k).map lgF) ∧ Below w.heap.size w wr ∧ (k = 0 ∧ p = none ∨ 0 < k ∧ p = l[k - 1]?.map (·.unit))) (fun i _ => l.length - (intOf i).toNat)
  case atStart => exact ⟨0, none, Nat.zero_le _, rfl, rfl, Below.refl _ _, .inl ⟨rfl, rfl⟩⟩
  case round =>
    obtain ⟨k, p, hk, rfl, hv, hbl, hx⟩ := hrel
    have HV := Lib.hid hv
    have Hbl := Lib.hid hbl
    have hz := hbl.size
    clear hv hbl
    by_cases hlt : k < l.length
    · have kl : (k : Int) < (l.length : Int) := by omega
      have dl : decide ((k : Int) < (l.length : Int)) = true := by simpa using hlt
      have hd := lg_atF hlt
      obtain ⟨b, o, rfl, hb, hc⟩ := HR.out k (encFlow l[k]) (by simp [hlt])
      have e0 := (Hbl.out.cell (p := ⟨b, o + k * 3 + 0, none⟩) hb).trans (hc 0 _ rfl)
      have e1 := (Hbl.out.cell (p := ⟨b, o + k * 3 + 1, none⟩) hb).trans (hc 1 _ rfl)
      have e2 := (Hbl.out.cell (p := ⟨b, o + k * 3 + 2, none⟩) hb).trans (hc 2 _ rfl)
      simp only [Nat.add_zero] at e0
      clear hc
      have hbw : b < wr.heap.size := by omega
      cases hq : (l[k].amount == 0)
      · have hne : (lgF l[k]).rows ≠ [] := by intro h; cases h
        have hiv := okP_yes hq
        rcases hx with ⟨k0, hx⟩ | ⟨k0, hx⟩
        · have g0 : decide (0 < k) = false := by simp; omega
          have HN := Lib.hid (show isKR okP p ((l.drop k).map lgF) = isKR okP (some l[k].unit) ((l.drop (k + 1)).map lgF) from by rw [hd]; exact isKR_step hne hiv (fun q hq => by rw [hx] at hq; cases hq))
          clear hx k0 hd hne hiv
          go_wp2_with fail
          go_quiet (fail)
          go_wp2_with fail
          go_roundw
          case rel => exact ⟨k + 1, some l[k].unit, by omega, by go_num, by rw [HV.out, HN.out], by have hbl := Hbl.out; (repeat' (first | (with_reducible exact Below.refl _ _) | (with_reducible assumption) | (with_reducible refine Below.alloc ?_ ?_ _) | (with_reducible refine Below.setCell ?_ ?_ _) | (with_reducible refine Below.drew ?_) | (with_reducible refine below_drewN ?_ _) | (with_reducible refine below_via ?_ (by with_reducible assumption) ?_) | omega | (simp; done) | (simp; omega))), .inr ⟨by omega, by rw [Nat.add_sub_cancel, List.getElem?_eq_getElem hlt]; rfl⟩⟩
          case measure => simp [intOf]; omega
        · have g0 : decide (0 < k) = true := by simpa using k0
          have hk0 : k - 1 < l.length := by omega
          have hp : p = some l[k - 1].unit := by rw [hx, List.getElem?_eq_getElem hk0]; rfl
          obtain ⟨b1, o1, q1, hb1, hc1⟩ := HR.out (k - 1) (encFlow l[k - 1]) (by simp [hk0])
          injection q1 with q1
          injection q1 with q1 q2 _
          subst q1 q2
          have f0 := (Hbl.out.cell (p := ⟨b, o + (k - 1) * 3 + 0, none⟩) hb).trans (hc1 0 _ rfl)
          have f1 := (Hbl.out.cell (p := ⟨b, o + (k - 1) * 3 + 1, none⟩) hb).trans (hc1 1 _ rfl)
          simp only [Nat.add_zero] at f0
          clear hc1 hb1
          cases hlo : lessU l[k - 1].unit l[k].unit
          · have CO := Lib.hid (fun W => hlo ▸ ref15Less l[k - 1].unit l[k].unit W)
            have HN := Lib.hid (show isKR okP none (l.map lgF) = false from by rw [HV.out, hd]; exact isKR_no (.inr (.inr ⟨_, hp, hlo⟩)))
            clear hx hlo hp hd hne hiv
            have lk : (k : Int) - 1 < (l.length : Int) := by omega
            have k1 : (1 : Int) ≤ (k : Int) := by omega
            have k2 : 1 ≤ k := by omega
            have lk2 : (k : Int) ≤ (l.length : Int) := by omega
            have lk3 : (k : Int) < (l.length : Int) + 1 := by omega
            have lk4 : k < l.length + 1 := by omega
            obtain ⟨nk, tk, wk⟩ := pred_F k0 (by omega)
            go_wp2_with fail
            go_region_held3 (fun w' => (w'.cell? ⟨b, o + k * 3, none⟩ = some (.int .i64 l[k].unit.acc) ∧ w'.cell? ⟨b, o + k * 3 + 1, none⟩ = some (.int .i64 l[k].unit.cli) ∧ w'.cell? ⟨b, o + k * 3 + 2, none⟩ = some (.int .i64 l[k].amount)) ∧ (w'.cell? ⟨b, o + (k - 1) * 3, none⟩ = some (.int .i64 l[k - 1].unit.acc) ∧ w'.cell? ⟨b, o + (k - 1) * 3 + 1, none⟩ = some (.int .i64 l[k - 1].unit.cli))) (first | (simp [go_sem]; done) | (repeat' (first | (with_reducible assumption) | (with_reducible refine And.intro ?_ ?_) | (with_reducible refine cell_drew ?_) | (with_reducible refine cell_via (by with_reducible assumption) ?_ ?_) | (simp [*]; done) | (simp [go_sem]; done) | (with_reducible refine cell_alloc ?_ ?_) | (with_reducible refine cell_set_far ?_ ?_) | omega | (simp; omega)))) (first | (go_at_call 58; (with_reducible refine (CO.out _).mono ?_); rintro e w2 ⟨rfl, hb2⟩; obtain ⟨fc2, fg2, hc2, hf2, hz2⟩ := bget hb2; (try simp at hz2)) | fail)
            clear nk tk wk
            go_wp2_with fail
            go_ret
            exact ⟨by rw [HIL.out, HN.out]; rfl, by have hbl := Hbl.out; (repeat' (first | (with_reducible exact Below.refl _ _) | (with_reducible assumption) | (with_reducible refine Below.alloc ?_ ?_ _) | (with_reducible refine Below.setCell ?_ ?_ _) | (with_reducible refine Below.drew ?_) | (with_reducible refine below_drewN ?_ _) | (with_reducible refine below_via ?_ (by with_reducible assumption) ?_) | omega | (simp; done) | (simp; omega)))⟩
          · have CO := Lib.hid (fun W => hlo ▸ ref15Less l[k - 1].unit l[k].unit W)
            have HN := Lib.hid (show isKR okP p ((l.drop k).map lgF) = isKR okP (some l[k].unit) ((l.drop (k + 1)).map lgF) from by rw [hd]; exact isKR_step hne hiv (fun q hq => by rw [hp] at hq; injection hq with hq; rw [← hq]; exact hlo))
            clear hx hlo hp hd hne hiv
            have lk : (k : Int) - 1 < (l.length : Int) := by omega
            have k1 : (1 : Int) ≤ (k : Int) := by omega
            have k2 : 1 ≤ k := by omega
            have lk2 : (k : Int) ≤ (l.length : Int) := by omega
            have lk3 : (k : Int) < (l.length : Int) + 1 := by omega
            have lk4 : k < l.length + 1 := by omega
            obtain ⟨nk, tk, wk⟩ := pred_F k0 (by omega)
            go_wp2_with fail
            go_region_held3 (fun w' => (w'.cell? ⟨b, o + k * 3, none⟩ = some (.int .i64 l[k].unit.acc) ∧ w'.cell? ⟨b, o + k * 3 + 1, none⟩ = some (.int .i64 l[k].unit.cli) ∧ w'.cell? ⟨b, o + k * 3 + 2, none⟩ = some (.int .i64 l[k].amount)) ∧ (w'.cell? ⟨b, o + (k - 1) * 3, none⟩ = some (.int .i64 l[k - 1].unit.acc) ∧ w'.cell? ⟨b, o + (k - 1) * 3 + 1, none⟩ = some (.int .i64 l[k - 1].unit.cli))) (first | (simp [go_sem]; done) | (repeat' (first | (with_reducible assumption) | (with_reducible refine And.intro ?_ ?_) | (with_reducible refine cell_drew ?_) | (with_reducible refine cell_via (by with_reducible assumption) ?_ ?_) | (simp [*]; done) | (simp [go_sem]; done) | (with_reducible refine cell_alloc ?_ ?_) | (with_reducible refine cell_set_far ?_ ?_) | omega | (simp; omega)))) (first | (go_at_call 58; (with_reducible refine (CO.out _).mono ?_); rintro e w2 ⟨rfl, hb2⟩; obtain ⟨fc2, fg2, hc2, hf2, hz2⟩ := bget hb2; (try simp at hz2)) | fail)
            clear nk tk wk
            go_wp2_with fail
            go_roundw
            case rel => exact ⟨k + 1, some l[k].unit, by omega, by go_num, by rw [HV.out, HN.out], by have hbl := Hbl.out; (repeat' (first | (with_reducible exact Below.refl _ _) | (with_reducible assumption) | (with_reducible refine Below.alloc ?_ ?_ _) | (with_reducible refine Below.setCell ?_ ?_ _) | (with_reducible refine Below.drew ?_) | (with_reducible refine below_drewN ?_ _) | (with_reducible refine below_via ?_ (by with_reducible assumption) ?_) | omega | (simp; done) | (simp; omega))), .inr ⟨by omega, by rw [Nat.add_sub_cancel, List.getElem?_eq_getElem hlt]; rfl⟩⟩
            case measure => simp [intOf]; omega
      · have HN := Lib.hid (show isKR okP none (l.map lgF) = false from by rw [HV.out, hd]; exact isKR_no (.inr (.inl (okP_no hq))))
        clear hx hd
        go_wp2_with fail
        go_quiet (fail)
        go_wp2_with fail
        go_ret
        exact ⟨by rw [HIL.out, HN.out]; rfl, by have hbl := Hbl.out; (repeat' (first | (with_reducible exact Below.refl _ _) | (with_reducible assumption) | (with_reducible refine Below.alloc ?_ ?_ _) | (with_reducible refine Below.setCell ?_ ?_ _) | (with_reducible refine Below.drew ?_) | (with_reducible refine below_drewN ?_ _) | (with_reducible refine below_via ?_ (by with_reducible assumption) ?_) | omega | (simp; done) | (simp; omega)))⟩
    · have dl : decide ((k : Int) < (l.length : Int)) = false := by simpa using hlt
      have HD := Lib.hid (drop_all (l := l) (k := k) (by omega))
      have HN := Lib.hid (show isKR okP none (l.map lgF) = true from by rw [HV.out, HD.out]; cases p <;> rfl)
      go_wp2_with fail
      go_ret
      exact ⟨by rw [HIL.out, HN.out]; rfl, Hbl.out⟩
set_option maxRecDepth 100000 in
set_option maxHeartbeats 4000000 in
theorem purseGet (l : List Flow) (u : Un) (A : Option Addr) (c : Nat) (w : World) (hl : l.length ≤ 1000000) (hr : Rd w A 3 (l.map encFlow)) :
    Calls Tryz.prog 25 #[.slice A l.length c, .agg #[.int .i64 u.acc, .int .i64 u.cli]] w fun e w' => e = .returned (.int .i64 (getPu l u)) ∧ Below w.heap.size w w' := by
  have HR := Lib.hid hr
  clear hr
  go_enter Tryz.func25, Tryz.ntmps25
  go_wp2_with fail
  go_loopw [9] (fun i wr => ∃ k : Nat, k ≤ l.length ∧ i = .int .i64 k ∧ getPu l u = getPu (l.drop k) u ∧ Below w.heap.size w wr ∧ w.heap.size < wr.heap.size ∧ wr.cell? ⟨w.heap.size, 0, none⟩ = some (.int .i64 u.acc) ∧ wr.cell? ⟨w.heap.size, 1, none⟩ = some (.int .i64 u.cli)) (fun i _ => l.length - (intOf i).toNat)
  case atStart => exact ⟨0, Nat.zero_le _, rfl, rfl, by (repeat' (first | (with_reducible exact Below.refl _ _) | (with_reducible assumption) | (with_reducible refine Below.alloc ?_ ?_ _) | (with_reducible refine Below.setCell ?_ ?_ _) | (with_reducible refine Below.drew ?_) | (with_reducible refine below_drewN ?_ _) | (with_reducible refine below_via ?_ (by with_reducible assumption) ?_) | omega | (simp; done) | (simp; omega))), by simp, by simp [go_sem], by simp [go_sem]⟩
  case round =>
    obtain ⟨k, hk, rfl, hv, hbl, hsz, g0, g1⟩ := hrel
    have HV := Lib.hid hv
    have Hbl := Lib.hid hbl
    have hz := hbl.size
    clear hv hbl
    by_cases hlt : k < l.length
    · have kl : (k : Int) < (l.length : Int) := by omega
      have dl : decide ((k : Int) < (l.length : Int)) = true := by simpa using hlt
      have hd := drop_cons' hlt
      obtain ⟨b, o, rfl, hb, hc⟩ := HR.out k (encFlow l[k]) (by simp [hlt])
      have e0 := (Hbl.out.cell (p := ⟨b, o + k * 3 + 0, none⟩) hb).trans (hc 0 _ rfl)
      have e1 := (Hbl.out.cell (p := ⟨b, o + k * 3 + 1, none⟩) hb).trans (hc 1 _ rfl)
      have e2 := (Hbl.out.cell (p := ⟨b, o + k * 3 + 2, none⟩) hb).trans (hc 2 _ rfl)
      simp only [Nat.add_zero] at e0
      clear hc
      have hbw : b < wr.heap.size := by omega
      rcases un_tF (x := l[k].unit) (u := u) with h | h
      · have HN := Lib.hid (show getPu l u = l[k].amount from by rw [HV.out, hd]; exact getPu_hit h)
        rw [h] at e0 e1
        clear hd h
        go_wp2_with fail
        go_ret
        exact ⟨by rw [HN.out]; rfl, by have hbl := Hbl.out; (repeat' (first | (with_reducible exact Below.refl _ _) | (with_reducible assumption) | (with_reducible refine Below.alloc ?_ ?_ _) | (with_reducible refine Below.setCell ?_ ?_ _) | (with_reducible refine Below.drew ?_) | (with_reducible refine below_drewN ?_ _) | (with_reducible refine below_via ?_ (by with_reducible assumption) ?_) | omega | (simp; done) | (simp; omega)))⟩
      · have HN := Lib.hid (show getPu l u = getPu (l.drop (k + 1)) u from by rw [HV.out, hd]; exact getPu_miss (un_dF h))
        clear hd
        rcases h with h | h
        all_goals
          go_wp2_with fail
          go_roundw
          case rel => exact ⟨k + 1, by omega, by go_num, HN.out, by have hbl := Hbl.out; (repeat' (first | (with_reducible exact Below.refl _ _) | (with_reducible assumption) | (with_reducible refine Below.alloc ?_ ?_ _) | (with_reducible refine Below.setCell ?_ ?_ _) | (with_reducible refine Below.drew ?_) | (with_reducible refine below_drewN ?_ _) | (with_reducible refine below_via ?_ (by with_reducible assumption) ?_) | omega | (simp; done) | (simp; omega))), by simp; omega, by simp [go_sem, g0, hsz], by simp [go_sem, g1, hsz]⟩
          case measure => simp [intOf]; omega
    · have dl : decide ((k : Int) < (l.length : Int)) = false := by simpa using hlt
      have HN := Lib.hid (show getPu l u = 0 from by rw [HV.out, drop_all (l := l) (k := k) (by omega)]; rfl)
      go_wp2_with fail
      go_ret
      exact ⟨by rw [HN.out]; rfl, Hbl.out⟩
set_option maxRecDepth 100000 in
set_option maxHeartbeats 1000000 in
theorem law17Few (l : List Flow) (A : Option Addr) (c : Nat) (w : World) (hr : Rs w 3 (l.map encFlow) A c) :
    Calls Tryz.prog 17 #[.slice A l.length c] w fun e w' => e = .returned (.slice A (l.take 20).length c) ∧ Below w.heap.size w w' := by
  have hlc : l.length ≤ c := by have := hr.cap; rw [List.length_map] at this; exact this
  have hcm := hr.room
  unfold maxLen at hcm
  by_cases h : 20 < l.length
  · have HN := Lib.hid (show (l.take 20).length = 20 from by rw [List.length_take]; omega)
    have d1 : decide (20 < (l.length : Int)) = true := by simp; omega
    obtain ⟨b, o, rfl, hq⟩ := hr.rd 0 (encFlow (l[0]'(by omega))) (by rw [List.getElem?_map, List.getElem?_eq_getElem (by omega)]; rfl)
    rw [HN.out]
    clear hq hr
    go_enter Tryz.func17, Tryz.ntmps17
    go_wp2_with fail
    all_goals
      go_ret
      exact ⟨rfl, by (repeat' (first | (with_reducible exact Below.refl _ _) | (with_reducible assumption) | (with_reducible refine Below.alloc ?_ ?_ _) | (with_reducible refine Below.setCell ?_ ?_ _) | (with_reducible refine Below.drew ?_) | (with_reducible refine below_drewN ?_ _) | (with_reducible refine below_via ?_ (by with_reducible assumption) ?_) | omega | (simp; done) | (simp; omega)))⟩
  · rw [List.take_of_length_le (by omega)]
    have d1 : decide (20 < (l.length : Int)) = false := by simp; omega
    clear hr
    go_enter Tryz.func17, Tryz.ntmps17
    go_wp2_with fail
    go_ret
    exact ⟨rfl, by (repeat' (first | (with_reducible exact Below.refl _ _) | (with_reducible assumption) | (with_reducible refine Below.alloc ?_ ?_ _) | (with_reducible refine Below.setCell ?_ ?_ _) | (with_reducible refine Below.drew ?_) | (with_reducible refine below_drewN ?_ _) | (with_reducible refine below_via ?_ (by with_reducible assumption) ?_) | omega | (simp; done) | (simp; omega)))⟩
end Go.Proofs.YtalgfpegaobacaaGreat

/- Lots: contract of lots.Sum. -/
namespace Go.Proofs.YtalgfpegaobacaaGreat
open Go.RowKit
end Go.Proofs.YtalgfpegaobacaaGreat
