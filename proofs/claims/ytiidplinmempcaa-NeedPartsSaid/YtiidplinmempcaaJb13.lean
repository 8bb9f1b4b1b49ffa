/- Joined: Ned2, Grd1, GrdL. -/
import Derived.Test.YtiidplinmempcaaJb6
import Derived.Test.YtiidplinmempcaaJb9
import Derived.Test.YtiidplinmempcaaJb12
import Derived.Test.YtiidplinmempcaaJb5
import Derived.Test.YtiidplinmempcaaJb3
/- Margin units: contracts of book.Net, need.Of. -/
namespace Go.Proofs.Ytiidplinmempcaa
open Go.RowKit
def encSN (y : SlOf Leg) : List Value := [.slice y.A y.val.length y.c]
theorem net_rss {w : World} {base : Nat} {ys : List (SlOf Leg)} {A : Option Addr} {c : Nat} (hr : Rs w 1 (ys.map encSN) A c) (hg : ∀ y ∈ ys, Own w base 116 2 (.slice y.A y.val.length y.c) (y.val.map encLeg)) : RsS 2 encLeg w (ys.map (·.val)) A c := by
  refine ⟨⟨ys.map (fun y => .slice y.A y.val.length y.c), ⟨by simp, fun i a b h1 h2 => ?_⟩, by rw [List.map_map]; exact hr⟩⟩
  rw [List.getElem?_map] at h1 h2
  cases hy : ys[i]? with
  | none => rw [hy] at h1; cases h1
  | some y =>
    rw [hy] at h1 h2
    simp only [Option.map_some, Option.some.injEq] at h1 h2
    subst h1 h2
    exact isl (hg y (List.mem_of_getElem? hy)).good
set_option maxRecDepth 100000 in
set_option maxHeartbeats 8000000 in
theorem bookNet (l : List PosV) (us : List Un) (A B : Option Addr) (c d : Nat) (w : World) (hl : l.length ≤ 1000000) (hul : us.length ≤ 2000000) (h64 : L64 (l.map lgPosV)) (hr : Rd w A 3 (l.map encPosV)) (hg : ∀ x ∈ l, GoodPosV w x) (hru : Rd w B 2 (us.map encUn)) :
    Calls Try.prog 172 #[.slice A l.length c, .slice B us.length d] w (LegsPost w (netC (l.map lgPosV) us) (netL (l.map lgPosV) us)) := by
  have HR := Lib.hid hr
  have HG := Lib.hid hg
  have HU := Lib.hid hru
  have HS := Lib.hid (show ∀ ys : List (SlOf Leg), ys.map (·.val) = us.map (ofK (l.map lgPosV)) → Short (ys.map (·.val)) ∧ ∀ z ∈ ys.map (·.val), Legs64 z from fun ys h => by
    rw [h]
    refine ⟨⟨by rw [List.length_map]; omega, fun z hz => ?_⟩, fun z hz => ?_⟩
    · obtain ⟨u, _, rfl⟩ := List.mem_map.1 hz
      have := of_len hg u
      omega
    · obtain ⟨u, _, rfl⟩ := List.mem_map.1 hz
      exact of64 h64 u)
  have ci := fun W (h : Below w.heap.size w W) => bookIs l A c W (by omega) (hr.keep h) (fun x hx => (hg x hx).keep h)
  have hib : isPosV l = isK isV (l.map lgPosV) := rfl
  rw [hib] at ci
  have HOF := Lib.hid (fun u => of_len hg u)
  clear hr hg hru h64 hib
  cases hk : isK isV (l.map lgPosV)
  · rw [hk] at ci
    have CI := Lib.hid ci
    have HC := Lib.hid (show netC (l.map lgPosV) us = 3 from by unfold netC; rw [hk]; rfl)
    have HL := Lib.hid (show netL (l.map lgPosV) us = [] from by unfold netL; rw [hk]; rfl)
    rw [HC.out, HL.out]
    clear ci hk
    go_enter Try.func172, Try.ntmps172
    go_wp2_with (first | (go_at_call 36; (with_reducible refine (CI.out _ (by (repeat' (first | (with_reducible exact Below.refl _ _) | (with_reducible assumption) | (with_reducible refine Below.alloc ?_ ?_ _) | (with_reducible refine Below.setCell ?_ ?_ _) | (with_reducible refine Below.drew ?_) | (with_reducible refine below_drewN ?_ _) | (with_reducible refine below_via ?_ (by with_reducible assumption) ?_) | omega | (simp; done) | (simp; omega))))).mono ?_); rintro e w1 ⟨rfl, hb1⟩; obtain ⟨fc1, fg1, hc1, hf1, hz1⟩ := bget hb1; (try simp at hz1)) | fail)
    go_ret2
    exact ⟨_, rfl, Own.nil _ _ _ _, by (repeat' (first | (with_reducible exact Below.refl _ _) | (with_reducible assumption) | (with_reducible refine Below.alloc ?_ ?_ _) | (with_reducible refine Below.setCell ?_ ?_ _) | (with_reducible refine Below.drew ?_) | (with_reducible refine below_drewN ?_ _) | (with_reducible refine below_via ?_ (by with_reducible assumption) ?_) | omega | (simp; done) | (simp; omega)))⟩
  rw [hk] at ci
  have CI := Lib.hid ci
  have HC := Lib.hid (show netC (l.map lgPosV) us = addC (us.map (ofK (l.map lgPosV))) from by unfold netC; rw [hk]; rfl)
  have HL := Lib.hid (show netL (l.map lgPosV) us = addL (us.map (ofK (l.map lgPosV))) from by unfold netL; rw [hk]; rfl)
  rw [HC.out, HL.out]
  clear ci hk HC HL
  go_enter Try.func172, Try.ntmps172
  go_wp2_with (first | (go_at_call 36; (with_reducible refine (CI.out _ (by (repeat' (first | (with_reducible exact Below.refl _ _) | (with_reducible assumption) | (with_reducible refine Below.alloc ?_ ?_ _) | (with_reducible refine Below.setCell ?_ ?_ _) | (with_reducible refine Below.drew ?_) | (with_reducible refine below_drewN ?_ _) | (with_reducible refine below_via ?_ (by with_reducible assumption) ?_) | omega | (simp; done) | (simp; omega))))).mono ?_); rintro e w1 ⟨rfl, hb1⟩; obtain ⟨fc1, fg1, hc1, hf1, hz1⟩ := bget hb1; (try simp at hz1)) | fail)
  have Hb1 := Lib.hid hb1
  clear hc1 hf1 hb1
  go_loopw [6, 14] (fun v i wr => ∃ (k : Nat) (ys : List (SlOf Leg)), k ≤ us.length ∧ i = .int .i64 k ∧ ys.map (·.val) = (us.take k).map (ofK (l.map lgPosV)) ∧ Own wr w.heap.size 23 1 v (ys.map encSN) ∧ (∀ y ∈ ys, Own wr w.heap.size 116 2 (.slice y.A y.val.length y.c) (y.val.map encLeg)) ∧ Below w.heap.size w wr) (fun _ i _ => us.length - (intOf i).toNat)
  case atStart => exact ⟨0, [], Nat.zero_le _, rfl, rfl, Own.nil _ _ _ _, fun y hy => absurd hy (by simp), Hb1.out⟩
  case round =>
    obtain ⟨k, ys, hk, rfl, hlg, hown, hgd, hbl⟩ := hrel
    have Hlg := Lib.hid hlg
    have Hown := Lib.hid hown
    have Hgd := Lib.hid hgd
    have Hbl := Lib.hid hbl
    have hz := hbl.size
    have hyl : ys.length = k := by have := congrArg List.length hlg; simp only [List.length_map, List.length_take] at this; omega
    have HYL := Lib.hid hyl
    have hyl2 : ys.length ≤ 2000000 := by omega
    clear hlg hown hgd hbl hyl
    by_cases hlt : k < us.length
    · have kl : (k : Int) < (us.length : Int) := by omega
      have dl : decide ((k : Int) < (us.length : Int)) = true := by simpa using hlt
      obtain ⟨b, o, rfl, hb, hc⟩ := HU.out k (encUn us[k]) (by simp [hlt])
      have e0 := (Hbl.out.cell (p := ⟨b, o + k * 2 + 0, none⟩) hb).trans (hc 0 _ rfl)
      have e1 := (Hbl.out.cell (p := ⟨b, o + k * 2 + 1, none⟩) hb).trans (hc 1 _ rfl)
      simp only [Nat.add_zero] at e0
      clear hc
      have hbw : b < wr.heap.size := by omega
      have HM := Lib.hid (show (us.take (k + 1)).map (ofK (l.map lgPosV)) = (us.take k).map (ofK (l.map lgPosV)) ++ [ofK (l.map lgPosV) us[k]] from map_snoc hlt _)
      have hol := HOF.out us[k]
      have co := fun W (h : Below w.heap.size w W) => bookOf l us[k] A c W (by omega) (HR.out.keep h) (fun x hx => (HG.out x hx).keep h)
      generalize ofK (l.map lgPosV) us[k] = O at *
      have CO := Lib.hid co
      clear co
      go_wp2_with (first | (go_at_call 39; (with_reducible refine (CO.out _ (by have hbl := Hbl.out; (repeat' (first | (with_reducible exact Below.refl _ _) | (with_reducible assumption) | (with_reducible refine Below.alloc ?_ ?_ _) | (with_reducible refine Below.setCell ?_ ?_ _) | (with_reducible refine Below.drew ?_) | (with_reducible refine below_drewN ?_ _) | (with_reducible refine below_via ?_ (by with_reducible assumption) ?_) | omega | (simp; done) | (simp; omega))))).mono ?_); rintro e w3 ⟨v3, rfl, hown3, hb3⟩; obtain ⟨A3, c3, hv3, hrs3, hform3⟩ := hown3.rs; (rw [List.length_map] at hv3); subst hv3; have HO3 := Lib.hid hown3; clear hown3 hrs3 hform3; obtain ⟨fc3, fg3, hc3, hf3, hz3⟩ := bget hb3; (try simp at hz3)) | (at_builtin; refine wpList_appG rfl _ _ _ rfl elLs w.heap.size _ _ rfl (Hown.out.keep (by (repeat' (first | (with_reducible exact Below.refl _ _) | (with_reducible assumption) | (with_reducible refine Below.alloc ?_ ?_ _) | (with_reducible refine Below.setCell ?_ ?_ _) | (with_reducible refine Below.drew ?_) | (with_reducible refine below_drewN ?_ _) | (with_reducible refine below_via ?_ (by with_reducible assumption) ?_) | omega | (simp; done) | (simp; omega))))) ⟨_, 0, none⟩ 1 1 rfl [[.slice A3 O.length c3]] rfl (rd_oneN (by simp)) (rows1 _ rfl) (by unfold maxLen; simp; omega) (by simp; omega) (by first | omega | (simp; done) | (simp; omega)) ?_; intro v4 w4 hown4 hb4 hg4; have HO4 := Lib.hid hown4; have HG4 := Lib.hid hg4; clear hown4 hg4; obtain ⟨fc4, fg4, hc4, hf4, hz4⟩ := bget hb4; (try simp at hz4)) | fail)
      go_roundw
      case rel =>
        have h03 : Below wr.heap.size wr w3 := by clear hb4; (repeat' (first | (with_reducible exact Below.refl _ _) | (with_reducible assumption) | (with_reducible refine Below.alloc ?_ ?_ _) | (with_reducible refine Below.setCell ?_ ?_ _) | (with_reducible refine Below.drew ?_) | (with_reducible refine below_drewN ?_ _) | (with_reducible refine below_via ?_ (by with_reducible assumption) ?_) | omega | (simp; done) | (simp; omega)))
        have h3a := (Below.refl w3.heap.size w3).alloc (Nat.le_refl _) (.cells #[.slice A3 O.length c3] 23)
        have ho3 := HO3.out.mono (b := w.heap.size) (by simp; omega)
        have ha4 : Away 23 w3 w4 := (Away.below h3a).trans (Away.grown HG4.out (Own.typed ((Hown.out.keep h03).keep h3a)))
        refine ⟨k + 1, ys ++ [⟨A3, c3, O⟩], by omega, by go_num, ?_, ?_, ?_, ?_⟩
        · rw [HM.out, List.map_append, Hlg.out]; rfl
        · rw [List.map_append]; exact HO4.out
        · intro y hy
          rcases List.mem_append.1 hy with h | h
          · exact (Hgd.out y h).away ((Away.below h03).trans ha4) (by decide)
          · rw [List.mem_singleton] at h
            subst h
            exact ho3.away ha4 (by decide)
        · have hbl := Hbl.out
          clear h03 h3a ha4
          (repeat' (first | (with_reducible exact Below.refl _ _) | (with_reducible assumption) | (with_reducible refine Below.alloc ?_ ?_ _) | (with_reducible refine Below.setCell ?_ ?_ _) | (with_reducible refine Below.drew ?_) | (with_reducible refine below_drewN ?_ _) | (with_reducible refine below_via ?_ (by with_reducible assumption) ?_) | omega | (simp; done) | (simp; omega)))
      case measure => simp [intOf]; omega
    · have dl : decide ((k : Int) < (us.length : Int)) = false := by simpa using hlt
      have hys : ys.map (·.val) = us.map (ofK (l.map lgPosV)) := by rw [Hlg.out, List.take_of_length_le (by omega)]
      obtain ⟨hs1, hs2⟩ := HS.out ys hys
      have hyz : ys.length = (ys.map (·.val)).length := by rw [List.length_map]
      have ho := Hown.out
      obtain ⟨A2, c2, hv2, hrs2, _⟩ := ho.rs
      rw [List.length_map, hyz] at hv2
      have hrn := net_rss hrs2 Hgd.out
      obtain ⟨ls, hls⟩ : ∃ ls, ls = ys.map (·.val) := ⟨_, rfl⟩
      rw [← hls] at hs1 hs2 hv2 hrn
      subst hv2
      have HLS := Lib.hid (hls.trans hys)
      have CA := Lib.hid (vecAdd ls A2 c2 wr hs1 hs2 hrn)
      clear hys hs1 hs2 ho hrs2 hyz HYL hls hrn hyl2
      go_wp2_with (first | (go_at_call 96; (with_reducible refine CA.out.mono ?_); rintro e w5 ⟨v5, rfl, hown5, hb5⟩; have HO5 := Lib.hid hown5; clear hown5; obtain ⟨fc5, fg5, hc5, hf5, hz5⟩ := bget hb5; (try simp at hz5)) | fail)
      go_ret2
      exact ⟨_, by rw [← HLS.out]; rfl, by rw [← HLS.out]; exact HO5.out.mono (by first | omega | (simp; done) | (simp; omega)), by have hbl := Hbl.out; (repeat' (first | (with_reducible exact Below.refl _ _) | (with_reducible assumption) | (with_reducible refine Below.alloc ?_ ?_ _) | (with_reducible refine Below.setCell ?_ ?_ _) | (with_reducible refine Below.drew ?_) | (with_reducible refine below_drewN ?_ _) | (with_reducible refine below_via ?_ (by with_reducible assumption) ?_) | omega | (simp; done) | (simp; omega)))⟩
set_option maxRecDepth 100000 in
set_option maxHeartbeats 8000000 in
theorem needOf (t : List InstV) (l : List PosV) (x : AcctV) (u : Un) (A B : Option Addr) (c d : Nat) (w : World) (ht : t.length ≤ 1000000) (hl : l.length ≤ 1000000) (hxl : x.clients.val.length ≤ 1000000) (h64 : L64 (l.map lgPosV))
    (hrt : Rd w A 5 (t.map encInstV)) (hgt : ∀ x ∈ t, x.moves.val.length ≤ 1048576 ∧ GoodI w x) (hr : Rd w B 3 (l.map encPosV)) (hg : ∀ x ∈ l, GoodPosV w x) (hx : GoodA w x) :
    Calls Try.prog 143 #[.slice A t.length c, .slice B l.length d, .agg #[.int .i64 x.id, .int .i64 x.member, .int .i64 x.kind, .slice x.clients.A x.clients.val.length x.clients.c], .agg #[.int .i64 u.acc, .int .i64 u.cli]] w fun e w' => e = .returned (.tuple #[.int .i64 (nofN t (l.map lgPosV) (lgA x) u), .int .i64 (nofC t (l.map lgPosV) (lgA x) u)]) ∧ Below w.heap.size w w' := by
  have HX := Lib.hid hx
  have hul := unitsN_len (lgA x)
  have hpl := partsN_len (lgA x) u
  have hul2 : (lgA x).clients.length ≤ 1000000 := hxl
  have ci := fun W (h : Below w.heap.size w W) => bookIs l B d W (by omega) (hr.keep h) (fun x hx => (hg x hx).keep h)
  have hib : isPosV l = isK isV (l.map lgPosV) := rfl
  rw [hib] at ci
  have CN := Lib.hid (fun W B2 d2 (h : Below w.heap.size w W) (h2 : Rd W B2 2 ((partsN (lgA x) u).map encUn)) => bookNet l (partsN (lgA x) u) B B2 d d2 W hl (by omega) h64 (hr.keep h) (fun x hx => (hg x hx).keep h) h2)
  have CM := Lib.hid (fun W B2 d2 (h : Below w.heap.size w W) (h2 : Rd W B2 2 ((netL (l.map lgPosV) (partsN (lgA x) u)).map encLeg)) => gridMargin t (netL (l.map lgPosV) (partsN (lgA x) u)) A B2 c d2 W ht (by have := netL_len (l.map lgPosV) (partsN (lgA x) u); omega) (netL64 _ _) (hrt.keep h) (fun x hx => ⟨(hgt x hx).1, (hgt x hx).2.keep h⟩) h2)
  clear hib hr hg hrt hgt hx h64
  cases hk : isK isV (l.map lgPosV)
  · rw [hk] at ci
    have CI := Lib.hid ci
    have HC := Lib.hid (show nofC t (l.map lgPosV) (lgA x) u = 3 from by unfold nofC; rw [hk]; rfl)
    have HN := Lib.hid (nofN_no (show nofC t (l.map lgPosV) (lgA x) u ≠ 0 by rw [HC.out]; decide))
    rw [HC.out, HN.out]
    clear ci hk
    go_enter Try.func143, Try.ntmps143
    go_wp2_with (first | (go_at_call 36; (with_reducible refine (CI.out _ (by (repeat' (first | (with_reducible exact Below.refl _ _) | (with_reducible assumption) | (with_reducible refine Below.alloc ?_ ?_ _) | (with_reducible refine Below.setCell ?_ ?_ _) | (with_reducible refine Below.drew ?_) | (with_reducible refine below_drewN ?_ _) | (with_reducible refine below_via ?_ (by with_reducible assumption) ?_) | omega | (simp; done) | (simp; omega))))).mono ?_); rintro e w1 ⟨rfl, hb1⟩; obtain ⟨fc1, fg1, hc1, hf1, hz1⟩ := bget hb1; (try simp at hz1)) | fail)
    go_ret2
    exact ⟨rfl, by (repeat' (first | (with_reducible exact Below.refl _ _) | (with_reducible assumption) | (with_reducible refine Below.alloc ?_ ?_ _) | (with_reducible refine Below.setCell ?_ ?_ _) | (with_reducible refine Below.drew ?_) | (with_reducible refine below_drewN ?_ _) | (with_reducible refine below_via ?_ (by with_reducible assumption) ?_) | omega | (simp; done) | (simp; omega)))⟩
  rw [hk] at ci
  have CI := Lib.hid ci
  clear ci
  by_cases hin : u ∈ unitsN (lgA x)
  rotate_left
  · have HIN := Lib.hid (decide_eq_false hin)
    have HC := Lib.hid (show nofC t (l.map lgPosV) (lgA x) u = 11 from by unfold nofC; rw [hk, if_pos rfl, if_neg hin])
    have HN := Lib.hid (nofN_no (show nofC t (l.map lgPosV) (lgA x) u ≠ 0 by rw [HC.out]; decide))
    rw [HC.out, HN.out]
    clear hin hk
    go_enter Try.func143, Try.ntmps143
    go_wp2_with (first | (go_at_call 36; (with_reducible refine (CI.out _ (by (repeat' (first | (with_reducible exact Below.refl _ _) | (with_reducible assumption) | (with_reducible refine Below.alloc ?_ ?_ _) | (with_reducible refine Below.setCell ?_ ?_ _) | (with_reducible refine Below.drew ?_) | (with_reducible refine below_drewN ?_ _) | (with_reducible refine below_via ?_ (by with_reducible assumption) ?_) | omega | (simp; done) | (simp; omega))))).mono ?_); rintro e w1 ⟨rfl, hb1⟩; obtain ⟨fc1, fg1, hc1, hf1, hz1⟩ := bget hb1; (try simp at hz1)) | fail)
    go_region_held3 (fun w' => ((w'.cell? ⟨w.heap.size, 0, none⟩ = some (.int .i64 x.id) ∧ w'.cell? ⟨w.heap.size, 1, none⟩ = some (.int .i64 x.member) ∧ w'.cell? ⟨w.heap.size, 2, none⟩ = some (.int .i64 x.kind) ∧ w'.cell? ⟨w.heap.size, 3, none⟩ = some (.slice x.clients.A x.clients.val.length x.clients.c)) ∧ w'.cell? ⟨w.heap.size + 1, 0, none⟩ = some (.int .i64 u.acc) ∧ w'.cell? ⟨w.heap.size + 1, 1, none⟩ = some (.int .i64 u.cli))) (first | (simp [go_sem]; done) | (repeat' (first | (with_reducible assumption) | (with_reducible refine And.intro ?_ ?_) | (with_reducible refine cell_drew ?_) | (with_reducible refine cell_via (by with_reducible assumption) ?_ ?_) | (simp [*]; done) | (simp [go_sem]; done) | (with_reducible refine cell_alloc ?_ ?_) | (with_reducible refine cell_set_far ?_ ?_) | omega | (simp; omega)))) (first | (go_at_call 53; (with_reducible refine (needUnits x _ hxl (HX.out.keep (by (repeat' (first | (with_reducible exact Below.refl _ _) | (with_reducible assumption) | (with_reducible refine Below.alloc ?_ ?_ _) | (with_reducible refine Below.setCell ?_ ?_ _) | (with_reducible refine Below.drew ?_) | (with_reducible refine below_drewN ?_ _) | (with_reducible refine below_via ?_ (by with_reducible assumption) ?_) | omega | (simp; done) | (simp; omega)))))).mono ?_); rintro e w2 ⟨A2, c2, rfl, hrs2, hb2⟩; have HS2 := Lib.hid hrs2.rd; clear hrs2; obtain ⟨fc2, fg2, hc2, hf2, hz2⟩ := bget hb2; (try simp at hz2)) | (go_at_call 110; (with_reducible refine (unContains (unitsN (lgA x)) u A2 c2 _ (by omega) (HS2.out.keep (by (repeat' (first | (with_reducible exact Below.refl _ _) | (with_reducible assumption) | (with_reducible refine Below.alloc ?_ ?_ _) | (with_reducible refine Below.setCell ?_ ?_ _) | (with_reducible refine Below.drew ?_) | (with_reducible refine below_drewN ?_ _) | (with_reducible refine below_via ?_ (by with_reducible assumption) ?_) | omega | (simp; done) | (simp; omega)))))).mono ?_); rw [HIN.out]; rintro e w3 ⟨rfl, hb3⟩; obtain ⟨fc3, fg3, hc3, hf3, hz3⟩ := bget hb3; (try simp at hz3)) | fail)
    all_goals
      go_wp2_with fail
      go_ret2
      exact ⟨rfl, by (repeat' (first | (with_reducible exact Below.refl _ _) | (with_reducible assumption) | (with_reducible refine Below.alloc ?_ ?_ _) | (with_reducible refine Below.setCell ?_ ?_ _) | (with_reducible refine Below.drew ?_) | (with_reducible refine below_drewN ?_ _) | (with_reducible refine below_via ?_ (by with_reducible assumption) ?_) | omega | (simp; done) | (simp; omega)))⟩
  have HIN := Lib.hid (decide_eq_true hin)
  by_cases hn : netC (l.map lgPosV) (partsN (lgA x) u) = 0
  · have HC := Lib.hid (show nofC t (l.map lgPosV) (lgA x) u = marginC t (netL (l.map lgPosV) (partsN (lgA x) u)) from by unfold nofC; rw [hk, if_pos rfl, if_pos hin, if_pos hn])
    have HN := Lib.hid (show nofN t (l.map lgPosV) (lgA x) u = marginN t (netL (l.map lgPosV) (partsN (lgA x) u)) from by unfold nofN; rw [hk, if_pos rfl, if_pos hin, if_pos hn])
    rw [HC.out, HN.out]
    rw [hn] at CN
    clear hin hk hn HC HN
    generalize netL (l.map lgPosV) (partsN (lgA x) u) = M at *
    go_enter Try.func143, Try.ntmps143
    go_wp2_with (first | (go_at_call 36; (with_reducible refine (CI.out _ (by (repeat' (first | (with_reducible exact Below.refl _ _) | (with_reducible assumption) | (with_reducible refine Below.alloc ?_ ?_ _) | (with_reducible refine Below.setCell ?_ ?_ _) | (with_reducible refine Below.drew ?_) | (with_reducible refine below_drewN ?_ _) | (with_reducible refine below_via ?_ (by with_reducible assumption) ?_) | omega | (simp; done) | (simp; omega))))).mono ?_); rintro e w1 ⟨rfl, hb1⟩; obtain ⟨fc1, fg1, hc1, hf1, hz1⟩ := bget hb1; (try simp at hz1)) | fail)
    go_region_held3 (fun w' => ((w'.cell? ⟨w.heap.size, 0, none⟩ = some (.int .i64 x.id) ∧ w'.cell? ⟨w.heap.size, 1, none⟩ = some (.int .i64 x.member) ∧ w'.cell? ⟨w.heap.size, 2, none⟩ = some (.int .i64 x.kind) ∧ w'.cell? ⟨w.heap.size, 3, none⟩ = some (.slice x.clients.A x.clients.val.length x.clients.c)) ∧ w'.cell? ⟨w.heap.size + 1, 0, none⟩ = some (.int .i64 u.acc) ∧ w'.cell? ⟨w.heap.size + 1, 1, none⟩ = some (.int .i64 u.cli))) (first | (simp [go_sem]; done) | (repeat' (first | (with_reducible assumption) | (with_reducible refine And.intro ?_ ?_) | (with_reducible refine cell_drew ?_) | (with_reducible refine cell_via (by with_reducible assumption) ?_ ?_) | (simp [*]; done) | (simp [go_sem]; done) | (with_reducible refine cell_alloc ?_ ?_) | (with_reducible refine cell_set_far ?_ ?_) | omega | (simp; omega)))) (first | (go_at_call 53; (with_reducible refine (needUnits x _ hxl (HX.out.keep (by (repeat' (first | (with_reducible exact Below.refl _ _) | (with_reducible assumption) | (with_reducible refine Below.alloc ?_ ?_ _) | (with_reducible refine Below.setCell ?_ ?_ _) | (with_reducible refine Below.drew ?_) | (with_reducible refine below_drewN ?_ _) | (with_reducible refine below_via ?_ (by with_reducible assumption) ?_) | omega | (simp; done) | (simp; omega)))))).mono ?_); rintro e w2 ⟨A2, c2, rfl, hrs2, hb2⟩; have HS2 := Lib.hid hrs2.rd; clear hrs2; obtain ⟨fc2, fg2, hc2, hf2, hz2⟩ := bget hb2; (try simp at hz2)) | (go_at_call 110; (with_reducible refine (unContains (unitsN (lgA x)) u A2 c2 _ (by omega) (HS2.out.keep (by (repeat' (first | (with_reducible exact Below.refl _ _) | (with_reducible assumption) | (with_reducible refine Below.alloc ?_ ?_ _) | (with_reducible refine Below.setCell ?_ ?_ _) | (with_reducible refine Below.drew ?_) | (with_reducible refine below_drewN ?_ _) | (with_reducible refine below_via ?_ (by with_reducible assumption) ?_) | omega | (simp; done) | (simp; omega)))))).mono ?_); rw [HIN.out]; rintro e w3 ⟨rfl, hb3⟩; obtain ⟨fc3, fg3, hc3, hf3, hz3⟩ := bget hb3; (try simp at hz3)) | fail)
    all_goals
      go_wp2_with (first | (go_at_call 55; (with_reducible refine (needParts x u _ hxl (HX.out.keep (by (repeat' (first | (with_reducible exact Below.refl _ _) | (with_reducible assumption) | (with_reducible refine Below.alloc ?_ ?_ _) | (with_reducible refine Below.setCell ?_ ?_ _) | (with_reducible refine Below.drew ?_) | (with_reducible refine below_drewN ?_ _) | (with_reducible refine below_via ?_ (by with_reducible assumption) ?_) | omega | (simp; done) | (simp; omega)))))).mono ?_); rintro e w4 ⟨A4, c4, rfl, hrs4, hb4⟩; have HS4 := Lib.hid hrs4.rd; clear hrs4; obtain ⟨fc4, fg4, hc4, hf4, hz4⟩ := bget hb4; (try simp at hz4)) | (go_at_call 172; (with_reducible refine (CN.out _ _ _ (by (repeat' (first | (with_reducible exact Below.refl _ _) | (with_reducible assumption) | (with_reducible refine Below.alloc ?_ ?_ _) | (with_reducible refine Below.setCell ?_ ?_ _) | (with_reducible refine Below.drew ?_) | (with_reducible refine below_drewN ?_ _) | (with_reducible refine below_via ?_ (by with_reducible assumption) ?_) | omega | (simp; done) | (simp; omega)))) (HS4.out.keep (by (repeat' (first | (with_reducible exact Below.refl _ _) | (with_reducible assumption) | (with_reducible refine Below.alloc ?_ ?_ _) | (with_reducible refine Below.setCell ?_ ?_ _) | (with_reducible refine Below.drew ?_) | (with_reducible refine below_drewN ?_ _) | (with_reducible refine below_via ?_ (by with_reducible assumption) ?_) | omega | (simp; done) | (simp; omega)))))).mono ?_); rintro e w5 ⟨v5, rfl, hown5, hb5⟩; obtain ⟨A5, c5, hv5, hrs5, hfm5⟩ := hown5.rs; (rw [List.length_map] at hv5); subst hv5; have HS5 := Lib.hid hrs5.rd; clear hown5 hrs5 hfm5; obtain ⟨fc5, fg5, hc5, hf5, hz5⟩ := bget hb5; (try simp at hz5)) | (go_at_call 16; (with_reducible refine (CM.out _ _ _ (by (repeat' (first | (with_reducible exact Below.refl _ _) | (with_reducible assumption) | (with_reducible refine Below.alloc ?_ ?_ _) | (with_reducible refine Below.setCell ?_ ?_ _) | (with_reducible refine Below.drew ?_) | (with_reducible refine below_drewN ?_ _) | (with_reducible refine below_via ?_ (by with_reducible assumption) ?_) | omega | (simp; done) | (simp; omega)))) (HS5.out.keep (by (repeat' (first | (with_reducible exact Below.refl _ _) | (with_reducible assumption) | (with_reducible refine Below.alloc ?_ ?_ _) | (with_reducible refine Below.setCell ?_ ?_ _) | (with_reducible refine Below.drew ?_) | (with_reducible refine below_drewN ?_ _) | (with_reducible refine below_via ?_ (by with_reducible assumption) ?_) | omega | (simp; done) | (simp; omega)))))).mono ?_); rintro e w6 ⟨rfl, hb6⟩; obtain ⟨fc6, fg6, hc6, hf6, hz6⟩ := bget hb6; (try simp at hz6)) | fail)
      go_ret2
      exact ⟨rfl, by (repeat' (first | (with_reducible exact Below.refl _ _) | (with_reducible assumption) | (with_reducible refine Below.alloc ?_ ?_ _) | (with_reducible refine Below.setCell ?_ ?_ _) | (with_reducible refine Below.drew ?_) | (with_reducible refine below_drewN ?_ _) | (with_reducible refine below_via ?_ (by with_reducible assumption) ?_) | omega | (simp; done) | (simp; omega)))⟩
  · have HC := Lib.hid (show nofC t (l.map lgPosV) (lgA x) u = netC (l.map lgPosV) (partsN (lgA x) u) from by unfold nofC; rw [hk, if_pos rfl, if_pos hin, if_neg hn])
    have HN := Lib.hid (nofN_no (show nofC t (l.map lgPosV) (lgA x) u ≠ 0 by rw [HC.out]; exact hn))
    rw [HC.out, HN.out]
    have dn : (netC (l.map lgPosV) (partsN (lgA x) u) != 0) = true := by simpa using hn
    have dn2 : (netC (l.map lgPosV) (partsN (lgA x) u) == 0) = false := by simpa using hn
    clear hin hk hn HC HN
    generalize netL (l.map lgPosV) (partsN (lgA x) u) = M at *
    generalize netC (l.map lgPosV) (partsN (lgA x) u) = code at *
    go_enter Try.func143, Try.ntmps143
    go_wp2_with (first | (go_at_call 36; (with_reducible refine (CI.out _ (by (repeat' (first | (with_reducible exact Below.refl _ _) | (with_reducible assumption) | (with_reducible refine Below.alloc ?_ ?_ _) | (with_reducible refine Below.setCell ?_ ?_ _) | (with_reducible refine Below.drew ?_) | (with_reducible refine below_drewN ?_ _) | (with_reducible refine below_via ?_ (by with_reducible assumption) ?_) | omega | (simp; done) | (simp; omega))))).mono ?_); rintro e w1 ⟨rfl, hb1⟩; obtain ⟨fc1, fg1, hc1, hf1, hz1⟩ := bget hb1; (try simp at hz1)) | fail)
    go_region_held3 (fun w' => ((w'.cell? ⟨w.heap.size, 0, none⟩ = some (.int .i64 x.id) ∧ w'.cell? ⟨w.heap.size, 1, none⟩ = some (.int .i64 x.member) ∧ w'.cell? ⟨w.heap.size, 2, none⟩ = some (.int .i64 x.kind) ∧ w'.cell? ⟨w.heap.size, 3, none⟩ = some (.slice x.clients.A x.clients.val.length x.clients.c)) ∧ w'.cell? ⟨w.heap.size + 1, 0, none⟩ = some (.int .i64 u.acc) ∧ w'.cell? ⟨w.heap.size + 1, 1, none⟩ = some (.int .i64 u.cli))) (first | (simp [go_sem]; done) | (repeat' (first | (with_reducible assumption) | (with_reducible refine And.intro ?_ ?_) | (with_reducible refine cell_drew ?_) | (with_reducible refine cell_via (by with_reducible assumption) ?_ ?_) | (simp [*]; done) | (simp [go_sem]; done) | (with_reducible refine cell_alloc ?_ ?_) | (with_reducible refine cell_set_far ?_ ?_) | omega | (simp; omega)))) (first | (go_at_call 53; (with_reducible refine (needUnits x _ hxl (HX.out.keep (by (repeat' (first | (with_reducible exact Below.refl _ _) | (with_reducible assumption) | (with_reducible refine Below.alloc ?_ ?_ _) | (with_reducible refine Below.setCell ?_ ?_ _) | (with_reducible refine Below.drew ?_) | (with_reducible refine below_drewN ?_ _) | (with_reducible refine below_via ?_ (by with_reducible assumption) ?_) | omega | (simp; done) | (simp; omega)))))).mono ?_); rintro e w2 ⟨A2, c2, rfl, hrs2, hb2⟩; have HS2 := Lib.hid hrs2.rd; clear hrs2; obtain ⟨fc2, fg2, hc2, hf2, hz2⟩ := bget hb2; (try simp at hz2)) | (go_at_call 110; (with_reducible refine (unContains (unitsN (lgA x)) u A2 c2 _ (by omega) (HS2.out.keep (by (repeat' (first | (with_reducible exact Below.refl _ _) | (with_reducible assumption) | (with_reducible refine Below.alloc ?_ ?_ _) | (with_reducible refine Below.setCell ?_ ?_ _) | (with_reducible refine Below.drew ?_) | (with_reducible refine below_drewN ?_ _) | (with_reducible refine below_via ?_ (by with_reducible assumption) ?_) | omega | (simp; done) | (simp; omega)))))).mono ?_); rw [HIN.out]; rintro e w3 ⟨rfl, hb3⟩; obtain ⟨fc3, fg3, hc3, hf3, hz3⟩ := bget hb3; (try simp at hz3)) | fail)
    all_goals
      go_wp2_with (first | (go_at_call 55; (with_reducible refine (needParts x u _ hxl (HX.out.keep (by (repeat' (first | (with_reducible exact Below.refl _ _) | (with_reducible assumption) | (with_reducible refine Below.alloc ?_ ?_ _) | (with_reducible refine Below.setCell ?_ ?_ _) | (with_reducible refine Below.drew ?_) | (with_reducible refine below_drewN ?_ _) | (with_reducible refine below_via ?_ (by with_reducible assumption) ?_) | omega | (simp; done) | (simp; omega)))))).mono ?_); rintro e w4 ⟨A4, c4, rfl, hrs4, hb4⟩; have HS4 := Lib.hid hrs4.rd; clear hrs4; obtain ⟨fc4, fg4, hc4, hf4, hz4⟩ := bget hb4; (try simp at hz4)) | (go_at_call 172; (with_reducible refine (CN.out _ _ _ (by (repeat' (first | (with_reducible exact Below.refl _ _) | (with_reducible assumption) | (with_reducible refine Below.alloc ?_ ?_ _) | (with_reducible refine Below.setCell ?_ ?_ _) | (with_reducible refine Below.drew ?_) | (with_reducible refine below_drewN ?_ _) | (with_reducible refine below_via ?_ (by with_reducible assumption) ?_) | omega | (simp; done) | (simp; omega)))) (HS4.out.keep (by (repeat' (first | (with_reducible exact Below.refl _ _) | (with_reducible assumption) | (with_reducible refine Below.alloc ?_ ?_ _) | (with_reducible refine Below.setCell ?_ ?_ _) | (with_reducible refine Below.drew ?_) | (with_reducible refine below_drewN ?_ _) | (with_reducible refine below_via ?_ (by with_reducible assumption) ?_) | omega | (simp; done) | (simp; omega)))))).mono ?_); rintro e w5 ⟨v5, rfl, hown5, hb5⟩; obtain ⟨A5, c5, hv5, hrs5, hfm5⟩ := hown5.rs; (rw [List.length_map] at hv5); subst hv5; have HS5 := Lib.hid hrs5.rd; clear hown5 hrs5 hfm5; obtain ⟨fc5, fg5, hc5, hf5, hz5⟩ := bget hb5; (try simp at hz5)) | fail)
      go_ret2
      exact ⟨rfl, by (repeat' (first | (with_reducible exact Below.refl _ _) | (with_reducible assumption) | (with_reducible refine Below.alloc ?_ ?_ _) | (with_reducible refine Below.setCell ?_ ?_ _) | (with_reducible refine Below.drew ?_) | (with_reducible refine below_drewN ?_ _) | (with_reducible refine below_via ?_ (by with_reducible assumption) ?_) | omega | (simp; done) | (simp; omega)))⟩
end Go.Proofs.Ytiidplinmempcaa

/- Layer 20's Insts: a table of instruments that may be, of any. -/
namespace Go.Proofs.Ytiidplinmempcaa
open Go.RowKit
def short9 (x : InstV) : InstV := { x with moves := ⟨x.moves.A, x.moves.c, x.moves.val.take 9⟩ }
theorem good9 {w : World} {x : InstV} (h : GoodI w x) : GoodI w (short9 x) ∧ (short9 x).moves.val.length ≤ 9 := by
  refine ⟨?_, by simp [short9]; omega⟩
  unfold GoodI at *
  have := h.take 9
  rw [← List.map_take] at this
  exact this
def insts10 (l : List InstV) : List InstV := tabInstVN okV ((l.take 10).map short9) 10
theorem put_mem20 {ob : Bool} {t : List InstV} {m x : InstV} (h : x ∈ putInstVL ob t m) : x ∈ t ∨ x = m := by
  unfold putInstVL at h
  split at h
  · unfold insInstV at h
    rcases List.mem_append.1 h with h | h
    · exact .inl ((List.takeWhile_sublist _).subset h)
    · rcases List.mem_cons.1 h with h | h
      · exact .inr h
      · exact .inl ((List.dropWhile_sublist _).subset h)
  · cases h
theorem tab_mem20 (okf : InstV → Bool) (l : List InstV) : ∀ k, ∀ x ∈ tabInstVN okf l k, x ∈ l
  | 0, x, h => by simp [tabInstVN] at h
  | k + 1, x, h => by
    rcases Nat.lt_or_ge k l.length with hk | hk
    · rw [tabInstVN_succ hk] at h
      unfold stepInstV at h
      split at h
      · rcases put_mem20 h with h | h
        · exact tab_mem20 okf l k x h
        · subst h; exact List.getElem_mem hk
      · exact tab_mem20 okf l k x h
    · have e : tabInstVN okf l (k + 1) = tabInstVN okf l k := by unfold tabInstVN; rw [List.take_of_length_le (by omega), List.take_of_length_le hk]
      rw [e] at h
      exact tab_mem20 okf l k x h
theorem insts_good {w : World} {l : List InstV} (h : ∀ x ∈ l, GoodI w x) : ∀ x ∈ insts10 l, x.moves.val.length ≤ 9 ∧ GoodI w x := by
  intro x hx
  have h1 := tab_mem20 _ _ _ x hx
  obtain ⟨y, hy, rfl⟩ := List.mem_map.1 h1
  have := good9 (h y (List.mem_of_mem_take hy))
  exact ⟨this.2, this.1⟩
theorem insts_len (l : List InstV) : (insts10 l).length ≤ 10 := tabInstVN_len _ _ _
theorem row5 (a b c d : Int) (A : Option Addr) (n m : Nat) : ∀ r ∈ [[Value.int .i64 a, .int .i64 b, .int .i64 c, .int .i64 d, .slice A n m]], r.length = 5 ∧ ∀ u ∈ r, u.oneCell' = true := by
  intro r hr
  simp only [List.mem_singleton] at hr
  subst hr
  refine ⟨rfl, ?_⟩
  simp only [List.mem_cons, List.not_mem_nil, or_false, forall_eq_or_imp, forall_eq]
  exact ⟨rfl, rfl, rfl, rfl, rfl⟩
set_option maxRecDepth 100000 in
set_option maxHeartbeats 8000000 in
theorem law20Insts (l : List InstV) (A : Option Addr) (c : Nat) (w : World) (hl : l.length ≤ maxLen) (hr : Rd w A 5 (l.map encInstV)) (hg : ∀ x ∈ l, GoodI w x) :
    Calls Try.prog 12 #[.slice A l.length c] w fun e w' => ∃ v, e = .returned v ∧ Own w' w.heap.size 112 5 v ((insts10 l).map encInstV) ∧ Below w.heap.size w w' := by
  have HR := Lib.hid hr
  have HG := Lib.hid hg
  have hml : (l.length : Int) ≤ 9223372036854775807 := by unfold maxLen at hl; omega
  have htb := fun (W : World) (A : Option Addr) (c : Nat) (hb : Below w.heap.size w W) (hrs : Rs W 5 (((l.take 10).map short9).map encInstV) A c) => ref13Table okV ((l.take 10).map short9) A c W (by rw [List.length_map, List.length_take]; unfold maxLen; omega) hrs.rd (fun m hm W' hW' => ref13IsV m W' (by
    obtain ⟨y, hy, rfl⟩ := List.mem_map.1 hm
    have := (good9 (hg y (List.mem_of_mem_take hy))).2; omega) (by
    obtain ⟨y, hy, rfl⟩ := List.mem_map.1 hm
    exact (good9 (hg y (List.mem_of_mem_take hy))).1.keep (hb.trans (hW'.mono hb.size))))
  obtain ⟨fl, hfl⟩ : ∃ fl, fl = (l.take 10).map short9 := ⟨_, rfl⟩
  have hin : insts10 l = tabInstVN okV fl 10 := by unfold insts10; rw [hfl]
  rw [← hfl] at htb
  rw [hin]
  have HFL := Lib.hid hfl
  have HTB := Lib.hid htb
  clear hr hg hl htb hfl hin
  go_enter Try.func12, Try.ntmps12
  go_wp2_with fail
  go_loopw [3, 4] (fun v i wr => ∃ q : Nat, q ≤ l.length ∧ q ≤ 10 ∧ i = .int .i64 q ∧ Own wr w.heap.size 112 5 v (((l.take q).map short9).map encInstV) ∧ Below w.heap.size w wr) (fun _ i _ => l.length - (intOf i).toNat)
  case atStart => exact ⟨0, Nat.zero_le _, Nat.zero_le _, rfl, Own.nil _ _ _ _, by (repeat' (first | (with_reducible exact Below.refl _ _) | (with_reducible assumption) | (with_reducible refine Below.alloc ?_ ?_ _) | (with_reducible refine Below.setCell ?_ ?_ _) | (with_reducible refine Below.drew ?_) | (with_reducible refine below_drewN ?_ _) | (with_reducible refine below_via ?_ (by with_reducible assumption) ?_) | omega | (simp; done) | (simp; omega)))⟩
  case round =>
    obtain ⟨q, hq, hq10, rfl, hown, hbl⟩ := hrel
    have Hown := Lib.hid hown
    have Hbl := Lib.hid hbl
    have hz := hbl.size
    clear hown hbl
    by_cases hgo : q < l.length ∧ q < 10
    · obtain ⟨hlt, h10⟩ := hgo
      have hqi : (q : Int) < (l.length : Int) := by omega
      have dl : decide ((q : Int) < (l.length : Int)) = true := by simpa using hlt
      have d10 : decide ((q : Int) < 10) = true := by simp; omega
      have hx := HG.out l[q] (List.getElem_mem hlt)
      have hlen : ((l.take q).map short9).length ≤ 10 := by simp; omega
      obtain ⟨b, o, rfl, hb, hc⟩ := HR.out q (encInstV l[q]) (by simp [hlt])
      have e0 := (Hbl.out.cell (p := ⟨b, o + q * 5 + 0, none⟩) hb).trans (hc 0 _ rfl)
      have e1 := (Hbl.out.cell (p := ⟨b, o + q * 5 + 1, none⟩) hb).trans (hc 1 _ rfl)
      have e2 := (Hbl.out.cell (p := ⟨b, o + q * 5 + 2, none⟩) hb).trans (hc 2 _ rfl)
      have e3 := (Hbl.out.cell (p := ⟨b, o + q * 5 + 3, none⟩) hb).trans (hc 3 _ rfl)
      have e4 := (Hbl.out.cell (p := ⟨b, o + q * 5 + 4, none⟩) hb).trans (hc 4 _ rfl)
      simp only [Nat.add_zero] at e0
      clear hc
      have hcap := hx.cap
      have hroom := hx.room
      rw [List.length_map] at hcap
      unfold maxLen at hroom
      by_cases h9 : 9 < l[q].moves.val.length
      · have d9 : decide (9 < (l[q].moves.val.length : Int)) = true := by simp; omega
        obtain ⟨bm, om, hA, hbm, _⟩ := hx.rd 0 (encI (l[q].moves.val[0]'(by omega))) (by rw [List.getElem?_map, List.getElem?_eq_getElem (by omega)]; rfl)
        rw [hA] at e4
        have HS : Hid (((l.take (q + 1)).map short9).map encInstV = ((l.take q).map short9).map encInstV ++ [[.int .i64 l[q].id, .int .i64 l[q].mult, .int .i64 l[q].price, .int .i64 l[q].next, .slice (some ⟨bm, om, none⟩) 9 l[q].moves.c]]) := by
          unfold Hid
          rw [map_snoc hlt short9, List.map_append]
          congr 1
          simp [encInstV, short9, hA]
          omega
        clear hx hA
        have n9 : 9 ≤ l[q].moves.c := by omega
        have n9i : (9 : Int) ≤ (l[q].moves.c : Int) := by omega
        go_wp2_with (at_builtin; refine wpList_app rfl _ _ _ rfl elInstV w.heap.size _ _ rfl (Hown.out.keep (by (repeat' (first | (with_reducible exact Below.refl _ _) | (with_reducible assumption) | (with_reducible refine Below.alloc ?_ ?_ _) | (with_reducible refine Below.setCell ?_ ?_ _) | (with_reducible refine Below.drew ?_) | (with_reducible refine below_drewN ?_ _) | (with_reducible refine below_via ?_ (by with_reducible assumption) ?_) | omega | (simp; done) | (simp; omega))))) (some ⟨_, 0, none⟩) 1 1 rfl [[.int .i64 l[q].id, .int .i64 l[q].mult, .int .i64 l[q].price, .int .i64 l[q].next, .slice (some ⟨bm, om, none⟩) 9 l[q].moves.c]] rfl (fun h => by cases h) (rd_oneN (by simp)) (row5 _ _ _ _ _ _ _) (by unfold maxLen; simp; omega) (by simp; omega) (by first | omega | (simp; done) | (simp; omega)) ?_; intro v3 w3 hown3 hb3)
        go_roundw
        case rel => exact ⟨q + 1, by omega, by omega, by go_num, by rw [HS.out]; exact hown3, by have hbl := Hbl.out; (repeat' (first | (with_reducible exact Below.refl _ _) | (with_reducible assumption) | (with_reducible refine Below.alloc ?_ ?_ _) | (with_reducible refine Below.setCell ?_ ?_ _) | (with_reducible refine Below.drew ?_) | (with_reducible refine below_drewN ?_ _) | (with_reducible refine below_via ?_ (by with_reducible assumption) ?_) | omega | (simp; done) | (simp; omega)))⟩
        case measure => simp [intOf]; omega
      · have d9 : decide (9 < (l[q].moves.val.length : Int)) = false := by simp; omega
        have HS : Hid (((l.take (q + 1)).map short9).map encInstV = ((l.take q).map short9).map encInstV ++ [[.int .i64 l[q].id, .int .i64 l[q].mult, .int .i64 l[q].price, .int .i64 l[q].next, .slice l[q].moves.A l[q].moves.val.length l[q].moves.c]]) := by
          unfold Hid
          rw [map_snoc hlt short9, List.map_append]
          congr 1
          simp [encInstV, short9]
          omega
        clear hx
        go_wp2_with (at_builtin; refine wpList_app rfl _ _ _ rfl elInstV w.heap.size _ _ rfl (Hown.out.keep (by (repeat' (first | (with_reducible exact Below.refl _ _) | (with_reducible assumption) | (with_reducible refine Below.alloc ?_ ?_ _) | (with_reducible refine Below.setCell ?_ ?_ _) | (with_reducible refine Below.drew ?_) | (with_reducible refine below_drewN ?_ _) | (with_reducible refine below_via ?_ (by with_reducible assumption) ?_) | omega | (simp; done) | (simp; omega))))) (some ⟨_, 0, none⟩) 1 1 rfl [[.int .i64 l[q].id, .int .i64 l[q].mult, .int .i64 l[q].price, .int .i64 l[q].next, .slice l[q].moves.A l[q].moves.val.length l[q].moves.c]] rfl (fun h => by cases h) (rd_oneN (by simp)) (row5 _ _ _ _ _ _ _) (by unfold maxLen; simp; omega) (by simp; omega) (by first | omega | (simp; done) | (simp; omega)) ?_; intro v3 w3 hown3 hb3)
        go_roundw
        case rel => exact ⟨q + 1, by omega, by omega, by go_num, by rw [HS.out]; exact hown3, by have hbl := Hbl.out; (repeat' (first | (with_reducible exact Below.refl _ _) | (with_reducible assumption) | (with_reducible refine Below.alloc ?_ ?_ _) | (with_reducible refine Below.setCell ?_ ?_ _) | (with_reducible refine Below.drew ?_) | (with_reducible refine below_drewN ?_ _) | (with_reducible refine below_via ?_ (by with_reducible assumption) ?_) | omega | (simp; done) | (simp; omega)))⟩
        case measure => simp [intOf]; omega
    · have HT := Lib.hid (show (l.take q).map short9 = fl from by
        rw [HFL.out]
        congr 1
        rcases Nat.lt_or_ge q 10 with h | h
        · rw [List.take_of_length_le (by omega), List.take_of_length_le (by omega)]
        · rw [show q = 10 by omega])
      have hown := Hown.out
      rw [HT.out] at hown
      obtain ⟨A4, c4, rfl, hrs4, _⟩ := own_formInstV hown
      have HRS := Lib.hid hrs4
      clear hown hrs4
      by_cases hlt : q < l.length
      · have dl : decide ((q : Int) < (l.length : Int)) = true := by simpa using hlt
        have d10 : decide ((q : Int) < 10) = false := by simp; omega
        go_wp2_with (go_at_call 70; (with_reducible refine (HTB.out _ _ _ (by have hbl := Hbl.out; (repeat' (first | (with_reducible exact Below.refl _ _) | (with_reducible assumption) | (with_reducible refine Below.alloc ?_ ?_ _) | (with_reducible refine Below.setCell ?_ ?_ _) | (with_reducible refine Below.drew ?_) | (with_reducible refine below_drewN ?_ _) | (with_reducible refine below_via ?_ (by with_reducible assumption) ?_) | omega | (simp; done) | (simp; omega)))) (by have h1 := HRS.out; exact h1)).mono ?_); rintro e w5 ⟨v5, rfl, hown5, hb5⟩; obtain ⟨fc5, fg5, hc5, hf5, hz5⟩ := bget hb5; (try simp at hz5))
        go_ret
        exact ⟨_, rfl, hown5.mono (by omega), by have hbl := Hbl.out; (repeat' (first | (with_reducible exact Below.refl _ _) | (with_reducible assumption) | (with_reducible refine Below.alloc ?_ ?_ _) | (with_reducible refine Below.setCell ?_ ?_ _) | (with_reducible refine Below.drew ?_) | (with_reducible refine below_drewN ?_ _) | (with_reducible refine below_via ?_ (by with_reducible assumption) ?_) | omega | (simp; done) | (simp; omega)))⟩
      · have dl : decide ((q : Int) < (l.length : Int)) = false := by simpa using hlt
        go_wp2_with (go_at_call 70; (with_reducible refine (HTB.out _ _ _ (by have hbl := Hbl.out; (repeat' (first | (with_reducible exact Below.refl _ _) | (with_reducible assumption) | (with_reducible refine Below.alloc ?_ ?_ _) | (with_reducible refine Below.setCell ?_ ?_ _) | (with_reducible refine Below.drew ?_) | (with_reducible refine below_drewN ?_ _) | (with_reducible refine below_via ?_ (by with_reducible assumption) ?_) | omega | (simp; done) | (simp; omega)))) (by have h1 := HRS.out; exact h1)).mono ?_); rintro e w5 ⟨v5, rfl, hown5, hb5⟩; obtain ⟨fc5, fg5, hc5, hf5, hz5⟩ := bget hb5; (try simp at hz5))
        go_ret
        exact ⟨_, rfl, hown5.mono (by omega), by have hbl := Hbl.out; (repeat' (first | (with_reducible exact Below.refl _ _) | (with_reducible assumption) | (with_reducible refine Below.alloc ?_ ?_ _) | (with_reducible refine Below.setCell ?_ ?_ _) | (with_reducible refine Below.drew ?_) | (with_reducible refine below_drewN ?_ _) | (with_reducible refine below_via ?_ (by with_reducible assumption) ?_) | omega | (simp; done) | (simp; omega)))⟩
end Go.Proofs.Ytiidplinmempcaa

/- Layer 24's laws: lives. -/
namespace Go.Proofs.Ytiidplinmempcaa
open Go.RowKit
theorem rd_inst1 {W : World} {g : Nat} {x : InstV} (hg : g < W.heap.size) (c0 : W.cell? ⟨g, 0, none⟩ = some (.int .i64 x.id)) (c1 : W.cell? ⟨g, 1, none⟩ = some (.int .i64 x.mult)) (c2 : W.cell? ⟨g, 2, none⟩ = some (.int .i64 x.price)) (c3 : W.cell? ⟨g, 3, none⟩ = some (.int .i64 x.next)) (c4 : W.cell? ⟨g, 4, none⟩ = some (.slice x.moves.A x.moves.val.length x.moves.c)) : Rd W (some ⟨g, 0, none⟩) 5 ([x].map encInstV) := by
  intro i r hr
  match i with
  | 0 =>
    simp [encInstV] at hr; subst hr
    refine ⟨g, 0, rfl, hg, fun j v hv => ?_⟩
    match j with
    | 0 => simp at hv; subst hv; simpa using c0
    | 1 => simp at hv; subst hv; simpa using c1
    | 2 => simp at hv; subst hv; simpa using c2
    | 3 => simp at hv; subst hv; simpa using c3
    | 4 => simp at hv; subst hv; simpa using c4
    | j + 5 => simp at hv
  | i + 1 => simp at hr
theorem rs_ints2 {W : World} {g : Nat} {a b : Int} (hg : g < W.heap.size) (c0 : W.cell? ⟨g, 0, none⟩ = some (.int .i64 a)) (c1 : W.cell? ⟨g, 1, none⟩ = some (.int .i64 b)) : Rs W 1 ([a, b].map encI) (some ⟨g, 0, none⟩) 2 := by
  refine ⟨fun i r hr => ⟨g, 0, rfl, hg, fun j v hv => ?_⟩, by simp, by unfold maxLen; omega, fun e => by cases e⟩
  match i with
  | 0 =>
    simp [encI] at hr; subst hr
    match j with
    | 0 => simp at hv; subst hv; simpa using c0
    | j + 1 => simp at hv
  | 1 =>
    simp [encI] at hr; subst hr
    match j with
    | 0 => simp at hv; subst hv; simpa using c1
    | j + 1 => simp at hv
  | i + 2 => simp at hr
def liveI : Inst := ⟨1, 10, 0, 0, [2, -3]⟩
def liveV (A : Option Addr) (c : Nat) : InstV := ⟨1, 10, 0, 0, ⟨A, c, [2, -3]⟩⟩
theorem live_find (A : Option Addr) (c : Nat) : findInstV [liveV A c] 1 = (liveV A c, true) := rfl
theorem live_loss (A : Option Addr) (c : Nat) (q : Int) (hq : q ≠ 0) : lossC [liveV A c] [⟨1, q⟩] = 0 ∧ lossN [liveV A c] [⟨1, q⟩] = fun s => - shockI liveI q s := by
  have h1 : isV [⟨1, q⟩] = true := by simp [isV, isF, hq]
  have h2 : known [liveV A c] [⟨1, q⟩] = true := by unfold known; simp only [List.all_cons, List.all_nil, live_find, Bool.and_true]
  refine ⟨by unfold lossC; rw [h1, h2]; rfl, funext fun s => ?_⟩
  unfold lossN
  rw [h1, h2]
  have h3 : gnN [liveV A c] [⟨1, q⟩] s = shockI liveI q s := by unfold gnN legS; simp only [List.map_cons, List.map_nil, live_find, List.sum_cons, List.sum_nil, Int.add_zero]; rfl
  rw [h3]; rfl
theorem live_margin (A : Option Addr) (c : Nat) : marginN [liveV A c] [⟨1, 4⟩] = 120 ∧ marginC [liveV A c] [⟨1, 4⟩] = 0 ∧ marginN [liveV A c] [⟨1, -4⟩] = 80 ∧ marginC [liveV A c] [⟨1, -4⟩] = 0 ∧ (mostN (lossN [liveV A c] [⟨1, 4⟩]) 8).2 = 1 ∧ lossC [liveV A c] [⟨1, 4⟩] = 0 := by
  obtain ⟨a1, a2⟩ := live_loss A c 4 (by decide)
  obtain ⟨b1, b2⟩ := live_loss A c (-4) (by decide)
  unfold marginN marginC
  rw [a1, a2, b1, b2]
  decide
set_option maxRecDepth 100000 in
set_option maxHeartbeats 8000000 in
theorem law24lives (w : World) : Calls Try.prog 22 #[] w fun e w' => e = .returned (.bool true) ∧ Below w.heap.size w w' := by
  obtain ⟨W0, hW0⟩ : ∃ W0, W0 = (w.alloc (.cells #[.int .i64 2, .int .i64 (-3)] 2)).alloc (.cells #[.int .i64 1, .int .i64 10, .int .i64 0, .int .i64 0, .slice (some ⟨w.heap.size, 0, none⟩) 2 2] 112) := ⟨_, rfl⟩
  have hrt : Rd W0 (some ⟨w.heap.size + 1, 0, none⟩) 5 ([liveV (some ⟨w.heap.size, 0, none⟩) 2].map encInstV) := by
    refine rd_inst1 (by rw [hW0]; simp) ?_ ?_ ?_ ?_ ?_ <;> (rw [hW0]; simp [go_sem, liveV])
  have hgt : ∀ x ∈ [liveV (some ⟨w.heap.size, 0, none⟩) 2], x.moves.val.length ≤ 1048576 ∧ GoodI W0 x := by
    intro x hx
    rw [List.mem_singleton] at hx
    subst hx
    refine ⟨by simp [liveV], rs_ints2 (a := 2) (b := -3) (by rw [hW0]; simp; omega) ?_ ?_⟩ <;> (rw [hW0]; simp [go_sem])
  obtain ⟨m1, m2, m3, m4, m5, m6⟩ := live_margin (some ⟨w.heap.size, 0, none⟩) 2
  have c1 := fun W g (h : Below W0.heap.size W0 W) (hr : Rd W (some ⟨g, 0, none⟩) 2 ([(⟨1, 4⟩ : Leg)].map encLeg)) => gridMargin [liveV (some ⟨w.heap.size, 0, none⟩) 2] [⟨1, 4⟩] (some ⟨w.heap.size + 1, 0, none⟩) (some ⟨g, 0, none⟩) 1 1 W (by simp) (by simp) (by intro y hy; simp at hy; subst hy; simp [In64]) (hrt.keep h) (fun x hx => ⟨(hgt x hx).1, (hgt x hx).2.keep h⟩) hr
  have c2 := fun W g (h : Below W0.heap.size W0 W) (hr : Rd W (some ⟨g, 0, none⟩) 2 ([(⟨1, -4⟩ : Leg)].map encLeg)) => gridMargin [liveV (some ⟨w.heap.size, 0, none⟩) 2] [⟨1, -4⟩] (some ⟨w.heap.size + 1, 0, none⟩) (some ⟨g, 0, none⟩) 1 1 W (by simp) (by simp) (by intro y hy; simp at hy; subst hy; simp [In64]) (hrt.keep h) (fun x hx => ⟨(hgt x hx).1, (hgt x hx).2.keep h⟩) hr
  have c3 := fun W g (h : Below W0.heap.size W0 W) (hr : Rd W (some ⟨g, 0, none⟩) 2 ([(⟨1, 4⟩ : Leg)].map encLeg)) => gridWorstAt [liveV (some ⟨w.heap.size, 0, none⟩) 2] [⟨1, 4⟩] (some ⟨w.heap.size + 1, 0, none⟩) (some ⟨g, 0, none⟩) 1 1 W (by simp) (by simp) (by intro y hy; simp at hy; subst hy; simp [In64]) (hrt.keep h) (fun x hx => ⟨(hgt x hx).1, (hgt x hx).2.keep h⟩) hr
  rw [m1, m2] at c1
  rw [m3, m4] at c2
  rw [m5, m6] at c3
  simp only [List.length_cons, List.length_nil, Nat.zero_add] at c1 c2 c3
  rw [hW0] at c1 c2 c3
  have C1 := Lib.hid c1
  have C2 := Lib.hid c2
  have C3 := Lib.hid c3
  clear c1 c2 c3 hrt hgt m1 m2 m3 m4 m5 m6 hW0
  go_enter Try.func22, Try.ntmps22
  go_wp2_with (first | (go_at_call 16; (with_reducible refine (C1.out _ _ ?_ ?_).mono ?_); (focus ((repeat' (first | (with_reducible exact Below.refl _ _) | (with_reducible assumption) | (with_reducible refine Below.alloc ?_ ?_ _) | (with_reducible refine Below.setCell ?_ ?_ _) | (with_reducible refine Below.drew ?_) | (with_reducible refine below_drewN ?_ _) | (with_reducible refine below_via ?_ (by with_reducible assumption) ?_) | omega | (simp; done) | (simp; omega))); done)); (focus (refine rsOne _ (x := ⟨1, 4⟩) ?_ ?_ ?_; (focus (simp; done)); (focus (simp [go_sem]; done)); (focus (simp [go_sem]; done)))); rintro e w1 ⟨rfl, hb1⟩; obtain ⟨fc1, fg1, hc1, hf1, hz1⟩ := bget hb1; (try simp at hz1)) | (go_at_call 16; (with_reducible refine (C2.out _ _ ?_ ?_).mono ?_); (focus ((repeat' (first | (with_reducible exact Below.refl _ _) | (with_reducible assumption) | (with_reducible refine Below.alloc ?_ ?_ _) | (with_reducible refine Below.setCell ?_ ?_ _) | (with_reducible refine Below.drew ?_) | (with_reducible refine below_drewN ?_ _) | (with_reducible refine below_via ?_ (by with_reducible assumption) ?_) | omega | (simp; done) | (simp; omega))); done)); (focus (refine rsOne _ (x := ⟨1, -4⟩) ?_ ?_ ?_; (focus (simp; done)); (focus (simp [go_sem]; done)); (focus (simp [go_sem]; done)))); rintro e w2 ⟨rfl, hb2⟩; obtain ⟨fc2, fg2, hc2, hf2, hz2⟩ := bget hb2; (try simp at hz2)) | (go_at_call 18; (with_reducible refine (C3.out _ _ ?_ ?_).mono ?_); (focus ((repeat' (first | (with_reducible exact Below.refl _ _) | (with_reducible assumption) | (with_reducible refine Below.alloc ?_ ?_ _) | (with_reducible refine Below.setCell ?_ ?_ _) | (with_reducible refine Below.drew ?_) | (with_reducible refine below_drewN ?_ _) | (with_reducible refine below_via ?_ (by with_reducible assumption) ?_) | omega | (simp; done) | (simp; omega))); done)); (focus (refine rsOne _ (x := ⟨1, 4⟩) ?_ ?_ ?_; (focus (simp; done)); (focus (simp [go_sem]; done)); (focus (simp [go_sem]; done)))); rintro e w3 ⟨rfl, hb3⟩; obtain ⟨fc3, fg3, hc3, hf3, hz3⟩ := bget hb3; (try simp at hz3)) | fail)
  go_ret
  exact ⟨rfl, by (repeat' (first | (with_reducible exact Below.refl _ _) | (with_reducible assumption) | (with_reducible refine Below.alloc ?_ ?_ _) | (with_reducible refine Below.setCell ?_ ?_ _) | (with_reducible refine Below.drew ?_) | (with_reducible refine below_drewN ?_ _) | (with_reducible refine below_via ?_ (by with_reducible assumption) ?_) | omega | (simp; done) | (simp; omega)))⟩
end Go.Proofs.Ytiidplinmempcaa
