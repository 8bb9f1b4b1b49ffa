/- Joined: Ned1, UnL. -/
import Derived.Test.YtalgfpegaobacaaGreatKz11
import Derived.Test.YtalgfpegaobacaaGreatKz13
import Derived.Test.YtalgfpegaobacaaGreatKz7
import Derived.Test.YtalgfpegaobacaaGreatKz8
import Derived.Test.YtalgfpegaobacaaGreatKz6
import Derived.Test.YtalgfpegaobacaaGreatKz10
import Derived.Outline
import Derived.Test.YtalgfpegaobacaaGreatRows
import Derived.WalkKit
import Derived.WalkSpells
import Derived.WalkLawsBesides
import Derived.BigQuiet
import Derived.Deep.RegionHeld3
import Derived.Deep.RegionLaw
import Derived.Handy
/- Margin units: contracts of need.whole, Units, Parts, Unit; the law's Short. -/
namespace Go.Proofs.YtalgfpegaobacaaGreat
open Go.RowKit
theorem acctUnitsN (x : AcctV) (w : World) (hl : x.clients.val.length ≤ 1048576) (hg : GoodA w x) :
    Calls Tryz.prog 52 #[.agg #[.int .i64 x.id, .int .i64 x.member, .int .i64 x.kind, .slice x.clients.A x.clients.val.length x.clients.c]] w fun e w' => ∃ A c, e = .returned (.slice A (unitsA (lgA x)).length c) ∧ Rs w' 2 ((unitsA (lgA x)).map encUn) A c ∧ Below w.heap.size w w' :=
  (acctUnits (lgA x) x.clients.A x.clients.c w hl hg.rd).mono fun e w' ⟨v, h1, ⟨A, c, h2, h3⟩, h4⟩ => ⟨A, c, by rw [h1, h2], h3, h4⟩
set_option maxRecDepth 100000 in
set_option maxHeartbeats 1000000 in
theorem needWhole (x : AcctV) (w : World) :
    Calls Tryz.prog 70 #[.agg #[.int .i64 x.id, .int .i64 x.member, .int .i64 x.kind, .slice x.clients.A x.clients.val.length x.clients.c]] w fun e w' => e = .returned (.agg #[.int .i64 x.id, .int .i64 0]) ∧ Below w.heap.size w w' := by
  go_enter Tryz.func70, Tryz.ntmps70
  go_wp2_with fail
  refine bodyPost_ret (by simp [results, Tryz.results70, go_sem, ]; try rfl) rfl ⟨rfl, ?_⟩
  (repeat' (first | (with_reducible exact Below.refl _ _) | (with_reducible assumption) | (with_reducible refine Below.alloc ?_ ?_ _) | (with_reducible refine Below.setCell ?_ ?_ _) | (with_reducible refine Below.drew ?_) | (with_reducible refine below_drewN ?_ _) | (with_reducible refine below_via ?_ (by with_reducible assumption) ?_) | omega | (simp; done) | (simp; omega)))
set_option maxRecDepth 100000 in
set_option maxHeartbeats 4000000 in
theorem needUnits (x : AcctV) (w : World) (hl : x.clients.val.length ≤ 1000000) (hg : GoodA w x) :
    Calls Tryz.prog 38 #[.agg #[.int .i64 x.id, .int .i64 x.member, .int .i64 x.kind, .slice x.clients.A x.clients.val.length x.clients.c]] w fun e w' => ∃ A c, e = .returned (.slice A (unitsN (lgA x)).length c) ∧ Rs w' 2 ((unitsN (lgA x)).map encUn) A c ∧ Below w.heap.size w w' := by
  have HG := Lib.hid hg
  clear hg
  by_cases hk : x.kind = 2
  · have b1 : (x.kind == 2) = true := by simpa using hk
    have HU := Lib.hid (show unitsN (lgA x) = [⟨x.id, 0⟩] from if_pos hk)
    rw [HU.out]
    clear hk
    go_enter Tryz.func38, Tryz.ntmps38
    go_wp2_with (first | (go_at_call 70; (with_reducible refine (needWhole x _).mono ?_); rintro e w1 ⟨rfl, hb1⟩; obtain ⟨fc1, fg1, hc1, hf1, hz1⟩ := bget hb1; (try simp at hz1)) | fail)
    go_ret
    exact ⟨_, _, rfl, rd_lit (by simp) (by simp [go_sem]) (by simp [go_sem]), by (repeat' (first | (with_reducible exact Below.refl _ _) | (with_reducible assumption) | (with_reducible refine Below.alloc ?_ ?_ _) | (with_reducible refine Below.setCell ?_ ?_ _) | (with_reducible refine Below.drew ?_) | (with_reducible refine below_drewN ?_ _) | (with_reducible refine below_via ?_ (by with_reducible assumption) ?_) | omega | (simp; done) | (simp; omega)))⟩
  · have b1 : (x.kind == 2) = false := by simpa using hk
    have HU := Lib.hid (show unitsN (lgA x) = unitsA (lgA x) from if_neg hk)
    rw [HU.out]
    clear hk
    go_enter Tryz.func38, Tryz.ntmps38
    go_wp2_with (first | (go_at_call 52; (with_reducible refine (acctUnitsN x _ (by omega) (HG.out.keep (by (repeat' (first | (with_reducible exact Below.refl _ _) | (with_reducible assumption) | (with_reducible refine Below.alloc ?_ ?_ _) | (with_reducible refine Below.setCell ?_ ?_ _) | (with_reducible refine Below.drew ?_) | (with_reducible refine below_drewN ?_ _) | (with_reducible refine below_via ?_ (by with_reducible assumption) ?_) | omega | (simp; done) | (simp; omega)))))).mono ?_); rintro e w1 ⟨A1, c1, rfl, hrs1, hb1⟩; have HS1 := Lib.hid hrs1; clear hrs1; obtain ⟨fc1, fg1, hc1, hf1, hz1⟩ := bget hb1; (try simp at hz1)) | fail)
    go_ret
    exact ⟨_, _, rfl, HS1.out, by (repeat' (first | (with_reducible exact Below.refl _ _) | (with_reducible assumption) | (with_reducible refine Below.alloc ?_ ?_ _) | (with_reducible refine Below.setCell ?_ ?_ _) | (with_reducible refine Below.drew ?_) | (with_reducible refine below_drewN ?_ _) | (with_reducible refine below_via ?_ (by with_reducible assumption) ?_) | omega | (simp; done) | (simp; omega)))⟩
set_option maxRecDepth 100000 in
set_option maxHeartbeats 8000000 in
theorem needParts (x : AcctV) (u : Un) (w : World) (hl : x.clients.val.length ≤ 1000000) (hg : GoodA w x) :
    Calls Tryz.prog 23 #[.agg #[.int .i64 x.id, .int .i64 x.member, .int .i64 x.kind, .slice x.clients.A x.clients.val.length x.clients.c], .agg #[.int .i64 u.acc, .int .i64 u.cli]] w fun e w' => ∃ A c, e = .returned (.slice A (partsN (lgA x) u).length c) ∧ Rs w' 2 ((partsN (lgA x) u).map encUn) A c ∧ Below w.heap.size w w' := by
  have HG := Lib.hid hg
  have hul := unitsN_len (lgA x)
  have hul2 : (lgA x).clients.length ≤ 1000000 := hl
  clear hg
  by_cases hin : u ∈ unitsN (lgA x)
  · have HIN := Lib.hid (decide_eq_true hin)
    by_cases hk : x.kind = 2
    · have b1 : (x.kind == 2) = true := by simpa using hk
      have HU := Lib.hid (show partsN (lgA x) u = unitsA (lgA x) from by unfold partsN; rw [if_pos hin, if_pos (show (lgA x).kind = 2 from hk)])
      rw [HU.out]
      clear hk hin
      go_enter Tryz.func23, Tryz.ntmps23
      go_wp2_with fail
      go_region_held3 (fun w' => ((w'.cell? ⟨w.heap.size, 0, none⟩ = some (.int .i64 x.id) ∧ w'.cell? ⟨w.heap.size, 1, none⟩ = some (.int .i64 x.member) ∧ w'.cell? ⟨w.heap.size, 2, none⟩ = some (.int .i64 x.kind) ∧ w'.cell? ⟨w.heap.size, 3, none⟩ = some (.slice x.clients.A x.clients.val.length x.clients.c)) ∧ w'.cell? ⟨w.heap.size + 1, 0, none⟩ = some (.int .i64 u.acc) ∧ w'.cell? ⟨w.heap.size + 1, 1, none⟩ = some (.int .i64 u.cli))) (first | (simp [go_sem]; done) | (repeat' (first | (with_reducible assumption) | (with_reducible refine And.intro ?_ ?_) | (with_reducible refine cell_drew ?_) | (with_reducible refine cell_via (by with_reducible assumption) ?_ ?_) | (simp [*]; done) | (simp [go_sem]; done) | (with_reducible refine cell_alloc ?_ ?_) | (with_reducible refine cell_set_far ?_ ?_) | omega | (simp; omega)))) (first | (go_at_call 38; (with_reducible refine (needUnits x _ hl (HG.out.keep (by (repeat' (first | (with_reducible exact Below.refl _ _) | (with_reducible assumption) | (with_reducible refine Below.alloc ?_ ?_ _) | (with_reducible refine Below.setCell ?_ ?_ _) | (with_reducible refine Below.drew ?_) | (with_reducible refine below_drewN ?_ _) | (with_reducible refine below_via ?_ (by with_reducible assumption) ?_) | omega | (simp; done) | (simp; omega)))))).mono ?_); rintro e w1 ⟨A1, c1, rfl, hrs1, hb1⟩; have HS1 := Lib.hid hrs1.rd; clear hrs1; obtain ⟨fc1, fg1, hc1, hf1, hz1⟩ := bget hb1; (try simp at hz1)) | (go_at_call 49; (with_reducible refine (unContains (unitsN (lgA x)) u A1 c1 _ (by omega) (HS1.out.keep (by (repeat' (first | (with_reducible exact Below.refl _ _) | (with_reducible assumption) | (with_reducible refine Below.alloc ?_ ?_ _) | (with_reducible refine Below.setCell ?_ ?_ _) | (with_reducible refine Below.drew ?_) | (with_reducible refine below_drewN ?_ _) | (with_reducible refine below_via ?_ (by with_reducible assumption) ?_) | omega | (simp; done) | (simp; omega)))))).mono ?_); rw [HIN.out]; rintro e w2 ⟨rfl, hb2⟩; obtain ⟨fc2, fg2, hc2, hf2, hz2⟩ := bget hb2; (try simp at hz2)) | fail)
      all_goals
        go_wp2_with (first | (go_at_call 52; (with_reducible refine (acctUnitsN x _ (by omega) (HG.out.keep (by (repeat' (first | (with_reducible exact Below.refl _ _) | (with_reducible assumption) | (with_reducible refine Below.alloc ?_ ?_ _) | (with_reducible refine Below.setCell ?_ ?_ _) | (with_reducible refine Below.drew ?_) | (with_reducible refine below_drewN ?_ _) | (with_reducible refine below_via ?_ (by with_reducible assumption) ?_) | omega | (simp; done) | (simp; omega)))))).mono ?_); rintro e w3 ⟨A3, c3, rfl, hrs3, hb3⟩; have HS3 := Lib.hid hrs3; clear hrs3; obtain ⟨fc3, fg3, hc3, hf3, hz3⟩ := bget hb3; (try simp at hz3)) | fail)
        go_ret
        exact ⟨_, _, rfl, HS3.out, by (repeat' (first | (with_reducible exact Below.refl _ _) | (with_reducible assumption) | (with_reducible refine Below.alloc ?_ ?_ _) | (with_reducible refine Below.setCell ?_ ?_ _) | (with_reducible refine Below.drew ?_) | (with_reducible refine below_drewN ?_ _) | (with_reducible refine below_via ?_ (by with_reducible assumption) ?_) | omega | (simp; done) | (simp; omega)))⟩
    · have b1 : (x.kind == 2) = false := by simpa using hk
      have HU := Lib.hid (show partsN (lgA x) u = [u] from by unfold partsN; rw [if_pos hin, if_neg (show ¬ (lgA x).kind = 2 from hk)])
      rw [HU.out]
      clear hk hin
      go_enter Tryz.func23, Tryz.ntmps23
      go_wp2_with fail
      go_region_held3 (fun w' => ((w'.cell? ⟨w.heap.size, 0, none⟩ = some (.int .i64 x.id) ∧ w'.cell? ⟨w.heap.size, 1, none⟩ = some (.int .i64 x.member) ∧ w'.cell? ⟨w.heap.size, 2, none⟩ = some (.int .i64 x.kind) ∧ w'.cell? ⟨w.heap.size, 3, none⟩ = some (.slice x.clients.A x.clients.val.length x.clients.c)) ∧ w'.cell? ⟨w.heap.size + 1, 0, none⟩ = some (.int .i64 u.acc) ∧ w'.cell? ⟨w.heap.size + 1, 1, none⟩ = some (.int .i64 u.cli))) (first | (simp [go_sem]; done) | (repeat' (first | (with_reducible assumption) | (with_reducible refine And.intro ?_ ?_) | (with_reducible refine cell_drew ?_) | (with_reducible refine cell_via (by with_reducible assumption) ?_ ?_) | (simp [*]; done) | (simp [go_sem]; done) | (with_reducible refine cell_alloc ?_ ?_) | (with_reducible refine cell_set_far ?_ ?_) | omega | (simp; omega)))) (first | (go_at_call 38; (with_reducible refine (needUnits x _ hl (HG.out.keep (by (repeat' (first | (with_reducible exact Below.refl _ _) | (with_reducible assumption) | (with_reducible refine Below.alloc ?_ ?_ _) | (with_reducible refine Below.setCell ?_ ?_ _) | (with_reducible refine Below.drew ?_) | (with_reducible refine below_drewN ?_ _) | (with_reducible refine below_via ?_ (by with_reducible assumption) ?_) | omega | (simp; done) | (simp; omega)))))).mono ?_); rintro e w1 ⟨A1, c1, rfl, hrs1, hb1⟩; have HS1 := Lib.hid hrs1.rd; clear hrs1; obtain ⟨fc1, fg1, hc1, hf1, hz1⟩ := bget hb1; (try simp at hz1)) | (go_at_call 49; (with_reducible refine (unContains (unitsN (lgA x)) u A1 c1 _ (by omega) (HS1.out.keep (by (repeat' (first | (with_reducible exact Below.refl _ _) | (with_reducible assumption) | (with_reducible refine Below.alloc ?_ ?_ _) | (with_reducible refine Below.setCell ?_ ?_ _) | (with_reducible refine Below.drew ?_) | (with_reducible refine below_drewN ?_ _) | (with_reducible refine below_via ?_ (by with_reducible assumption) ?_) | omega | (simp; done) | (simp; omega)))))).mono ?_); rw [HIN.out]; rintro e w2 ⟨rfl, hb2⟩; obtain ⟨fc2, fg2, hc2, hf2, hz2⟩ := bget hb2; (try simp at hz2)) | fail)
      all_goals
        go_wp2_with fail
        go_ret
        exact ⟨_, _, rfl, rd_lit (by simp) (by simp [go_sem]) (by simp [go_sem]), by (repeat' (first | (with_reducible exact Below.refl _ _) | (with_reducible assumption) | (with_reducible refine Below.alloc ?_ ?_ _) | (with_reducible refine Below.setCell ?_ ?_ _) | (with_reducible refine Below.drew ?_) | (with_reducible refine below_drewN ?_ _) | (with_reducible refine below_via ?_ (by with_reducible assumption) ?_) | omega | (simp; done) | (simp; omega)))⟩
  · have HIN := Lib.hid (decide_eq_false hin)
    have HU := Lib.hid (show partsN (lgA x) u = [] from by unfold partsN; rw [if_neg hin])
    rw [HU.out]
    clear hin
    go_enter Tryz.func23, Tryz.ntmps23
    go_wp2_with fail
    go_region_held3 (fun w' => ((w'.cell? ⟨w.heap.size, 0, none⟩ = some (.int .i64 x.id) ∧ w'.cell? ⟨w.heap.size, 1, none⟩ = some (.int .i64 x.member) ∧ w'.cell? ⟨w.heap.size, 2, none⟩ = some (.int .i64 x.kind) ∧ w'.cell? ⟨w.heap.size, 3, none⟩ = some (.slice x.clients.A x.clients.val.length x.clients.c)) ∧ w'.cell? ⟨w.heap.size + 1, 0, none⟩ = some (.int .i64 u.acc) ∧ w'.cell? ⟨w.heap.size + 1, 1, none⟩ = some (.int .i64 u.cli))) (first | (simp [go_sem]; done) | (repeat' (first | (with_reducible assumption) | (with_reducible refine And.intro ?_ ?_) | (with_reducible refine cell_drew ?_) | (with_reducible refine cell_via (by with_reducible assumption) ?_ ?_) | (simp [*]; done) | (simp [go_sem]; done) | (with_reducible refine cell_alloc ?_ ?_) | (with_reducible refine cell_set_far ?_ ?_) | omega | (simp; omega)))) (first | (go_at_call 38; (with_reducible refine (needUnits x _ hl (HG.out.keep (by (repeat' (first | (with_reducible exact Below.refl _ _) | (with_reducible assumption) | (with_reducible refine Below.alloc ?_ ?_ _) | (with_reducible refine Below.setCell ?_ ?_ _) | (with_reducible refine Below.drew ?_) | (with_reducible refine below_drewN ?_ _) | (with_reducible refine below_via ?_ (by with_reducible assumption) ?_) | omega | (simp; done) | (simp; omega)))))).mono ?_); rintro e w1 ⟨A1, c1, rfl, hrs1, hb1⟩; have HS1 := Lib.hid hrs1.rd; clear hrs1; obtain ⟨fc1, fg1, hc1, hf1, hz1⟩ := bget hb1; (try simp at hz1)) | (go_at_call 49; (with_reducible refine (unContains (unitsN (lgA x)) u A1 c1 _ (by omega) (HS1.out.keep (by (repeat' (first | (with_reducible exact Below.refl _ _) | (with_reducible assumption) | (with_reducible refine Below.alloc ?_ ?_ _) | (with_reducible refine Below.setCell ?_ ?_ _) | (with_reducible refine Below.drew ?_) | (with_reducible refine below_drewN ?_ _) | (with_reducible refine below_via ?_ (by with_reducible assumption) ?_) | omega | (simp; done) | (simp; omega)))))).mono ?_); rw [HIN.out]; rintro e w2 ⟨rfl, hb2⟩; obtain ⟨fc2, fg2, hc2, hf2, hz2⟩ := bget hb2; (try simp at hz2)) | fail)
    all_goals
      go_wp2_with fail
      go_ret
      exact ⟨_, _, rfl, Rs.empty _ _, by (repeat' (first | (with_reducible exact Below.refl _ _) | (with_reducible assumption) | (with_reducible refine Below.alloc ?_ ?_ _) | (with_reducible refine Below.setCell ?_ ?_ _) | (with_reducible refine Below.drew ?_) | (with_reducible refine below_drewN ?_ _) | (with_reducible refine below_via ?_ (by with_reducible assumption) ?_) | omega | (simp; done) | (simp; omega)))⟩
def shortN (x : AcctV) : AcctV := { x with clients := ⟨x.clients.A, x.clients.c, x.clients.val.take 20⟩ }
set_option maxRecDepth 100000 in
set_option maxHeartbeats 8000000 in
theorem law25Short (x : AcctV) (w : World) (hg : GoodA w x) :
    Calls Tryz.prog 6 #[.agg #[.int .i64 x.id, .int .i64 x.member, .int .i64 x.kind, .slice x.clients.A x.clients.val.length x.clients.c]] w fun e w' => e = .returned (.agg #[.int .i64 (shortN x).id, .int .i64 (shortN x).member, .int .i64 (shortN x).kind, .slice (shortN x).clients.A (shortN x).clients.val.length (shortN x).clients.c]) ∧ Below w.heap.size w w' := by
  have hlc : x.clients.val.length ≤ x.clients.c := by have := hg.cap; rw [List.length_map] at this; exact this
  have hcm := hg.room
  unfold maxLen at hcm
  have hr := hg.rd
  unfold shortN
  by_cases h : 20 < x.clients.val.length
  · have HN := Lib.hid (show (x.clients.val.take 20).length = 20 from by rw [List.length_take]; omega)
    have d1 : decide (20 < (x.clients.val.length : Int)) = true := by simp; omega
    obtain ⟨b, o, hA, hq⟩ := hr 0 (encI (x.clients.val[0]'(by omega))) (by rw [List.getElem?_map, List.getElem?_eq_getElem (by omega)]; rfl)
    simp only [hA]
    rw [HN.out]
    clear hq hr hA
    go_enter Tryz.func6, Tryz.ntmps6
    go_wp2_with fail
    all_goals
      refine bodyPost_ret (by simp [results, Tryz.results6, go_sem, ]; try rfl) rfl ⟨rfl, ?_⟩
      (repeat' (first | (with_reducible exact Below.refl _ _) | (with_reducible assumption) | (with_reducible refine Below.alloc ?_ ?_ _) | (with_reducible refine Below.setCell ?_ ?_ _) | (with_reducible refine Below.drew ?_) | (with_reducible refine below_drewN ?_ _) | (with_reducible refine below_via ?_ (by with_reducible assumption) ?_) | omega | (simp; done) | (simp; omega)))
  · rw [List.take_of_length_le (by omega)]
    have d1 : decide (20 < (x.clients.val.length : Int)) = false := by simp; omega
    clear hr
    go_enter Tryz.func6, Tryz.ntmps6
    go_wp2_with fail
    all_goals
      refine bodyPost_ret (by simp [results, Tryz.results6, go_sem, ]; try rfl) rfl ⟨rfl, ?_⟩
      (repeat' (first | (with_reducible exact Below.refl _ _) | (with_reducible assumption) | (with_reducible refine Below.alloc ?_ ?_ _) | (with_reducible refine Below.setCell ?_ ?_ _) | (with_reducible refine Below.drew ?_) | (with_reducible refine below_drewN ?_ _) | (with_reducible refine below_via ?_ (by with_reducible assumption) ?_) | omega | (simp; done) | (simp; omega)))
theorem good_shortN {w : World} {x : AcctV} (h : GoodA w x) : GoodA w (shortN x) ∧ (shortN x).clients.val.length ≤ 20 := by
  refine ⟨?_, by simp [shortN]; omega⟩
  unfold GoodA at *
  have := Rs.take h 20
  rw [← List.map_take] at this
  exact this
end Go.Proofs.YtalgfpegaobacaaGreat

/- Units: contracts of acct.Less, the reference's Less. -/
namespace Go.Proofs.YtalgfpegaobacaaGreat
open Go.RowKit
set_option maxRecDepth 100000 in
set_option maxHeartbeats 1000000 in
theorem acctLess (a b : Un) (w : World) :
    Calls Tryz.prog 80 #[.agg #[.int .i64 a.acc, .int .i64 a.cli], .agg #[.int .i64 b.acc, .int .i64 b.cli]] w fun e w' => e = .returned (.bool (lessU a b)) ∧ Below w.heap.size w w' := by
  cases he : (a.acc == b.acc)
  · have hne : (a.acc != b.acc) = true := by simp only [bne, he]; rfl
    have HE := Lib.hid (show lessU a b = decide (a.acc < b.acc) from by unfold lessU; rw [he]; simp)
    go_enter Tryz.func80, Tryz.ntmps80
    go_wp2_with fail
    go_ret
    exact ⟨by rw [HE.out]; rfl, by (repeat' (first | (with_reducible exact Below.refl _ _) | (with_reducible assumption) | (with_reducible refine Below.alloc ?_ ?_ _) | (with_reducible refine Below.setCell ?_ ?_ _) | (with_reducible refine Below.drew ?_) | (with_reducible refine below_drewN ?_ _) | (with_reducible refine below_via ?_ (by with_reducible assumption) ?_) | omega | (simp; done) | (simp; omega)))⟩
  · have hne : (a.acc != b.acc) = false := by simp only [bne, he]; rfl
    have heq : a.acc = b.acc := by simpa using he
    have HE := Lib.hid (show lessU a b = decide (a.cli < b.cli) from by unfold lessU; rw [he]; simp [heq])
    clear heq
    go_enter Tryz.func80, Tryz.ntmps80
    go_wp2_with fail
    go_ret
    exact ⟨by rw [HE.out]; rfl, by (repeat' (first | (with_reducible exact Below.refl _ _) | (with_reducible assumption) | (with_reducible refine Below.alloc ?_ ?_ _) | (with_reducible refine Below.setCell ?_ ?_ _) | (with_reducible refine Below.drew ?_) | (with_reducible refine below_drewN ?_ _) | (with_reducible refine below_via ?_ (by with_reducible assumption) ?_) | omega | (simp; done) | (simp; omega)))⟩
set_option maxRecDepth 100000 in
set_option maxHeartbeats 1000000 in
theorem ref15Less (a b : Un) (w : World) :
    Calls Tryz.prog 58 #[.agg #[.int .i64 a.acc, .int .i64 a.cli], .agg #[.int .i64 b.acc, .int .i64 b.cli]] w fun e w' => e = .returned (.bool (lessU a b)) ∧ Below w.heap.size w w' := by
  by_cases h1 : a.acc < b.acc
  · have d1 := decide_eq_true h1
    have HE := Lib.hid (show lessU a b = true from by unfold lessU; simp [h1])
    go_enter Tryz.func58, Tryz.ntmps58
    go_wp2_with fail
    go_ret
    exact ⟨by rw [HE.out]; rfl, by (repeat' (first | (with_reducible exact Below.refl _ _) | (with_reducible assumption) | (with_reducible refine Below.alloc ?_ ?_ _) | (with_reducible refine Below.setCell ?_ ?_ _) | (with_reducible refine Below.drew ?_) | (with_reducible refine below_drewN ?_ _) | (with_reducible refine below_via ?_ (by with_reducible assumption) ?_) | omega | (simp; done) | (simp; omega)))⟩
  · have d1 := decide_eq_false h1
    cases he : (a.acc == b.acc)
    · have HE := Lib.hid (show lessU a b = false from by unfold lessU; rw [he, d1]; rfl)
      go_enter Tryz.func58, Tryz.ntmps58
      go_wp2_with fail
      go_ret
      exact ⟨by rw [HE.out]; rfl, by (repeat' (first | (with_reducible exact Below.refl _ _) | (with_reducible assumption) | (with_reducible refine Below.alloc ?_ ?_ _) | (with_reducible refine Below.setCell ?_ ?_ _) | (with_reducible refine Below.drew ?_) | (with_reducible refine below_drewN ?_ _) | (with_reducible refine below_via ?_ (by with_reducible assumption) ?_) | omega | (simp; done) | (simp; omega)))⟩
    · have HE := Lib.hid (show lessU a b = decide (a.cli < b.cli) from by unfold lessU; rw [he, d1]; simp)
      go_enter Tryz.func58, Tryz.ntmps58
      go_wp2_with fail
      go_ret
      exact ⟨by rw [HE.out]; rfl, by (repeat' (first | (with_reducible exact Below.refl _ _) | (with_reducible assumption) | (with_reducible refine Below.alloc ?_ ?_ _) | (with_reducible refine Below.setCell ?_ ?_ _) | (with_reducible refine Below.drew ?_) | (with_reducible refine below_drewN ?_ _) | (with_reducible refine below_via ?_ (by with_reducible assumption) ?_) | omega | (simp; done) | (simp; omega)))⟩
end Go.Proofs.YtalgfpegaobacaaGreat
