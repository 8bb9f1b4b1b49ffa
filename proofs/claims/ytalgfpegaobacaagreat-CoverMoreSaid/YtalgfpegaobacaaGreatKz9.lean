/- Joined: Inst1, Wide3, Wide9, Inst2, Inst3, BigRet, Ref13, Dig0, Wide8, InstL1. -/
import Derived.Test.YtalgfpegaobacaaGreatKz8
import Derived.Test.YtalgfpegaobacaaGreatKz2
import Derived.Test.YtalgfpegaobacaaGreatKz3
import Derived.Test.YtalgfpegaobacaaGreatKz6
import Derived.Test.YtalgfpegaobacaaGreatKz5
import Derived.Test.YtalgfpegaobacaaGreatKz4
import Derived.Test.YtalgfpegaobacaaGreatRows
import Derived.WalkKit
import Derived.WalkSpells
import Derived.WalkLawsBesides
import Derived.BigQuiet
import Derived.Deep.RegionHeld3
import Derived.Handy
import Derived.Lib.ItoaNum
import Derived.Laws.IdiomStrings
/- Instruments: contracts of inst.Check and what it calls. -/
namespace Go.Proofs.YtalgfpegaobacaaGreat
open Go.RowKit
set_option maxRecDepth 100000 in
set_option maxHeartbeats 2000000 in
theorem instPriced (p : Int) (w : World) : Calls Tryz.prog 131 #[.int .i64 p] w fun e w' => e = .returned (.bool (pricedI p)) ∧ Below w.heap.size w w' := by
  by_cases h : 0 ≤ p
  · have d1 : decide (0 ≤ p) = true := by simpa using h
    have HP := Lib.hid (show pricedI p = decide (p ≤ 2147483647) from by unfold pricedI; rw [d1]; rfl)
    go_enter Tryz.func131, Tryz.ntmps131
    go_wp2_with fail
    go_ret
    exact ⟨by rw [HP.out]; first | done | rfl, by (repeat' (first | (with_reducible exact Below.refl _ _) | (with_reducible assumption) | (with_reducible refine Below.alloc ?_ ?_ _) | (with_reducible refine Below.setCell ?_ ?_ _) | (with_reducible refine Below.drew ?_) | (with_reducible refine below_drewN ?_ _) | (with_reducible refine below_via ?_ (by with_reducible assumption) ?_) | omega | (simp; done) | (simp; omega)))⟩
  · have d1 : decide (0 ≤ p) = false := by simpa using h
    have HP := Lib.hid (show pricedI p = false from by unfold pricedI; rw [d1]; rfl)
    go_enter Tryz.func131, Tryz.ntmps131
    go_wp2_with fail
    go_ret
    exact ⟨by rw [HP.out]; first | done | rfl, by (repeat' (first | (with_reducible exact Below.refl _ _) | (with_reducible assumption) | (with_reducible refine Below.alloc ?_ ?_ _) | (with_reducible refine Below.setCell ?_ ?_ _) | (with_reducible refine Below.drew ?_) | (with_reducible refine below_drewN ?_ _) | (with_reducible refine below_via ?_ (by with_reducible assumption) ?_) | omega | (simp; done) | (simp; omega)))⟩
set_option maxRecDepth 100000 in
set_option maxHeartbeats 2000000 in
theorem instFar (p : Int) (w : World) : Calls Tryz.prog 133 #[.int .i64 p] w fun e w' => e = .returned (.bool (farI p)) ∧ Below w.heap.size w w' := by
  by_cases h : p < -2147483647
  · have d1 : decide (p < -2147483647) = true := by simpa using h
    have HP := Lib.hid (show farI p = true from by unfold farI; rw [d1]; rfl)
    go_enter Tryz.func133, Tryz.ntmps133
    go_wp2_with fail
    go_ret
    exact ⟨by rw [HP.out]; first | done | rfl, by (repeat' (first | (with_reducible exact Below.refl _ _) | (with_reducible assumption) | (with_reducible refine Below.alloc ?_ ?_ _) | (with_reducible refine Below.setCell ?_ ?_ _) | (with_reducible refine Below.drew ?_) | (with_reducible refine below_drewN ?_ _) | (with_reducible refine below_via ?_ (by with_reducible assumption) ?_) | omega | (simp; done) | (simp; omega)))⟩
  · have d1 : decide (p < -2147483647) = false := by simpa using h
    have HP := Lib.hid (show farI p = decide (2147483647 < p) from by unfold farI; rw [d1]; rfl)
    go_enter Tryz.func133, Tryz.ntmps133
    go_wp2_with fail
    go_ret
    exact ⟨by rw [HP.out]; first | done | rfl, by (repeat' (first | (with_reducible exact Below.refl _ _) | (with_reducible assumption) | (with_reducible refine Below.alloc ?_ ?_ _) | (with_reducible refine Below.setCell ?_ ?_ _) | (with_reducible refine Below.drew ?_) | (with_reducible refine below_drewN ?_ _) | (with_reducible refine below_via ?_ (by with_reducible assumption) ?_) | omega | (simp; done) | (simp; omega)))⟩
set_option maxRecDepth 100000 in
set_option maxHeartbeats 2000000 in
theorem instIndex (l : List Int) (A : Option Addr) (c : Nat) (w : World) (hl : l.length ≤ 1099511627776) (hr : Rd w A 1 (l.map encI)) :
    Calls Tryz.prog 134 #[.slice A l.length c, .func (Fn.func 133) #[] #[]] w fun e w' => e = .returned (.int .i64 (idxOf farI l)) ∧ Below w.heap.size w w' := by
  have HR := Lib.hid hr
  clear hr
  go_enter Tryz.func134, Tryz.ntmps134
  go_wp2_with fail
  go_loopw [8] (fun i wr => ∃ k : Nat, k ≤ l.length ∧ i = .int .i64 k ∧ Below w.heap.size w wr ∧ ∀ j (_ : j < l.length), j < k → farI l[j] = false) (fun i _ => l.length - (intOf i).toNat)
  case atStart => exact ⟨0, Nat.zero_le _, rfl, Below.refl _ _, fun j _ h => absurd h (by omega)⟩
  case round =>
    obtain ⟨k, hk, rfl, hbl, hno⟩ := hrel
    have Hbl := Lib.hid hbl
    have Hno := Lib.hid hno
    have hz := hbl.size
    clear hbl hno
    by_cases hlt : k < l.length
    · obtain ⟨b, o, rfl, hb, hq⟩ := HR.out k (encI l[k]) (by simp [hlt])
      have e0 := (Hbl.out.cell (p := ⟨b, o + k * 1 + 0, none⟩) hb).trans (hq 0 _ rfl)
      simp at e0
      clear hq
      cases hm : farI l[k]
      · have Hm := Lib.hid hm
        clear hm
        go_wp2_with (go_at_call 133; (with_reducible refine (instFar l[k] _).mono ?_); rw [Hm.out]; rintro e w1 ⟨rfl, hb1⟩; have hz1 := hb1.size; have Hb1 := Lib.hid hb1; clear hb1)
        go_roundw
        case rel => exact ⟨k + 1, by omega, by go_num, Hbl.out.trans (Hb1.out.mono hz), fun j hj h => by
          rcases Nat.lt_or_ge j k with h1 | h1
          · exact Hno.out j hj h1
          · obtain rfl : j = k := by omega
            exact Hm.out⟩
        case measure => simp [intOf]; omega
      · have hi := idx_hit (p := farI) hlt hm Hno.out
        have Hi := Lib.hid hi
        have Hm := Lib.hid hm
        clear hm hi
        go_wp2_with (go_at_call 133; (with_reducible refine (instFar l[k] _).mono ?_); rw [Hm.out]; rintro e w1 ⟨rfl, hb1⟩; have hz1 := hb1.size; have Hb1 := Lib.hid hb1; clear hb1)
        go_ret
        exact ⟨by rw [Hi.out]; rfl, Hbl.out.trans (Hb1.out.mono hz)⟩
    · have hi := idx_miss (p := farI) (l := l) (fun j hj => Hno.out j hj (by omega))
      have Hi := Lib.hid hi
      clear hi
      go_wp2_with fail
      go_ret
      exact ⟨by rw [Hi.out]; rfl, Hbl.out⟩
theorem idx_far (l : List Int) : decide (0 ≤ idxOf farI l) = anyFar l := by
  unfold idxOf anyFar
  cases h : l.findIdx? farI with
  | none =>
    rw [List.findIdx?_eq_none_iff] at h
    have : l.any farI = false := by rw [List.any_eq_false]; intro x hx; simpa using h x hx
    simp [this]
  | some k =>
    rw [List.findIdx?_eq_some_iff_getElem] at h
    obtain ⟨hk, h1, _⟩ := h
    have : l.any farI = true := by
      rw [List.any_eq_true]; exact ⟨_, List.getElem_mem hk, h1⟩
    simp [this]
set_option maxRecDepth 100000 in
set_option maxHeartbeats 1000000 in
theorem instContains (l : List Int) (A : Option Addr) (c : Nat) (w : World) (hl : l.length ≤ 1099511627776) (hr : Rd w A 1 (l.map encI)) :
    Calls Tryz.prog 132 #[.slice A l.length c, .func (Fn.func 133) #[] #[]] w fun e w' => e = .returned (.bool (anyFar l)) ∧ Below w.heap.size w w' := by
  have HR := Lib.hid hr
  have HI := Lib.hid (idx_far l)
  clear hr
  go_enter Tryz.func132, Tryz.ntmps132
  go_wp2_with (go_at_call 134; (with_reducible refine (instIndex l A c _ hl HR.out).mono ?_); rintro e w1 ⟨rfl, hb1⟩; obtain ⟨fc1, fg1, hc1, hf1, hz1⟩ := bget hb1; try simp at hz1)
  go_ret
  exact ⟨by rw [← HI.out]; rfl, by (repeat' (first | (with_reducible exact Below.refl _ _) | (with_reducible assumption) | (with_reducible refine Below.alloc ?_ ?_ _) | (with_reducible refine Below.setCell ?_ ?_ _) | (with_reducible refine Below.drew ?_) | (with_reducible refine below_drewN ?_ _) | (with_reducible refine below_via ?_ (by with_reducible assumption) ?_) | omega | (simp; done) | (simp; omega)))⟩
set_option maxRecDepth 100000 in
set_option maxHeartbeats 8000000 in
theorem instCheck (x : Inst) (A : Option Addr) (c : Nat) (w : World) (hl : x.moves.length ≤ 1099511627776) (hr : Rd w A 1 (x.moves.map encI)) :
    Calls Tryz.prog 124 #[.agg #[.int .i64 (x).id, .int .i64 (x).mult, .int .i64 (x).price, .int .i64 (x).next, .slice A (x).moves.length c]] w fun e w' => e = .returned (.int .i64 (codeI x)) ∧ Below w.heap.size w w' := by
  obtain ⟨cc, hc⟩ : ∃ cc, cc = codeI x := ⟨_, rfl⟩
  have HD := Lib.hid hc
  rw [← hc]
  clear hc
  obtain ⟨pb, hpb⟩ : ∃ pb, pb = pricedI x.price := ⟨_, rfl⟩
  have HPB := Lib.hid hpb
  obtain ⟨nb, hnb⟩ : ∃ nb, nb = pricedI x.next := ⟨_, rfl⟩
  have HNB := Lib.hid hnb
  obtain ⟨fb, hfb⟩ : ∃ fb, fb = anyFar x.moves := ⟨_, rfl⟩
  have HFB := Lib.hid hfb
  have c1 := fun W => instPriced x.price W
  have c2 := fun W => instPriced x.next W
  have c3 := fun W h => instContains x.moves A c W hl h
  rw [← hpb] at c1
  rw [← hnb] at c2
  rw [← hfb] at c3
  have C1 := Lib.hid c1
  have C2 := Lib.hid c2
  have C3 := Lib.hid c3
  have HR := Lib.hid hr
  clear c1 c2 c3 hpb hnb hfb hr
  generalize hn : x.moves.length = n at *
  have HN := Lib.hid hn
  clear hn
  cases pb
  rotate_left
  cases nb
  rotate_left
  cases fb
  all_goals
    go_enter Tryz.func124, Tryz.ntmps124
    go_wp2_with (first | (go_at_call 131; (with_reducible refine (C1.out _).mono ?_); rintro e w1 ⟨rfl, hb1⟩; obtain ⟨fc1, fg1, hc1, hf1, hz1⟩ := bget hb1; (try simp at hz1)) | (go_at_call 131; (with_reducible refine (C2.out _).mono ?_); rintro e w2 ⟨rfl, hb2⟩; obtain ⟨fc2, fg2, hc2, hf2, hz2⟩ := bget hb2; (try simp at hz2)) | (go_at_call 132; (with_reducible refine (C3.out _ (HR.out.keep (by (repeat' (first | (with_reducible exact Below.refl _ _) | (with_reducible assumption) | (with_reducible refine Below.alloc ?_ ?_ _) | (with_reducible refine Below.setCell ?_ ?_ _) | (with_reducible refine Below.drew ?_) | (with_reducible refine below_drewN ?_ _) | (with_reducible refine below_via ?_ (by with_reducible assumption) ?_) | omega | (simp; done) | (simp; omega)))))).mono ?_); rintro e w3 ⟨rfl, hb3⟩; obtain ⟨fc3, fg3, hc3, hf3, hz3⟩ := bget hb3; (try simp at hz3)) | fail)
  all_goals
    go_ret
    refine ⟨?_, by (repeat' (first | (with_reducible exact Below.refl _ _) | (with_reducible assumption) | (with_reducible refine Below.alloc ?_ ?_ _) | (with_reducible refine Below.setCell ?_ ?_ _) | (with_reducible refine Below.drew ?_) | (with_reducible refine below_drewN ?_ _) | (with_reducible refine below_via ?_ (by with_reducible assumption) ?_) | omega | (simp; done) | (simp; omega)))⟩
    have h1 := HPB.out.symm
    have h2 := HNB.out.symm
    have h3 := HFB.out.symm
    have h4 := HN.out
    try rw [pricedI_iff] at h1
    try replace h1 := pricedI_no h1
    try rw [pricedI_iff] at h2
    try replace h2 := pricedI_no h2
    rw [HD.out]
    first
      | (rw [codeI_yes (by unfold okI; exact ⟨by omega, by omega, by omega, by omega, h1, h2, by omega, h3⟩)]; rfl)
      | (rw [codeI_no (fun hk => by unfold okI at hk; omega)]; rfl)
      | (rw [codeI_no (fun hk => by have := hk.2.2.2.2.2.2.2; rw [h3] at this; cases this)]; rfl)
      | fail
end Go.Proofs.YtalgfpegaobacaaGreat

/- Contracts of wide.Neg, Times. -/
namespace Go.Proofs.YtalgfpegaobacaaGreat
open Go.RowKit
attribute [local go_sem] fieldSizeLo

theorem sgn_neg (n : Int) : sgn (!decide (n < 0)) (iabs n) = - n := by unfold sgn iabs; by_cases h : n < 0 <;> simp [h]
set_option maxRecDepth 100000 in
set_option maxHeartbeats 1000000 in
theorem wideNegYes (n : Int) (w : World) (h : In128 n) (hn : In128 (- n)) :
    Calls Tryz.prog 116 #[(.agg #[.int .i64 (whi (n)), .int .u64 (wlo (n))])] w fun e w' => e = .returned (.tuple #[(.agg #[.int .i64 (whi (- n)), .int .u64 (wlo (- n))]), .int .i64 0]) ∧ Below w.heap.size w w' := by
  have f1 := sgn_neg n
  have f2 := wrap128_in hn
  have f3 := in128_true hn
  have b3 : 0 ≤ iabs n ∧ iabs n < 340282366920938463463374607431768211456 := by unfold In128 at h; unfold iabs; split <;> omega
  go_enter Tryz.func116, Tryz.ntmps116
  go_wp2
  go_region_held3 (fun w' => w'.cell? ⟨w.heap.size, 0, none⟩ = some (.int .i64 (whi n)) ∧ w'.cell? ⟨w.heap.size, 1, none⟩ = some (.int .u64 (wlo n))) (first | (simp [go_sem]; done) | (repeat' (first | (with_reducible assumption) | (with_reducible refine And.intro ?_ ?_) | (with_reducible refine cell_drew ?_) | (with_reducible refine cell_via (by with_reducible assumption) ?_ ?_) | (simp [*]; done) | (simp [go_sem]; done) | (with_reducible refine cell_alloc ?_ ?_) | (with_reducible refine cell_set_far ?_ ?_) | omega | (simp; omega)))) (first | (go_at_call 108; (with_reducible refine (wideSize n _ h).mono ?_); rintro e w1 ⟨rfl, hb1⟩; obtain ⟨fc1, fg1, hc1, hf1, hz1⟩ := bget hb1; try simp at hz1) | (go_at_call 110; (with_reducible refine (wideBelow n _ h).mono ?_); rintro e w2 ⟨rfl, hb2⟩; obtain ⟨fc2, fg2, hc2, hf2, hz2⟩ := bget hb2; try simp at hz2) | (go_at_call 111; (with_reducible refine (wideSigned _ _ _ b3.1 b3.2).mono ?_); rintro e w3 ⟨rfl, hb3⟩; obtain ⟨fc3, fg3, hc3, hf3, hz3⟩ := bget hb3; try simp at hz3) | (go_at_call 104; (with_reducible refine (wideRangedYes _ _).mono ?_); rintro e w4 ⟨rfl, hb4⟩; obtain ⟨fc4, fg4, hc4, hf4, hz4⟩ := bget hb4; try simp at hz4))
  go_wp2
  all_goals
    refine bodyPost_ret (by simp [results, Tryz.results116, go_sem, ↓IntWalk.iteOmega, hc1, hc2, hc3, hc4]; try rfl) rfl ⟨rfl, ?_⟩
    (repeat' (first | (with_reducible exact Below.refl _ _) | (with_reducible assumption) | (with_reducible refine Below.alloc ?_ ?_ _) | (with_reducible refine Below.setCell ?_ ?_ _) | (with_reducible refine Below.drew ?_) | (with_reducible refine below_drewN ?_ _) | (with_reducible refine below_via ?_ (by with_reducible assumption) ?_) | omega | (simp; done) | (simp; omega)))
end Go.Proofs.YtalgfpegaobacaaGreat

/- The contract of wide.Times. -/
namespace Go.Proofs.YtalgfpegaobacaaGreat
open Go.RowKit
attribute [local go_sem] fieldSizeLo
end Go.Proofs.YtalgfpegaobacaaGreat

/- Instruments: contracts of inst.Gain, inst.Shock. -/
namespace Go.Proofs.YtalgfpegaobacaaGreat
open Go.RowKit
theorem mul_le_of {a b : Int} {A B : Nat} (ha : a.natAbs ≤ A) (hb : b.natAbs ≤ B) (C : Nat) (h : A * B ≤ C) : - (C : Int) ≤ a * b ∧ a * b ≤ C := by
  have := abs_mul_le ha hb
  omega
end Go.Proofs.YtalgfpegaobacaaGreat

/- Instruments: contract of inst.Shock. -/
namespace Go.Proofs.YtalgfpegaobacaaGreat
open Go.RowKit
theorem shock_no {x : Inst} {q s : Int} (h : ¬ okS x s) : shockI x q s = 0 := if_neg h
set_option maxRecDepth 100000 in
set_option maxHeartbeats 8000000 in
theorem instShockNo (x : Inst) (q s : Int) (A : Option Addr) (c : Nat) (w : World) (hl : x.moves.length ≤ 1099511627776) (hr : Rd w A 1 (x.moves.map encI)) (h : ¬ okS x s) :
    Calls Tryz.prog 115 #[.agg #[.int .i64 (x).id, .int .i64 (x).mult, .int .i64 (x).price, .int .i64 (x).next, .slice A (x).moves.length c], .int .i64 q, .int .i64 s] w fun e w' => e = .returned (.agg #[.int .i64 0, .int .u64 0]) ∧ Below w.heap.size w w' := by
  have c1 := fun W h => instCheck x A c W hl h
  have HR := Lib.hid hr
  clear hr
  by_cases h1 : okI x
  · rw [codeI_yes h1] at c1
    have C1 := Lib.hid c1
    clear c1
    generalize hn : x.moves.length = n at *
    by_cases h2 : s < 0
    · have d2 : decide (s < 0) = true := by simpa using h2
      clear h h1 hn
      go_enter Tryz.func115, Tryz.ntmps115
      go_wp2_with (first | (go_at_call 124; (with_reducible refine (C1.out _ (HR.out.keep (by (repeat' (first | (with_reducible exact Below.refl _ _) | (with_reducible assumption) | (with_reducible refine Below.alloc ?_ ?_ _) | (with_reducible refine Below.setCell ?_ ?_ _) | (with_reducible refine Below.drew ?_) | (with_reducible refine below_drewN ?_ _) | (with_reducible refine below_via ?_ (by with_reducible assumption) ?_) | omega | (simp; done) | (simp; omega)))))).mono ?_); rintro e w1 ⟨rfl, hb1⟩; obtain ⟨fc1, fg1, hc1, hf1, hz1⟩ := bget hb1; (try simp at hz1)) | fail)
      all_goals
        refine bodyPost_ret (by simp [results, Tryz.results115, go_sem, hc1]; try rfl) rfl ⟨rfl, ?_⟩
        (repeat' (first | (with_reducible exact Below.refl _ _) | (with_reducible assumption) | (with_reducible refine Below.alloc ?_ ?_ _) | (with_reducible refine Below.setCell ?_ ?_ _) | (with_reducible refine Below.drew ?_) | (with_reducible refine below_drewN ?_ _) | (with_reducible refine below_via ?_ (by with_reducible assumption) ?_) | omega | (simp; done) | (simp; omega)))
    · have d2 : decide (s < 0) = false := by simpa using h2
      have d3 : decide ((n : Int) ≤ s) = true := by
        rw [← hn]
        rw [decide_eq_true_iff]
        by_cases h3 : s < (x.moves.length : Int)
        · exact absurd ⟨h1, by omega, h3⟩ h
        · omega
      clear h h1 hn
      go_enter Tryz.func115, Tryz.ntmps115
      go_wp2_with (first | (go_at_call 124; (with_reducible refine (C1.out _ (HR.out.keep (by (repeat' (first | (with_reducible exact Below.refl _ _) | (with_reducible assumption) | (with_reducible refine Below.alloc ?_ ?_ _) | (with_reducible refine Below.setCell ?_ ?_ _) | (with_reducible refine Below.drew ?_) | (with_reducible refine below_drewN ?_ _) | (with_reducible refine below_via ?_ (by with_reducible assumption) ?_) | omega | (simp; done) | (simp; omega)))))).mono ?_); rintro e w1 ⟨rfl, hb1⟩; obtain ⟨fc1, fg1, hc1, hf1, hz1⟩ := bget hb1; (try simp at hz1)) | fail)
      all_goals
        refine bodyPost_ret (by simp [results, Tryz.results115, go_sem, hc1]; try rfl) rfl ⟨rfl, ?_⟩
        (repeat' (first | (with_reducible exact Below.refl _ _) | (with_reducible assumption) | (with_reducible refine Below.alloc ?_ ?_ _) | (with_reducible refine Below.setCell ?_ ?_ _) | (with_reducible refine Below.drew ?_) | (with_reducible refine below_drewN ?_ _) | (with_reducible refine below_via ?_ (by with_reducible assumption) ?_) | omega | (simp; done) | (simp; omega)))
  · rw [codeI_no h1] at c1
    have C1 := Lib.hid c1
    clear c1 h h1
    go_enter Tryz.func115, Tryz.ntmps115
    go_wp2_with (first | (go_at_call 124; (with_reducible refine (C1.out _ (HR.out.keep (by (repeat' (first | (with_reducible exact Below.refl _ _) | (with_reducible assumption) | (with_reducible refine Below.alloc ?_ ?_ _) | (with_reducible refine Below.setCell ?_ ?_ _) | (with_reducible refine Below.drew ?_) | (with_reducible refine below_drewN ?_ _) | (with_reducible refine below_via ?_ (by with_reducible assumption) ?_) | omega | (simp; done) | (simp; omega)))))).mono ?_); rintro e w1 ⟨rfl, hb1⟩; obtain ⟨fc1, fg1, hc1, hf1, hz1⟩ := bget hb1; (try simp at hz1)) | fail)
    all_goals
      refine bodyPost_ret (by simp [results, Tryz.results115, go_sem, hc1]; try rfl) rfl ⟨rfl, ?_⟩
      (repeat' (first | (with_reducible exact Below.refl _ _) | (with_reducible assumption) | (with_reducible refine Below.alloc ?_ ?_ _) | (with_reducible refine Below.setCell ?_ ?_ _) | (with_reducible refine Below.drew ?_) | (with_reducible refine below_drewN ?_ _) | (with_reducible refine below_via ?_ (by with_reducible assumption) ?_) | omega | (simp; done) | (simp; omega)))
set_option maxRecDepth 100000 in
set_option maxHeartbeats 8000000 in
theorem instShockYes (x : Inst) (q : Int) (k : Nat) (A : Option Addr) (c : Nat) (w : World) (hq : In64 q) (hr : Rd w A 1 (x.moves.map encI)) (hk : k < x.moves.length) (h : okI x) :
    Calls Tryz.prog 115 #[.agg #[.int .i64 (x).id, .int .i64 (x).mult, .int .i64 (x).price, .int .i64 (x).next, .slice A (x).moves.length c], .int .i64 q, .int .i64 k] w fun e w' => e = .returned (.agg #[.int .i64 (whi (x.moves[k] * x.mult * q)), .int .u64 (wlo (x.moves[k] * x.mult * q))]) ∧ Below w.heap.size w w' := by
  have hl8 := h.2.2.2.2.2.2.1
  have c1 := fun W h => instCheck x A c W (by omega) h
  have HR := Lib.hid hr
  rw [codeI_yes h] at c1
  have C1 := Lib.hid c1
  have hm := h.2.2
  obtain ⟨b, o, rfl, hb, hcm⟩ := hr k (encI x.moves[k]) (by simp [hk])
  have e0 := hcm 0 _ rfl
  have hmv := okI_move h hk
  generalize x.moves[k] = m at *
  have i1 : In64 m := by unfold In64; omega
  have i2 : In64 x.mult := by unfold In64; omega
  have e1 := mul_le_of (a := m) (b := x.mult) (A := 2147483647) (B := 65536) (by omega) (by omega) 140737488289792 (by omega)
  have i3 : In64 (m * x.mult) := by unfold In64; omega
  have d2 : decide ((k : Int) < 0) = false := by simp
  have hkn : (k : Int) < (x.moves.length : Int) := by omega
  have d3 : decide ((x.moves.length : Int) ≤ (k : Int)) = false := by simp; omega
  have hln : x.moves.length ≤ 8 := hm.2.2.2.2.1
  simp at e0
  have c2 := fun g W hg h0 h1 => fixProd2 m x.mult g W i1 i2 hg h0 h1
  rw [(okN_yes i3).1, (okN_yes i3).2] at c2
  have c3 := fun W => wideMul (m * x.mult) q W i3 hq
  generalize m * x.mult * q = g3 at *
  generalize m * x.mult = g2 at *
  generalize x.moves.length = n at *
  have C2 := Lib.hid c2
  have C3 := Lib.hid c3
  clear c1 c2 c3 h hm hr hcm e1 i1 i2 i3 hmv
  go_enter Tryz.func115, Tryz.ntmps115
  go_wp2_with (first | (go_at_call 124; (with_reducible refine (C1.out _ (HR.out.keep (by (repeat' (first | (with_reducible exact Below.refl _ _) | (with_reducible assumption) | (with_reducible refine Below.alloc ?_ ?_ _) | (with_reducible refine Below.setCell ?_ ?_ _) | (with_reducible refine Below.drew ?_) | (with_reducible refine below_drewN ?_ _) | (with_reducible refine below_via ?_ (by with_reducible assumption) ?_) | omega | (simp; done) | (simp; omega)))))).mono ?_); rintro e w1 ⟨rfl, hb1⟩; obtain ⟨fc1, fg1, hc1, hf1, hz1⟩ := bget hb1; (try simp at hz1)) | fail)
  go_region_held3 (fun w' => (w'.cell? ⟨w.heap.size, 1, none⟩ = some (.int .i64 x.mult) ∧ w'.cell? ⟨w.heap.size, 4, none⟩ = some (.slice (some ⟨b, o, none⟩) n c)) ∧ w'.cell? ⟨b, o + k, none⟩ = some (.int .i64 m)) (first | (simp [go_sem]; done) | (repeat' (first | (with_reducible assumption) | (with_reducible refine And.intro ?_ ?_) | (with_reducible refine cell_drew ?_) | (with_reducible refine cell_via (by with_reducible assumption) ?_ ?_) | (simp [*]; done) | (simp [go_sem]; done) | (with_reducible refine cell_alloc ?_ ?_) | (with_reducible refine cell_set_far ?_ ?_) | omega | (simp; omega)))) (first | (go_at_call 78; (with_reducible refine (C2.out _ _ ?_ ?_ ?_).mono ?_); (focus (first | (simp; done) | (simp; omega))); (focus (first | (simp [go_sem]; done) | (simp [go_sem, ↓IntWalk.iteOmega]; done))); (focus (first | (simp [go_sem]; done) | (simp [go_sem, ↓IntWalk.iteOmega]; done))); rintro e w2 ⟨rfl, hb2⟩; obtain ⟨fc2, fg2, hc2, hf2, hz2⟩ := bget hb2; (try simp at hz2)) | fail)
  all_goals
    go_wp2_with (first | (go_at_call 96; (with_reducible refine (C3.out _).mono ?_); rintro e w3 ⟨rfl, hb3⟩; obtain ⟨fc3, fg3, hc3, hf3, hz3⟩ := bget hb3; (try simp at hz3)) | fail)
    refine bodyPost_ret (by simp [results, Tryz.results115, go_sem, hc1, hc2, hc3, ↓IntWalk.iteOmega]; try rfl) rfl ⟨rfl, ?_⟩
    (repeat' (first | (with_reducible exact Below.refl _ _) | (with_reducible assumption) | (with_reducible refine Below.alloc ?_ ?_ _) | (with_reducible refine Below.setCell ?_ ?_ _) | (with_reducible refine Below.drew ?_) | (with_reducible refine below_drewN ?_ _) | (with_reducible refine below_via ?_ (by with_reducible assumption) ?_) | omega | (simp; done) | (simp; omega)))
end Go.Proofs.YtalgfpegaobacaaGreat

/- A function whose result is a big number in a cell of its own: its end. -/
namespace Go.Proofs.YtalgfpegaobacaaGreat
open Go.RowKit
end Go.Proofs.YtalgfpegaobacaaGreat

/- Instruments: contracts of the reference's Is, Gain, Shock. -/
namespace Go.Proofs.YtalgfpegaobacaaGreat
open Go.RowKit
theorem pricedRef (p : Int) (w : World) : Calls Tryz.prog 105 #[.int .i64 p] w fun e w' => e = .returned (.bool (pricedI p)) ∧ Below w.heap.size w w' := by
  by_cases h : 0 ≤ p
  · have d1 : decide (0 ≤ p) = true := by simpa using h
    have HP := Lib.hid (show pricedI p = decide (p < 2147483648) from by unfold pricedI; rw [d1, Bool.true_and]; exact decide_eq_decide.2 (by omega))
    go_enter Tryz.func105, Tryz.ntmps105
    go_wp2_with fail
    go_ret
    exact ⟨by rw [HP.out]; first | done | rfl, by (repeat' (first | (with_reducible exact Below.refl _ _) | (with_reducible assumption) | (with_reducible refine Below.alloc ?_ ?_ _) | (with_reducible refine Below.setCell ?_ ?_ _) | (with_reducible refine Below.drew ?_) | (with_reducible refine below_drewN ?_ _) | (with_reducible refine below_via ?_ (by with_reducible assumption) ?_) | omega | (simp; done) | (simp; omega)))⟩
  · have d1 : decide (0 ≤ p) = false := by simpa using h
    have HP := Lib.hid (show pricedI p = false from by unfold pricedI; rw [d1]; rfl)
    go_enter Tryz.func105, Tryz.ntmps105
    go_wp2_with fail
    go_ret
    exact ⟨by rw [HP.out]; first | done | rfl, by (repeat' (first | (with_reducible exact Below.refl _ _) | (with_reducible assumption) | (with_reducible refine Below.alloc ?_ ?_ _) | (with_reducible refine Below.setCell ?_ ?_ _) | (with_reducible refine Below.drew ?_) | (with_reducible refine below_drewN ?_ _) | (with_reducible refine below_via ?_ (by with_reducible assumption) ?_) | omega | (simp; done) | (simp; omega)))⟩
set_option maxRecDepth 100000 in
set_option maxHeartbeats 8000000 in
theorem ref13Is (x : Inst) (A : Option Addr) (c : Nat) (w : World) (hl : x.moves.length ≤ 1099511627776) (hr : Rd w A 1 (x.moves.map encI)) :
    Calls Tryz.prog 90 #[.agg #[.int .i64 (x).id, .int .i64 (x).mult, .int .i64 (x).price, .int .i64 (x).next, .slice A (x).moves.length c]] w fun e w' => e = .returned (.bool (decide (okI x))) ∧ Below w.heap.size w w' := by
  have HR := Lib.hid hr
  obtain ⟨pb, hpb⟩ : ∃ pb, pb = pricedI x.price := ⟨_, rfl⟩
  obtain ⟨nb, hnb⟩ : ∃ nb, nb = pricedI x.next := ⟨_, rfl⟩
  have c1 := fun W => pricedRef x.price W
  have c2 := fun W => pricedRef x.next W
  rw [← hpb] at c1
  rw [← hnb] at c2
  have C1 := Lib.hid c1
  have C2 := Lib.hid c2
  clear c1 c2 hr
  by_cases t0 : x.id < 1
  · have d0 := decide_eq_true t0
    have HNO := Lib.hid (decide_eq_false (show ¬ okI x from fun hk => by unfold okI at hk; omega))
    go_enter Tryz.func90, Tryz.ntmps90
    go_wp2_with (first | (go_at_call 105; (with_reducible refine (C1.out _).mono ?_); rintro e w1 ⟨rfl, hb1⟩; obtain ⟨fc1, fg1, hc1, hf1, hz1⟩ := bget hb1; (try simp at hz1)) | (go_at_call 105; (with_reducible refine (C2.out _).mono ?_); rintro e w2 ⟨rfl, hb2⟩; obtain ⟨fc2, fg2, hc2, hf2, hz2⟩ := bget hb2; (try simp at hz2)) | fail)
    go_ret
    exact ⟨by rw [HNO.out]; first | done | rfl, by (repeat' (first | (with_reducible exact Below.refl _ _) | (with_reducible assumption) | (with_reducible refine Below.alloc ?_ ?_ _) | (with_reducible refine Below.setCell ?_ ?_ _) | (with_reducible refine Below.drew ?_) | (with_reducible refine below_drewN ?_ _) | (with_reducible refine below_via ?_ (by with_reducible assumption) ?_) | omega | (simp; done) | (simp; omega)))⟩
  have d0 := decide_eq_false t0
  by_cases t1 : 8 < x.id
  · have d1 := decide_eq_true t1
    have HNO := Lib.hid (decide_eq_false (show ¬ okI x from fun hk => by unfold okI at hk; omega))
    go_enter Tryz.func90, Tryz.ntmps90
    go_wp2_with (first | (go_at_call 105; (with_reducible refine (C1.out _).mono ?_); rintro e w1 ⟨rfl, hb1⟩; obtain ⟨fc1, fg1, hc1, hf1, hz1⟩ := bget hb1; (try simp at hz1)) | (go_at_call 105; (with_reducible refine (C2.out _).mono ?_); rintro e w2 ⟨rfl, hb2⟩; obtain ⟨fc2, fg2, hc2, hf2, hz2⟩ := bget hb2; (try simp at hz2)) | fail)
    go_ret
    exact ⟨by rw [HNO.out]; first | done | rfl, by (repeat' (first | (with_reducible exact Below.refl _ _) | (with_reducible assumption) | (with_reducible refine Below.alloc ?_ ?_ _) | (with_reducible refine Below.setCell ?_ ?_ _) | (with_reducible refine Below.drew ?_) | (with_reducible refine below_drewN ?_ _) | (with_reducible refine below_via ?_ (by with_reducible assumption) ?_) | omega | (simp; done) | (simp; omega)))⟩
  have d1 := decide_eq_false t1
  by_cases t2 : x.mult < 1
  · have d2 := decide_eq_true t2
    have HNO := Lib.hid (decide_eq_false (show ¬ okI x from fun hk => by unfold okI at hk; omega))
    go_enter Tryz.func90, Tryz.ntmps90
    go_wp2_with (first | (go_at_call 105; (with_reducible refine (C1.out _).mono ?_); rintro e w1 ⟨rfl, hb1⟩; obtain ⟨fc1, fg1, hc1, hf1, hz1⟩ := bget hb1; (try simp at hz1)) | (go_at_call 105; (with_reducible refine (C2.out _).mono ?_); rintro e w2 ⟨rfl, hb2⟩; obtain ⟨fc2, fg2, hc2, hf2, hz2⟩ := bget hb2; (try simp at hz2)) | fail)
    go_ret
    exact ⟨by rw [HNO.out]; first | done | rfl, by (repeat' (first | (with_reducible exact Below.refl _ _) | (with_reducible assumption) | (with_reducible refine Below.alloc ?_ ?_ _) | (with_reducible refine Below.setCell ?_ ?_ _) | (with_reducible refine Below.drew ?_) | (with_reducible refine below_drewN ?_ _) | (with_reducible refine below_via ?_ (by with_reducible assumption) ?_) | omega | (simp; done) | (simp; omega)))⟩
  have d2 := decide_eq_false t2
  by_cases t3 : 65536 < x.mult
  · have d3 := decide_eq_true t3
    have HNO := Lib.hid (decide_eq_false (show ¬ okI x from fun hk => by unfold okI at hk; omega))
    go_enter Tryz.func90, Tryz.ntmps90
    go_wp2_with (first | (go_at_call 105; (with_reducible refine (C1.out _).mono ?_); rintro e w1 ⟨rfl, hb1⟩; obtain ⟨fc1, fg1, hc1, hf1, hz1⟩ := bget hb1; (try simp at hz1)) | (go_at_call 105; (with_reducible refine (C2.out _).mono ?_); rintro e w2 ⟨rfl, hb2⟩; obtain ⟨fc2, fg2, hc2, hf2, hz2⟩ := bget hb2; (try simp at hz2)) | fail)
    go_ret
    exact ⟨by rw [HNO.out]; first | done | rfl, by (repeat' (first | (with_reducible exact Below.refl _ _) | (with_reducible assumption) | (with_reducible refine Below.alloc ?_ ?_ _) | (with_reducible refine Below.setCell ?_ ?_ _) | (with_reducible refine Below.drew ?_) | (with_reducible refine below_drewN ?_ _) | (with_reducible refine below_via ?_ (by with_reducible assumption) ?_) | omega | (simp; done) | (simp; omega)))⟩
  have d3 := decide_eq_false t3
  cases pb
  · have t5 := pricedI_no hpb.symm
    clear hpb hnb
    have HNO := Lib.hid (decide_eq_false (show ¬ okI x from fun hk => by unfold okI at hk; omega))
    go_enter Tryz.func90, Tryz.ntmps90
    go_wp2_with (first | (go_at_call 105; (with_reducible refine (C1.out _).mono ?_); rintro e w1 ⟨rfl, hb1⟩; obtain ⟨fc1, fg1, hc1, hf1, hz1⟩ := bget hb1; (try simp at hz1)) | (go_at_call 105; (with_reducible refine (C2.out _).mono ?_); rintro e w2 ⟨rfl, hb2⟩; obtain ⟨fc2, fg2, hc2, hf2, hz2⟩ := bget hb2; (try simp at hz2)) | fail)
    go_ret
    exact ⟨by rw [HNO.out]; first | done | rfl, by (repeat' (first | (with_reducible exact Below.refl _ _) | (with_reducible assumption) | (with_reducible refine Below.alloc ?_ ?_ _) | (with_reducible refine Below.setCell ?_ ?_ _) | (with_reducible refine Below.drew ?_) | (with_reducible refine below_drewN ?_ _) | (with_reducible refine below_via ?_ (by with_reducible assumption) ?_) | omega | (simp; done) | (simp; omega)))⟩
  replace hpb := pricedI_iff.1 hpb.symm
  cases nb
  · have t6 := pricedI_no hnb.symm
    clear hnb
    have HNO := Lib.hid (decide_eq_false (show ¬ okI x from fun hk => by unfold okI at hk; omega))
    go_enter Tryz.func90, Tryz.ntmps90
    go_wp2_with (first | (go_at_call 105; (with_reducible refine (C1.out _).mono ?_); rintro e w1 ⟨rfl, hb1⟩; obtain ⟨fc1, fg1, hc1, hf1, hz1⟩ := bget hb1; (try simp at hz1)) | (go_at_call 105; (with_reducible refine (C2.out _).mono ?_); rintro e w2 ⟨rfl, hb2⟩; obtain ⟨fc2, fg2, hc2, hf2, hz2⟩ := bget hb2; (try simp at hz2)) | fail)
    go_ret
    exact ⟨by rw [HNO.out]; first | done | rfl, by (repeat' (first | (with_reducible exact Below.refl _ _) | (with_reducible assumption) | (with_reducible refine Below.alloc ?_ ?_ _) | (with_reducible refine Below.setCell ?_ ?_ _) | (with_reducible refine Below.drew ?_) | (with_reducible refine below_drewN ?_ _) | (with_reducible refine below_via ?_ (by with_reducible assumption) ?_) | omega | (simp; done) | (simp; omega)))⟩
  replace hnb := pricedI_iff.1 hnb.symm
  by_cases t7 : 8 < (x.moves.length : Int)
  · have d7 := decide_eq_true t7
    have HNO := Lib.hid (decide_eq_false (show ¬ okI x from fun hk => by unfold okI at hk; omega))
    go_enter Tryz.func90, Tryz.ntmps90
    go_wp2_with (first | (go_at_call 105; (with_reducible refine (C1.out _).mono ?_); rintro e w1 ⟨rfl, hb1⟩; obtain ⟨fc1, fg1, hc1, hf1, hz1⟩ := bget hb1; (try simp at hz1)) | (go_at_call 105; (with_reducible refine (C2.out _).mono ?_); rintro e w2 ⟨rfl, hb2⟩; obtain ⟨fc2, fg2, hc2, hf2, hz2⟩ := bget hb2; (try simp at hz2)) | fail)
    go_ret
    exact ⟨by rw [HNO.out]; first | done | rfl, by (repeat' (first | (with_reducible exact Below.refl _ _) | (with_reducible assumption) | (with_reducible refine Below.alloc ?_ ?_ _) | (with_reducible refine Below.setCell ?_ ?_ _) | (with_reducible refine Below.drew ?_) | (with_reducible refine below_drewN ?_ _) | (with_reducible refine below_via ?_ (by with_reducible assumption) ?_) | omega | (simp; done) | (simp; omega)))⟩
  have d7 := decide_eq_false t7
  go_enter Tryz.func90, Tryz.ntmps90
  go_wp2_with (first | (go_at_call 105; (with_reducible refine (C1.out _).mono ?_); rintro e w1 ⟨rfl, hb1⟩; obtain ⟨fc1, fg1, hc1, hf1, hz1⟩ := bget hb1; (try simp at hz1)) | (go_at_call 105; (with_reducible refine (C2.out _).mono ?_); rintro e w2 ⟨rfl, hb2⟩; obtain ⟨fc2, fg2, hc2, hf2, hz2⟩ := bget hb2; (try simp at hz2)) | fail)
  go_loopw [3] (fun i wr => ∃ k : Nat, k ≤ x.moves.length ∧ i = .int .i64 k ∧ wr = w2 ∧ ∀ j (_ : j < x.moves.length), j < k → farI x.moves[j] = false) (fun i _ => x.moves.length - (intOf i).toNat)
  case atStart => exact ⟨0, Nat.zero_le _, rfl, rfl, fun j _ h => absurd h (by omega)⟩
  case round =>
    obtain ⟨k, hk, rfl, rfl, hno⟩ := hrel
    have Hno := Lib.hid hno
    clear hno
    by_cases hlt : k < x.moves.length
    · have hlt2 : (k : Int) < (x.moves.length : Int) := by omega
      have dl : decide ((k : Int) < (x.moves.length : Int)) = true := by simpa using hlt
      obtain ⟨b, o, rfl, hb, hq⟩ := HR.out k (encI x.moves[k]) (by simp [hlt])
      have e0 := hq 0 _ rfl
      simp at e0
      clear hq
      by_cases h1 : x.moves[k] < -2147483647
      · have g1 : decide (x.moves[k] < -2147483647) = true := by simpa using h1
        have HNO := Lib.hid (decide_eq_false (show ¬ okI x from fun hk => by have := okI_move hk hlt; omega))
        go_wp2_with fail
        go_ret
        exact ⟨by rw [HNO.out]; first | done | rfl, by (repeat' (first | (with_reducible exact Below.refl _ _) | (with_reducible assumption) | (with_reducible refine Below.alloc ?_ ?_ _) | (with_reducible refine Below.setCell ?_ ?_ _) | (with_reducible refine Below.drew ?_) | (with_reducible refine below_drewN ?_ _) | (with_reducible refine below_via ?_ (by with_reducible assumption) ?_) | omega | (simp; done) | (simp; omega)))⟩
      · have g1 : decide (x.moves[k] < -2147483647) = false := by simpa using h1
        by_cases h2 : 2147483647 < x.moves[k]
        · have g2 : decide (2147483647 < x.moves[k]) = true := by simpa using h2
          have HNO := Lib.hid (decide_eq_false (show ¬ okI x from fun hk => by have := okI_move hk hlt; omega))
          go_wp2_with fail
          go_ret
          exact ⟨by rw [HNO.out]; first | done | rfl, by (repeat' (first | (with_reducible exact Below.refl _ _) | (with_reducible assumption) | (with_reducible refine Below.alloc ?_ ?_ _) | (with_reducible refine Below.setCell ?_ ?_ _) | (with_reducible refine Below.drew ?_) | (with_reducible refine below_drewN ?_ _) | (with_reducible refine below_via ?_ (by with_reducible assumption) ?_) | omega | (simp; done) | (simp; omega)))⟩
        · have g2 : decide (2147483647 < x.moves[k]) = false := by simpa using h2
          go_wp2_with fail
          go_roundw
          case rel => exact ⟨k + 1, by omega, by go_num, by trivial, fun j hj h => by
            rcases Nat.lt_or_ge j k with h3 | h3
            · exact Hno.out j hj h3
            · obtain rfl : j = k := by omega
              unfold farI
              rw [g1, g2]; rfl⟩
          case measure => simp [intOf]; omega
    · have dl : decide ((k : Int) < (x.moves.length : Int)) = false := by simpa using hlt
      have hfar : anyFar x.moves = false := by
        unfold anyFar
        rw [List.any_eq_false]
        intro m hm
        obtain ⟨j, hj, rfl⟩ := List.mem_iff_getElem.1 hm
        rw [Hno.out j hj (by omega)]
        simp
      have HYES := Lib.hid (decide_eq_true (show okI x from ⟨by omega, by omega, by omega, by omega, hpb, hnb, by omega, hfar⟩))
      go_wp2_with fail
      go_ret
      exact ⟨by rw [HYES.out]; first | done | rfl, by (repeat' (first | (with_reducible exact Below.refl _ _) | (with_reducible assumption) | (with_reducible refine Below.alloc ?_ ?_ _) | (with_reducible refine Below.setCell ?_ ?_ _) | (with_reducible refine Below.drew ?_) | (with_reducible refine below_drewN ?_ _) | (with_reducible refine below_via ?_ (by with_reducible assumption) ?_) | omega | (simp; done) | (simp; omega)))⟩
end Go.Proofs.YtalgfpegaobacaaGreat

/- Digits in tens. Plain. -/
namespace Go.Proofs.YtalgfpegaobacaaGreat
/-- The digits of m as bytes, the lowest first. -/
def dgs : Nat → Nat → List Int
  | 0, _ => []
  | f + 1, m => (48 + m % 10 : Nat) :: (if m / 10 = 0 then [] else dgs f (m / 10))
/-- What is still to come, behind o. -/
def left (o : List Int) (f m : Nat) : List Int := if o = [] ∨ m ≠ 0 then dgs f m else []
/-- The text of n, the last byte first. -/
def back (n : Int) : List Int := dgs 40 n.natAbs ++ (if n < 0 then [45] else [])
/-- i rounds of turning a list round: the ends are turned, the middle is not. -/
def turned (l : List Int) (i : Nat) : List Int := (List.range l.length).map fun x => if x < i ∨ l.length - 1 - i < x then l.getD (l.length - 1 - x) 0 else l.getD x 0
end Go.Proofs.YtalgfpegaobacaaGreat

/- The contract of wide.Text. -/
namespace Go.Proofs.YtalgfpegaobacaaGreat
open Go.RowKit
end Go.Proofs.YtalgfpegaobacaaGreat

/- Instruments: the contract of inst.Shock whole; of the reference's Shock; the law's short, lives. -/
namespace Go.Proofs.YtalgfpegaobacaaGreat
open Go.RowKit
theorem shock_yes {x : Inst} {q : Int} {k : Nat} (h : okI x) (hk : k < x.moves.length) : shockI x q k = x.moves[k] * x.mult * q := by
  unfold shockI
  rw [if_pos ⟨h, by omega, by omega⟩, Int.toNat_natCast, getD_at hk, Int.mul_comm q, Int.mul_comm (x.mult * q), Int.mul_assoc]
theorem okS_nat {x : Inst} {s : Int} (h : okS x s) : ∃ k : Nat, s = k ∧ k < x.moves.length := ⟨s.toNat, by have := h.2; omega, by have := h.2; omega⟩
theorem instShock (x : Inst) (q s : Int) (A : Option Addr) (c : Nat) (w : World) (hq : In64 q) (hl : x.moves.length ≤ 1099511627776) (hr : Rd w A 1 (x.moves.map encI)) :
    Calls Tryz.prog 115 #[.agg #[.int .i64 (x).id, .int .i64 (x).mult, .int .i64 (x).price, .int .i64 (x).next, .slice A (x).moves.length c], .int .i64 q, .int .i64 s] w fun e w' => e = .returned (.agg #[.int .i64 (whi (shockI x q s)), .int .u64 (wlo (shockI x q s))]) ∧ Below w.heap.size w w' := by
  by_cases h : okS x s
  · obtain ⟨k, rfl, hk⟩ := okS_nat h
    rw [shock_yes h.1 hk]
    exact instShockYes x q k A c w hq hr hk h.1
  · rw [shock_no h, whi_zero, wlo_zero]
    exact instShockNo x q s A c w hl hr h
end Go.Proofs.YtalgfpegaobacaaGreat
