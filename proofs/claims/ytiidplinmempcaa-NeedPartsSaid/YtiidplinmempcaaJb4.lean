/- Joined: LawF5, Asset2, Inst2, Inst3, Ref13, InstL1. -/
import Derived.Test.YtiidplinmempcaaJb3
import Derived.Test.YtiidplinmempcaaJz7
import Derived.Test.YtiidplinmempcaaJz8
/- Layer 2: the reference's Sum, Product; fix.Product. -/
namespace Go.Proofs.Ytiidplinmempcaa
open Go.RowKit
theorem isBig_nil2 {w : World} : IsBig w 0 false none [] 0 := ⟨fun i r hr => by simp at hr, bit_nil, top_nil, rfl, by simp, by simp, rfl⟩
theorem sum_take1 (l : List Int) (k : Nat) (h : k < l.length) : (l.take (k + 1)).sum = (l.take k).sum + l[k] := by
  rw [List.take_succ_eq_append_getElem h, List.sum_append]; simp
def prodF : Int → List Int → Option Int
  | a, [] => some a
  | a, x :: l => if in64 (a * x) then prodF (a * x) l else none
theorem prodF_step {l : List Int} {k : Nat} (h : k < l.length) (p : Int) : prodF p (l.drop k) = if in64 (p * l[k]) then prodF (p * l[k]) (l.drop (k + 1)) else none := by
  rw [List.drop_eq_getElem_cons h]; rfl
theorem prodF_end {l : List Int} {k : Nat} (h : ¬ k < l.length) (p : Int) : prodF p (l.drop k) = some p := by
  rw [List.drop_eq_nil_of_le (by omega)]; rfl
theorem big64_len {w : World} {p : Int} {s : Bool} {A : Option Addr} {l : List Int} {c : Nat} (h : IsBig w p s A l c) (hp : In64 p) : l.length ≤ 64 := by
  refine len_le h.bit h.top (k := 64) ?_
  rw [h.val]
  have : pw 64 = 18446744073709551616 := by decide
  rw [this]
  unfold In64 at hp
  unfold iabs; split <;> omega
def prN (l : List Int) : Int := (prodF 1 l).getD 0
def prE (l : List Int) : Int := if (prodF 1 l).isSome then 0 else 7
set_option maxRecDepth 100000 in
set_option maxHeartbeats 8000000 in
theorem fixProduct (l : List Int) (A : Option Addr) (c : Nat) (w : World) (h40 : l.length ≤ 40) (hin : ∀ n ∈ l, In64 n) (hr : Rd w A 1 (l.map encI)) :
    Calls Try.prog 125 #[.slice A l.length c] w fun e w' => e = .returned (.tuple #[.int .i64 (prN l), .int .i64 (prE l)]) ∧ Below w.heap.size w w' := by
  have HR := Lib.hid hr
  have HIN := Lib.hid hin
  clear hr hin
  go_enter Try.func125, Try.ntmps125
  go_wp2_with fail
  go_loopw [4, 11] (fun v i wr => ∃ (k : Nat) (p : Int), k ≤ l.length ∧ i = .int .i64 k ∧ v = .int .i64 p ∧ In64 p ∧ prodF 1 l = prodF p (l.drop k) ∧ Below w.heap.size w wr) (fun _ i _ => l.length - (intOf i).toNat)
  case atStart => exact ⟨0, 1, Nat.zero_le _, rfl, rfl, by unfold In64; omega, rfl, by (repeat' (first | (with_reducible exact Below.refl _ _) | (with_reducible assumption) | (with_reducible refine Below.alloc ?_ ?_ _) | (with_reducible refine Below.setCell ?_ ?_ _) | (with_reducible refine Below.drew ?_) | (with_reducible refine below_drewN ?_ _) | (with_reducible refine below_via ?_ (by with_reducible assumption) ?_) | omega | (simp; done) | (simp; omega)))⟩
  case round =>
    obtain ⟨k, p, hk, rfl, rfl, hp, hpr, hbl⟩ := hrel
    have hz := hbl.size
    have Hbl := Lib.hid hbl
    clear hbl
    by_cases hlt : k < l.length
    · have d2 : decide ((k : Int) < (l.length : Int)) = true := by simpa using hlt
      rw [prodF_step hlt] at hpr
      obtain ⟨b, o, hA, hb, q⟩ := HR.out k (encI l[k]) (by simp [hlt])
      have q0 := (Hbl.out.cell (p := ⟨b, o + k * 1 + 0, none⟩) (hb)).trans (q 0 _ rfl)
      have hx := HIN.out l[k] (List.getElem_mem hlt)
      obtain ⟨x, hxe⟩ : ∃ x, x = l[k] := ⟨_, rfl⟩
      rw [← hxe] at q0 hx
      have hbw : b < wr.heap.size := (by omega)
      simp at q0
      clear q
      cases hA
      rw [← hxe] at hpr
      clear hxe
      have h128 := mul64_128 hp hx
      by_cases h64 : In64 (p * x)
      · rw [in64_iff.2 h64, if_pos rfl] at hpr
        have HPR := Lib.hid hpr
        clear hpr
        go_wp2_with (first | (go_at_call 126; (with_reducible refine (wideMul p x _ hp hx).mono ?_); rintro e w1 ⟨rfl, hb1⟩; obtain ⟨fc1, fg1, hc1, hf1, hz1⟩ := bget hb1; (try simp at hz1)) | (go_at_call 82; (with_reducible refine (wideIntYes (p * x) _ h64).mono ?_); rintro e w2 ⟨rfl, hb2⟩; obtain ⟨fc2, fg2, hc2, hf2, hz2⟩ := bget hb2; (try simp at hz2)) | fail)
        go_roundw
        case rel => exact ⟨k + 1, p * x, by omega, by go_num, rfl, h64, HPR.out, by (have hbl := Hbl.out; (repeat' (first | (with_reducible exact Below.refl _ _) | (with_reducible assumption) | (with_reducible refine Below.alloc ?_ ?_ _) | (with_reducible refine Below.setCell ?_ ?_ _) | (with_reducible refine Below.drew ?_) | (with_reducible refine below_drewN ?_ _) | (with_reducible refine below_via ?_ (by with_reducible assumption) ?_) | omega | (simp; done) | (simp; omega))))⟩
        case measure => (simp [intOf]; omega)
      · rw [in64_not' h64, if_neg (by simp)] at hpr
        have HPN := Lib.hid (show prN l = 0 from by unfold prN; rw [hpr]; rfl)
        have HPE := Lib.hid (show prE l = 7 from by unfold prE; rw [hpr]; rfl)
        clear hpr
        go_wp2_with (first | (go_at_call 126; (with_reducible refine (wideMul p x _ hp hx).mono ?_); rintro e w1 ⟨rfl, hb1⟩; obtain ⟨fc1, fg1, hc1, hf1, hz1⟩ := bget hb1; (try simp at hz1)) | (go_at_call 82; (with_reducible refine (wideIntNo (p * x) _ h128 h64).mono ?_); rintro e w2 ⟨rfl, hb2⟩; obtain ⟨fc2, fg2, hc2, hf2, hz2⟩ := bget hb2; (try simp at hz2)) | fail)
        go_ret2
        exact ⟨by rw [HPN.out, HPE.out]; first | done | rfl, by (have hbl := Hbl.out; (repeat' (first | (with_reducible exact Below.refl _ _) | (with_reducible assumption) | (with_reducible refine Below.alloc ?_ ?_ _) | (with_reducible refine Below.setCell ?_ ?_ _) | (with_reducible refine Below.drew ?_) | (with_reducible refine below_drewN ?_ _) | (with_reducible refine below_via ?_ (by with_reducible assumption) ?_) | omega | (simp; done) | (simp; omega))))⟩
    · have d2 : decide ((k : Int) < (l.length : Int)) = false := by simpa using hlt
      rw [prodF_end hlt] at hpr
      have HPN := Lib.hid (show prN l = p from by unfold prN; rw [hpr]; rfl)
      have HPE := Lib.hid (show prE l = 0 from by unfold prE; rw [hpr]; rfl)
      clear hpr
      go_wp2_with fail
      go_ret2
      exact ⟨by rw [HPN.out, HPE.out]; first | done | rfl, by (have hbl := Hbl.out; (repeat' (first | (with_reducible exact Below.refl _ _) | (with_reducible assumption) | (with_reducible refine Below.alloc ?_ ?_ _) | (with_reducible refine Below.setCell ?_ ?_ _) | (with_reducible refine Below.drew ?_) | (with_reducible refine below_drewN ?_ _) | (with_reducible refine below_via ?_ (by with_reducible assumption) ?_) | omega | (simp; done) | (simp; omega))))⟩
end Go.Proofs.Ytiidplinmempcaa

/- Assets: asset.Worth, Count, Sell, and the reference's. -/
namespace Go.Proofs.Ytiidplinmempcaa
open Go.RowKit
theorem rd_ints2 {w : World} {g : Nat} {x y : Int} (hg : g < w.heap.size) (h0 : w.cell? ⟨g, 0, none⟩ = some (.int .i64 x)) (h1 : w.cell? ⟨g, 1, none⟩ = some (.int .i64 y)) : Rd w (some ⟨g, 0, none⟩) 1 ([x, y].map encI) := by
  intro i r hr
  match i, hr with
  | 0, hr =>
    simp at hr
    subst hr
    refine ⟨g, 0, rfl, hg, fun j v hv => ?_⟩
    match j, hv with
    | 0, hv => simp [encI] at hv; subst hv; simpa using h0
  | 1, hr =>
    simp at hr
    subst hr
    refine ⟨g, 0, rfl, hg, fun j v hv => ?_⟩
    match j, hv with
    | 0, hv => simp [encI] at hv; subst hv; simpa using h1
theorem pr2 {x y : Int} (hx : In64 x) : prN [x, y] = okN (x * y) ∧ prE [x, y] = okE (x * y) := by
  have e : prodF 1 [x, y] = if in64 (x * y) then some (x * y) else none := by
    have h1 : in64 (1 * x) = true := in64_iff.2 (by rw [Int.one_mul]; exact hx)
    unfold prodF
    rw [if_pos h1, Int.one_mul]
    rfl
  unfold prN prE okN okE
  rw [e]
  by_cases h : in64 (x * y) = true
  · rw [if_pos h, if_pos h, if_pos h]; exact ⟨rfl, rfl⟩
  · rw [if_neg h, if_neg h, if_neg h]; exact ⟨rfl, rfl⟩
theorem fixProd2 (x y : Int) (g : Nat) (w : World) (hx : In64 x) (hy : In64 y) (hg : g < w.heap.size) (h0 : w.cell? ⟨g, 0, none⟩ = some (.int .i64 x)) (h1 : w.cell? ⟨g, 1, none⟩ = some (.int .i64 y)) :
    Calls Try.prog 125 #[.slice (some ⟨g, 0, none⟩) 2 2] w fun e w' => e = .returned (.tuple #[.int .i64 (okN (x * y)), .int .i64 (okE (x * y))]) ∧ Below w.heap.size w w' := by
  have h := fixProduct [x, y] (some ⟨g, 0, none⟩) 2 w (by simp) (by intro n hn; simp at hn; rcases hn with rfl | rfl <;> assumption) (rd_ints2 hg h0 h1)
  rw [(pr2 hx).1, (pr2 hx).2] at h
  exact h
theorem okA_in {x : Asset} (h : okA x) : In64 x.price ∧ In64 (10000 - x.hair) := by
  unfold okA at h; unfold In64; omega
def worthN (x : Asset) (q : Int) : Int := if okA x then okN (q * x.price) else 0
def worthE (x : Asset) (q : Int) : Int := if okA x then okE (q * x.price) else 2
def countN (x : Asset) (q : Int) : Int := if okA x ∧ 0 ≤ q ∧ in64 (q * x.price) = true then countA x q else 0
def countE (x : Asset) (q : Int) : Int := if okA x then (if q < 0 then 2 else okE (q * x.price)) else 2
def sellN (x : Asset) (a : Int) : Int := if okA x ∧ 0 < a ∧ 0 < x.price then upOf a x.price else 0
def sellE (x : Asset) (a : Int) : Int := if okA x then (if 0 < a then (if 0 < x.price then 0 else 8) else 0) else 2
theorem upOf_in {a p : Int} (ha : In64 a) (h0 : 0 < a) (hp : 0 < p) : In64 (upOf a p) := by
  unfold In64 at ha
  unfold upOf In64
  have h1 : 0 ≤ a / p := Int.ediv_nonneg (by omega) (by omega)
  have h2 := Int.ediv_le_self p (show 0 ≤ a by omega)
  by_cases e : p = 1
  · subst e; rw [Int.emod_one]; simp; omega
  · have h3 : a / p < a := Int.ediv_lt_of_lt_mul hp (by
      have : a * 1 < a * p := Int.mul_lt_mul_of_pos_left (by omega) h0
      omega)
    split <;> omega
end Go.Proofs.Ytiidplinmempcaa

/- Instruments: contracts of inst.Gain, inst.Shock. -/
namespace Go.Proofs.Ytiidplinmempcaa
open Go.RowKit
theorem mul_le_of {a b : Int} {A B : Nat} (ha : a.natAbs ≤ A) (hb : b.natAbs ≤ B) (C : Nat) (h : A * B ≤ C) : - (C : Int) ≤ a * b ∧ a * b ≤ C := by
  have := abs_mul_le ha hb
  omega
def gainN (x : Inst) (q f t : Int) : Int := if okG x f t then okN (gainI x q f t) else 0
def gainE (x : Inst) (q f t : Int) : Int := if okG x f t then okE (gainI x q f t) else 2
end Go.Proofs.Ytiidplinmempcaa

/- Instruments: contract of inst.Shock. -/
namespace Go.Proofs.Ytiidplinmempcaa
open Go.RowKit
theorem shock_no {x : Inst} {q s : Int} (h : ¬ okS x s) : shockI x q s = 0 := if_neg h
set_option maxRecDepth 100000 in
set_option maxHeartbeats 8000000 in
theorem instShockNo (x : Inst) (q s : Int) (A : Option Addr) (c : Nat) (w : World) (hl : x.moves.length ≤ 1099511627776) (hr : Rd w A 1 (x.moves.map encI)) (h : ¬ okS x s) :
    Calls Try.prog 73 #[.agg #[.int .i64 (x).id, .int .i64 (x).mult, .int .i64 (x).price, .int .i64 (x).next, .slice A (x).moves.length c], .int .i64 q, .int .i64 s] w fun e w' => e = .returned (.agg #[.int .i64 0, .int .u64 0]) ∧ Below w.heap.size w w' := by
  have c1 := fun W h => instCheck x A c W hl h
  have HR := Lib.hid hr
  clear hr
  by_cases h1 : okI x
  · rw [codeI_yes h1] at c1
    have C1 := Lib.hid c1
    clear c1
    generalize hn : x.moves.length = n at *
    by_cases h2 : s < 0
    · have d2 : decide (s < 0) = true := by simpa using h2
      clear h h1 hn
      go_enter Try.func73, Try.ntmps73
      go_wp2_with (first | (go_at_call 124; (with_reducible refine (C1.out _ (HR.out.keep (by (repeat' (first | (with_reducible exact Below.refl _ _) | (with_reducible assumption) | (with_reducible refine Below.alloc ?_ ?_ _) | (with_reducible refine Below.setCell ?_ ?_ _) | (with_reducible refine Below.drew ?_) | (with_reducible refine below_drewN ?_ _) | (with_reducible refine below_via ?_ (by with_reducible assumption) ?_) | omega | (simp; done) | (simp; omega)))))).mono ?_); rintro e w1 ⟨rfl, hb1⟩; obtain ⟨fc1, fg1, hc1, hf1, hz1⟩ := bget hb1; (try simp at hz1)) | fail)
      all_goals
        refine bodyPost_ret (by simp [results, Try.results73, go_sem, hc1]; try rfl) rfl ⟨rfl, ?_⟩
        (repeat' (first | (with_reducible exact Below.refl _ _) | (with_reducible assumption) | (with_reducible refine Below.alloc ?_ ?_ _) | (with_reducible refine Below.setCell ?_ ?_ _) | (with_reducible refine Below.drew ?_) | (with_reducible refine below_drewN ?_ _) | (with_reducible refine below_via ?_ (by with_reducible assumption) ?_) | omega | (simp; done) | (simp; omega)))
    · have d2 : decide (s < 0) = false := by simpa using h2
      have d3 : decide ((n : Int) ≤ s) = true := by
        rw [← hn]
        rw [decide_eq_true_iff]
        by_cases h3 : s < (x.moves.length : Int)
        · exact absurd ⟨h1, by omega, h3⟩ h
        · omega
      clear h h1 hn
      go_enter Try.func73, Try.ntmps73
      go_wp2_with (first | (go_at_call 124; (with_reducible refine (C1.out _ (HR.out.keep (by (repeat' (first | (with_reducible exact Below.refl _ _) | (with_reducible assumption) | (with_reducible refine Below.alloc ?_ ?_ _) | (with_reducible refine Below.setCell ?_ ?_ _) | (with_reducible refine Below.drew ?_) | (with_reducible refine below_drewN ?_ _) | (with_reducible refine below_via ?_ (by with_reducible assumption) ?_) | omega | (simp; done) | (simp; omega)))))).mono ?_); rintro e w1 ⟨rfl, hb1⟩; obtain ⟨fc1, fg1, hc1, hf1, hz1⟩ := bget hb1; (try simp at hz1)) | fail)
      all_goals
        refine bodyPost_ret (by simp [results, Try.results73, go_sem, hc1]; try rfl) rfl ⟨rfl, ?_⟩
        (repeat' (first | (with_reducible exact Below.refl _ _) | (with_reducible assumption) | (with_reducible refine Below.alloc ?_ ?_ _) | (with_reducible refine Below.setCell ?_ ?_ _) | (with_reducible refine Below.drew ?_) | (with_reducible refine below_drewN ?_ _) | (with_reducible refine below_via ?_ (by with_reducible assumption) ?_) | omega | (simp; done) | (simp; omega)))
  · rw [codeI_no h1] at c1
    have C1 := Lib.hid c1
    clear c1 h h1
    go_enter Try.func73, Try.ntmps73
    go_wp2_with (first | (go_at_call 124; (with_reducible refine (C1.out _ (HR.out.keep (by (repeat' (first | (with_reducible exact Below.refl _ _) | (with_reducible assumption) | (with_reducible refine Below.alloc ?_ ?_ _) | (with_reducible refine Below.setCell ?_ ?_ _) | (with_reducible refine Below.drew ?_) | (with_reducible refine below_drewN ?_ _) | (with_reducible refine below_via ?_ (by with_reducible assumption) ?_) | omega | (simp; done) | (simp; omega)))))).mono ?_); rintro e w1 ⟨rfl, hb1⟩; obtain ⟨fc1, fg1, hc1, hf1, hz1⟩ := bget hb1; (try simp at hz1)) | fail)
    all_goals
      refine bodyPost_ret (by simp [results, Try.results73, go_sem, hc1]; try rfl) rfl ⟨rfl, ?_⟩
      (repeat' (first | (with_reducible exact Below.refl _ _) | (with_reducible assumption) | (with_reducible refine Below.alloc ?_ ?_ _) | (with_reducible refine Below.setCell ?_ ?_ _) | (with_reducible refine Below.drew ?_) | (with_reducible refine below_drewN ?_ _) | (with_reducible refine below_via ?_ (by with_reducible assumption) ?_) | omega | (simp; done) | (simp; omega)))
set_option maxRecDepth 100000 in
set_option maxHeartbeats 8000000 in
theorem instShockYes (x : Inst) (q : Int) (k : Nat) (A : Option Addr) (c : Nat) (w : World) (hq : In64 q) (hr : Rd w A 1 (x.moves.map encI)) (hk : k < x.moves.length) (h : okI x) :
    Calls Try.prog 73 #[.agg #[.int .i64 (x).id, .int .i64 (x).mult, .int .i64 (x).price, .int .i64 (x).next, .slice A (x).moves.length c], .int .i64 q, .int .i64 k] w fun e w' => e = .returned (.agg #[.int .i64 (whi (x.moves[k] * x.mult * q)), .int .u64 (wlo (x.moves[k] * x.mult * q))]) ∧ Below w.heap.size w w' := by
  have hl8 := h.2.2.2.2.2.2.1
  have c1 := fun W h => instCheck x A c W (by omega) h
  have HR := Lib.hid hr
  rw [codeI_yes h] at c1
  have C1 := Lib.hid c1
  have hm := h.2.2
  obtain ⟨b, o, rfl, hb, hcm⟩ := hr k (encI x.moves[k]) (by simp [hk])
  have e0 := hcm 0 _ rfl
  have hmv := okI_move h hk
  generalize x.moves[k] = m at *
  have i1 : In64 m := by unfold In64; omega
  have i2 : In64 x.mult := by unfold In64; omega
  have e1 := mul_le_of (a := m) (b := x.mult) (A := 2147483647) (B := 65536) (by omega) (by omega) 140737488289792 (by omega)
  have i3 : In64 (m * x.mult) := by unfold In64; omega
  have d2 : decide ((k : Int) < 0) = false := by simp
  have hkn : (k : Int) < (x.moves.length : Int) := by omega
  have d3 : decide ((x.moves.length : Int) ≤ (k : Int)) = false := by simp; omega
  have hln : x.moves.length ≤ 8 := hm.2.2.2.2.1
  simp at e0
  have c2 := fun g W hg h0 h1 => fixProd2 m x.mult g W i1 i2 hg h0 h1
  rw [(okN_yes i3).1, (okN_yes i3).2] at c2
  have c3 := fun W => wideMul (m * x.mult) q W i3 hq
  generalize m * x.mult * q = g3 at *
  generalize m * x.mult = g2 at *
  generalize x.moves.length = n at *
  have C2 := Lib.hid c2
  have C3 := Lib.hid c3
  clear c1 c2 c3 h hm hr hcm e1 i1 i2 i3 hmv
  go_enter Try.func73, Try.ntmps73
  go_wp2_with (first | (go_at_call 124; (with_reducible refine (C1.out _ (HR.out.keep (by (repeat' (first | (with_reducible exact Below.refl _ _) | (with_reducible assumption) | (with_reducible refine Below.alloc ?_ ?_ _) | (with_reducible refine Below.setCell ?_ ?_ _) | (with_reducible refine Below.drew ?_) | (with_reducible refine below_drewN ?_ _) | (with_reducible refine below_via ?_ (by with_reducible assumption) ?_) | omega | (simp; done) | (simp; omega)))))).mono ?_); rintro e w1 ⟨rfl, hb1⟩; obtain ⟨fc1, fg1, hc1, hf1, hz1⟩ := bget hb1; (try simp at hz1)) | fail)
  go_region_held3 (fun w' => (w'.cell? ⟨w.heap.size, 1, none⟩ = some (.int .i64 x.mult) ∧ w'.cell? ⟨w.heap.size, 4, none⟩ = some (.slice (some ⟨b, o, none⟩) n c)) ∧ w'.cell? ⟨b, o + k, none⟩ = some (.int .i64 m)) (first | (simp [go_sem]; done) | (repeat' (first | (with_reducible assumption) | (with_reducible refine And.intro ?_ ?_) | (with_reducible refine cell_drew ?_) | (with_reducible refine cell_via (by with_reducible assumption) ?_ ?_) | (simp [*]; done) | (simp [go_sem]; done) | (with_reducible refine cell_alloc ?_ ?_) | (with_reducible refine cell_set_far ?_ ?_) | omega | (simp; omega)))) (first | (go_at_call 125; (with_reducible refine (C2.out _ _ ?_ ?_ ?_).mono ?_); (focus (first | (simp; done) | (simp; omega))); (focus (first | (simp [go_sem]; done) | (simp [go_sem, ↓IntWalk.iteOmega]; done))); (focus (first | (simp [go_sem]; done) | (simp [go_sem, ↓IntWalk.iteOmega]; done))); rintro e w2 ⟨rfl, hb2⟩; obtain ⟨fc2, fg2, hc2, hf2, hz2⟩ := bget hb2; (try simp at hz2)) | fail)
  all_goals
    go_wp2_with (first | (go_at_call 126; (with_reducible refine (C3.out _).mono ?_); rintro e w3 ⟨rfl, hb3⟩; obtain ⟨fc3, fg3, hc3, hf3, hz3⟩ := bget hb3; (try simp at hz3)) | fail)
    refine bodyPost_ret (by simp [results, Try.results73, go_sem, hc1, hc2, hc3, ↓IntWalk.iteOmega]; try rfl) rfl ⟨rfl, ?_⟩
    (repeat' (first | (with_reducible exact Below.refl _ _) | (with_reducible assumption) | (with_reducible refine Below.alloc ?_ ?_ _) | (with_reducible refine Below.setCell ?_ ?_ _) | (with_reducible refine Below.drew ?_) | (with_reducible refine below_drewN ?_ _) | (with_reducible refine below_via ?_ (by with_reducible assumption) ?_) | omega | (simp; done) | (simp; omega)))
end Go.Proofs.Ytiidplinmempcaa

/- Instruments: contracts of the reference's Is, Gain, Shock. -/
namespace Go.Proofs.Ytiidplinmempcaa
open Go.RowKit
theorem pricedRef (p : Int) (w : World) : Calls Try.prog 164 #[.int .i64 p] w fun e w' => e = .returned (.bool (pricedI p)) ∧ Below w.heap.size w w' := by
  by_cases h : 0 ≤ p
  · have d1 : decide (0 ≤ p) = true := by simpa using h
    have HP := Lib.hid (show pricedI p = decide (p < 2147483648) from by unfold pricedI; rw [d1, Bool.true_and]; exact decide_eq_decide.2 (by omega))
    go_enter Try.func164, Try.ntmps164
    go_wp2_with fail
    go_ret
    exact ⟨by rw [HP.out]; first | done | rfl, by (repeat' (first | (with_reducible exact Below.refl _ _) | (with_reducible assumption) | (with_reducible refine Below.alloc ?_ ?_ _) | (with_reducible refine Below.setCell ?_ ?_ _) | (with_reducible refine Below.drew ?_) | (with_reducible refine below_drewN ?_ _) | (with_reducible refine below_via ?_ (by with_reducible assumption) ?_) | omega | (simp; done) | (simp; omega)))⟩
  · have d1 : decide (0 ≤ p) = false := by simpa using h
    have HP := Lib.hid (show pricedI p = false from by unfold pricedI; rw [d1]; rfl)
    go_enter Try.func164, Try.ntmps164
    go_wp2_with fail
    go_ret
    exact ⟨by rw [HP.out]; first | done | rfl, by (repeat' (first | (with_reducible exact Below.refl _ _) | (with_reducible assumption) | (with_reducible refine Below.alloc ?_ ?_ _) | (with_reducible refine Below.setCell ?_ ?_ _) | (with_reducible refine Below.drew ?_) | (with_reducible refine below_drewN ?_ _) | (with_reducible refine below_via ?_ (by with_reducible assumption) ?_) | omega | (simp; done) | (simp; omega)))⟩
set_option maxRecDepth 100000 in
set_option maxHeartbeats 8000000 in
theorem ref13Is (x : Inst) (A : Option Addr) (c : Nat) (w : World) (hl : x.moves.length ≤ 1099511627776) (hr : Rd w A 1 (x.moves.map encI)) :
    Calls Try.prog 134 #[.agg #[.int .i64 (x).id, .int .i64 (x).mult, .int .i64 (x).price, .int .i64 (x).next, .slice A (x).moves.length c]] w fun e w' => e = .returned (.bool (decide (okI x))) ∧ Below w.heap.size w w' := by
  have HR := Lib.hid hr
  obtain ⟨pb, hpb⟩ : ∃ pb, pb = pricedI x.price := ⟨_, rfl⟩
  obtain ⟨nb, hnb⟩ : ∃ nb, nb = pricedI x.next := ⟨_, rfl⟩
  have c1 := fun W => pricedRef x.price W
  have c2 := fun W => pricedRef x.next W
  rw [← hpb] at c1
  rw [← hnb] at c2
  have C1 := Lib.hid c1
  have C2 := Lib.hid c2
  clear c1 c2 hr
  by_cases t0 : x.id < 1
  · have d0 := decide_eq_true t0
    have HNO := Lib.hid (decide_eq_false (show ¬ okI x from fun hk => by unfold okI at hk; omega))
    go_enter Try.func134, Try.ntmps134
    go_wp2_with (first | (go_at_call 164; (with_reducible refine (C1.out _).mono ?_); rintro e w1 ⟨rfl, hb1⟩; obtain ⟨fc1, fg1, hc1, hf1, hz1⟩ := bget hb1; (try simp at hz1)) | (go_at_call 164; (with_reducible refine (C2.out _).mono ?_); rintro e w2 ⟨rfl, hb2⟩; obtain ⟨fc2, fg2, hc2, hf2, hz2⟩ := bget hb2; (try simp at hz2)) | fail)
    go_ret
    exact ⟨by rw [HNO.out]; first | done | rfl, by (repeat' (first | (with_reducible exact Below.refl _ _) | (with_reducible assumption) | (with_reducible refine Below.alloc ?_ ?_ _) | (with_reducible refine Below.setCell ?_ ?_ _) | (with_reducible refine Below.drew ?_) | (with_reducible refine below_drewN ?_ _) | (with_reducible refine below_via ?_ (by with_reducible assumption) ?_) | omega | (simp; done) | (simp; omega)))⟩
  have d0 := decide_eq_false t0
  by_cases t1 : 8 < x.id
  · have d1 := decide_eq_true t1
    have HNO := Lib.hid (decide_eq_false (show ¬ okI x from fun hk => by unfold okI at hk; omega))
    go_enter Try.func134, Try.ntmps134
    go_wp2_with (first | (go_at_call 164; (with_reducible refine (C1.out _).mono ?_); rintro e w1 ⟨rfl, hb1⟩; obtain ⟨fc1, fg1, hc1, hf1, hz1⟩ := bget hb1; (try simp at hz1)) | (go_at_call 164; (with_reducible refine (C2.out _).mono ?_); rintro e w2 ⟨rfl, hb2⟩; obtain ⟨fc2, fg2, hc2, hf2, hz2⟩ := bget hb2; (try simp at hz2)) | fail)
    go_ret
    exact ⟨by rw [HNO.out]; first | done | rfl, by (repeat' (first | (with_reducible exact Below.refl _ _) | (with_reducible assumption) | (with_reducible refine Below.alloc ?_ ?_ _) | (with_reducible refine Below.setCell ?_ ?_ _) | (with_reducible refine Below.drew ?_) | (with_reducible refine below_drewN ?_ _) | (with_reducible refine below_via ?_ (by with_reducible assumption) ?_) | omega | (simp; done) | (simp; omega)))⟩
  have d1 := decide_eq_false t1
  by_cases t2 : x.mult < 1
  · have d2 := decide_eq_true t2
    have HNO := Lib.hid (decide_eq_false (show ¬ okI x from fun hk => by unfold okI at hk; omega))
    go_enter Try.func134, Try.ntmps134
    go_wp2_with (first | (go_at_call 164; (with_reducible refine (C1.out _).mono ?_); rintro e w1 ⟨rfl, hb1⟩; obtain ⟨fc1, fg1, hc1, hf1, hz1⟩ := bget hb1; (try simp at hz1)) | (go_at_call 164; (with_reducible refine (C2.out _).mono ?_); rintro e w2 ⟨rfl, hb2⟩; obtain ⟨fc2, fg2, hc2, hf2, hz2⟩ := bget hb2; (try simp at hz2)) | fail)
    go_ret
    exact ⟨by rw [HNO.out]; first | done | rfl, by (repeat' (first | (with_reducible exact Below.refl _ _) | (with_reducible assumption) | (with_reducible refine Below.alloc ?_ ?_ _) | (with_reducible refine Below.setCell ?_ ?_ _) | (with_reducible refine Below.drew ?_) | (with_reducible refine below_drewN ?_ _) | (with_reducible refine below_via ?_ (by with_reducible assumption) ?_) | omega | (simp; done) | (simp; omega)))⟩
  have d2 := decide_eq_false t2
  by_cases t3 : 65536 < x.mult
  · have d3 := decide_eq_true t3
    have HNO := Lib.hid (decide_eq_false (show ¬ okI x from fun hk => by unfold okI at hk; omega))
    go_enter Try.func134, Try.ntmps134
    go_wp2_with (first | (go_at_call 164; (with_reducible refine (C1.out _).mono ?_); rintro e w1 ⟨rfl, hb1⟩; obtain ⟨fc1, fg1, hc1, hf1, hz1⟩ := bget hb1; (try simp at hz1)) | (go_at_call 164; (with_reducible refine (C2.out _).mono ?_); rintro e w2 ⟨rfl, hb2⟩; obtain ⟨fc2, fg2, hc2, hf2, hz2⟩ := bget hb2; (try simp at hz2)) | fail)
    go_ret
    exact ⟨by rw [HNO.out]; first | done | rfl, by (repeat' (first | (with_reducible exact Below.refl _ _) | (with_reducible assumption) | (with_reducible refine Below.alloc ?_ ?_ _) | (with_reducible refine Below.setCell ?_ ?_ _) | (with_reducible refine Below.drew ?_) | (with_reducible refine below_drewN ?_ _) | (with_reducible refine below_via ?_ (by with_reducible assumption) ?_) | omega | (simp; done) | (simp; omega)))⟩
  have d3 := decide_eq_false t3
  cases pb
  · have t5 := pricedI_no hpb.symm
    clear hpb hnb
    have HNO := Lib.hid (decide_eq_false (show ¬ okI x from fun hk => by unfold okI at hk; omega))
    go_enter Try.func134, Try.ntmps134
    go_wp2_with (first | (go_at_call 164; (with_reducible refine (C1.out _).mono ?_); rintro e w1 ⟨rfl, hb1⟩; obtain ⟨fc1, fg1, hc1, hf1, hz1⟩ := bget hb1; (try simp at hz1)) | (go_at_call 164; (with_reducible refine (C2.out _).mono ?_); rintro e w2 ⟨rfl, hb2⟩; obtain ⟨fc2, fg2, hc2, hf2, hz2⟩ := bget hb2; (try simp at hz2)) | fail)
    go_ret
    exact ⟨by rw [HNO.out]; first | done | rfl, by (repeat' (first | (with_reducible exact Below.refl _ _) | (with_reducible assumption) | (with_reducible refine Below.alloc ?_ ?_ _) | (with_reducible refine Below.setCell ?_ ?_ _) | (with_reducible refine Below.drew ?_) | (with_reducible refine below_drewN ?_ _) | (with_reducible refine below_via ?_ (by with_reducible assumption) ?_) | omega | (simp; done) | (simp; omega)))⟩
  replace hpb := pricedI_iff.1 hpb.symm
  cases nb
  · have t6 := pricedI_no hnb.symm
    clear hnb
    have HNO := Lib.hid (decide_eq_false (show ¬ okI x from fun hk => by unfold okI at hk; omega))
    go_enter Try.func134, Try.ntmps134
    go_wp2_with (first | (go_at_call 164; (with_reducible refine (C1.out _).mono ?_); rintro e w1 ⟨rfl, hb1⟩; obtain ⟨fc1, fg1, hc1, hf1, hz1⟩ := bget hb1; (try simp at hz1)) | (go_at_call 164; (with_reducible refine (C2.out _).mono ?_); rintro e w2 ⟨rfl, hb2⟩; obtain ⟨fc2, fg2, hc2, hf2, hz2⟩ := bget hb2; (try simp at hz2)) | fail)
    go_ret
    exact ⟨by rw [HNO.out]; first | done | rfl, by (repeat' (first | (with_reducible exact Below.refl _ _) | (with_reducible assumption) | (with_reducible refine Below.alloc ?_ ?_ _) | (with_reducible refine Below.setCell ?_ ?_ _) | (with_reducible refine Below.drew ?_) | (with_reducible refine below_drewN ?_ _) | (with_reducible refine below_via ?_ (by with_reducible assumption) ?_) | omega | (simp; done) | (simp; omega)))⟩
  replace hnb := pricedI_iff.1 hnb.symm
  by_cases t7 : 8 < (x.moves.length : Int)
  · have d7 := decide_eq_true t7
    have HNO := Lib.hid (decide_eq_false (show ¬ okI x from fun hk => by unfold okI at hk; omega))
    go_enter Try.func134, Try.ntmps134
    go_wp2_with (first | (go_at_call 164; (with_reducible refine (C1.out _).mono ?_); rintro e w1 ⟨rfl, hb1⟩; obtain ⟨fc1, fg1, hc1, hf1, hz1⟩ := bget hb1; (try simp at hz1)) | (go_at_call 164; (with_reducible refine (C2.out _).mono ?_); rintro e w2 ⟨rfl, hb2⟩; obtain ⟨fc2, fg2, hc2, hf2, hz2⟩ := bget hb2; (try simp at hz2)) | fail)
    go_ret
    exact ⟨by rw [HNO.out]; first | done | rfl, by (repeat' (first | (with_reducible exact Below.refl _ _) | (with_reducible assumption) | (with_reducible refine Below.alloc ?_ ?_ _) | (with_reducible refine Below.setCell ?_ ?_ _) | (with_reducible refine Below.drew ?_) | (with_reducible refine below_drewN ?_ _) | (with_reducible refine below_via ?_ (by with_reducible assumption) ?_) | omega | (simp; done) | (simp; omega)))⟩
  have d7 := decide_eq_false t7
  go_enter Try.func134, Try.ntmps134
  go_wp2_with (first | (go_at_call 164; (with_reducible refine (C1.out _).mono ?_); rintro e w1 ⟨rfl, hb1⟩; obtain ⟨fc1, fg1, hc1, hf1, hz1⟩ := bget hb1; (try simp at hz1)) | (go_at_call 164; (with_reducible refine (C2.out _).mono ?_); rintro e w2 ⟨rfl, hb2⟩; obtain ⟨fc2, fg2, hc2, hf2, hz2⟩ := bget hb2; (try simp at hz2)) | fail)
  go_loopw [3] (fun i wr => ∃ k : Nat, k ≤ x.moves.length ∧ i = .int .i64 k ∧ wr = w2 ∧ ∀ j (_ : j < x.moves.length), j < k → farI x.moves[j] = false) (fun i _ => x.moves.length - (intOf i).toNat)
  case atStart => exact ⟨0, Nat.zero_le _, rfl, rfl, fun j _ h => absurd h (by omega)⟩
  case round =>
    obtain ⟨k, hk, rfl, rfl, hno⟩ := hrel
    have Hno := Lib.hid hno
    clear hno
    by_cases hlt : k < x.moves.length
    · have hlt2 : (k : Int) < (x.moves.length : Int) := by omega
      have dl : decide ((k : Int) < (x.moves.length : Int)) = true := by simpa using hlt
      obtain ⟨b, o, rfl, hb, hq⟩ := HR.out k (encI x.moves[k]) (by simp [hlt])
      have e0 := hq 0 _ rfl
      simp at e0
      clear hq
      by_cases h1 : x.moves[k] < -2147483647
      · have g1 : decide (x.moves[k] < -2147483647) = true := by simpa using h1
        have HNO := Lib.hid (decide_eq_false (show ¬ okI x from fun hk => by have := okI_move hk hlt; omega))
        go_wp2_with fail
        go_ret
        exact ⟨by rw [HNO.out]; first | done | rfl, by (repeat' (first | (with_reducible exact Below.refl _ _) | (with_reducible assumption) | (with_reducible refine Below.alloc ?_ ?_ _) | (with_reducible refine Below.setCell ?_ ?_ _) | (with_reducible refine Below.drew ?_) | (with_reducible refine below_drewN ?_ _) | (with_reducible refine below_via ?_ (by with_reducible assumption) ?_) | omega | (simp; done) | (simp; omega)))⟩
      · have g1 : decide (x.moves[k] < -2147483647) = false := by simpa using h1
        by_cases h2 : 2147483647 < x.moves[k]
        · have g2 : decide (2147483647 < x.moves[k]) = true := by simpa using h2
          have HNO := Lib.hid (decide_eq_false (show ¬ okI x from fun hk => by have := okI_move hk hlt; omega))
          go_wp2_with fail
          go_ret
          exact ⟨by rw [HNO.out]; first | done | rfl, by (repeat' (first | (with_reducible exact Below.refl _ _) | (with_reducible assumption) | (with_reducible refine Below.alloc ?_ ?_ _) | (with_reducible refine Below.setCell ?_ ?_ _) | (with_reducible refine Below.drew ?_) | (with_reducible refine below_drewN ?_ _) | (with_reducible refine below_via ?_ (by with_reducible assumption) ?_) | omega | (simp; done) | (simp; omega)))⟩
        · have g2 : decide (2147483647 < x.moves[k]) = false := by simpa using h2
          go_wp2_with fail
          go_roundw
          case rel => exact ⟨k + 1, by omega, by go_num, by trivial, fun j hj h => by
            rcases Nat.lt_or_ge j k with h3 | h3
            · exact Hno.out j hj h3
            · obtain rfl : j = k := by omega
              unfold farI
              rw [g1, g2]; rfl⟩
          case measure => simp [intOf]; omega
    · have dl : decide ((k : Int) < (x.moves.length : Int)) = false := by simpa using hlt
      have hfar : anyFar x.moves = false := by
        unfold anyFar
        rw [List.any_eq_false]
        intro m hm
        obtain ⟨j, hj, rfl⟩ := List.mem_iff_getElem.1 hm
        rw [Hno.out j hj (by omega)]
        simp
      have HYES := Lib.hid (decide_eq_true (show okI x from ⟨by omega, by omega, by omega, by omega, hpb, hnb, by omega, hfar⟩))
      go_wp2_with fail
      go_ret
      exact ⟨by rw [HYES.out]; first | done | rfl, by (repeat' (first | (with_reducible exact Below.refl _ _) | (with_reducible assumption) | (with_reducible refine Below.alloc ?_ ?_ _) | (with_reducible refine Below.setCell ?_ ?_ _) | (with_reducible refine Below.drew ?_) | (with_reducible refine below_drewN ?_ _) | (with_reducible refine below_via ?_ (by with_reducible assumption) ?_) | omega | (simp; done) | (simp; omega)))⟩
end Go.Proofs.Ytiidplinmempcaa

/- Instruments: the contract of inst.Shock whole; of the reference's Shock; the law's short, lives. -/
namespace Go.Proofs.Ytiidplinmempcaa
open Go.RowKit
theorem shock_yes {x : Inst} {q : Int} {k : Nat} (h : okI x) (hk : k < x.moves.length) : shockI x q k = x.moves[k] * x.mult * q := by
  unfold shockI
  rw [if_pos ⟨h, by omega, by omega⟩, Int.toNat_natCast, getD_at hk, Int.mul_comm q, Int.mul_comm (x.mult * q), Int.mul_assoc]
theorem okS_nat {x : Inst} {s : Int} (h : okS x s) : ∃ k : Nat, s = k ∧ k < x.moves.length := ⟨s.toNat, by have := h.2; omega, by have := h.2; omega⟩
theorem shock_in {x : Inst} {q s : Int} (hq : In64 q) : In128 (shockI x q s) := by
  by_cases h : okS x s
  · obtain ⟨k, rfl, hk⟩ := okS_nat h
    rw [shock_yes h.1 hk]
    have hmv := okI_move h.1 hk
    have hm := h.1.2.2
    have e1 := mul_le_of (a := x.moves[k]) (b := x.mult) (A := 2147483647) (B := 65536) (by omega) (by omega) 140737488289792 (by omega)
    have e2 := mul_le_of (a := x.moves[k] * x.mult) (b := q) (A := 140737488355328) (B := 9223372036854775808) (by omega) (by unfold In64 at hq; omega) 1298074214633706907132624082305024 (by omega)
    unfold In128; omega
  · rw [shock_no h]; unfold In128; omega
theorem instShock (x : Inst) (q s : Int) (A : Option Addr) (c : Nat) (w : World) (hq : In64 q) (hl : x.moves.length ≤ 1099511627776) (hr : Rd w A 1 (x.moves.map encI)) :
    Calls Try.prog 73 #[.agg #[.int .i64 (x).id, .int .i64 (x).mult, .int .i64 (x).price, .int .i64 (x).next, .slice A (x).moves.length c], .int .i64 q, .int .i64 s] w fun e w' => e = .returned (.agg #[.int .i64 (whi (shockI x q s)), .int .u64 (wlo (shockI x q s))]) ∧ Below w.heap.size w w' := by
  by_cases h : okS x s
  · obtain ⟨k, rfl, hk⟩ := okS_nat h
    rw [shock_yes h.1 hk]
    exact instShockYes x q k A c w hq hr hk h.1
  · rw [shock_no h, whi_zero, wlo_zero]
    exact instShockNo x q s A c w hl hr h
set_option maxRecDepth 100000 in
set_option maxHeartbeats 8000000 in
theorem ref13ShockNo (x : Inst) (q s : Int) (A : Option Addr) (c : Nat) (w : World) (hl : x.moves.length ≤ 1099511627776) (hr : Rd w A 1 (x.moves.map encI)) (h : ¬ okS x s) :
    Calls Try.prog 79 #[.agg #[.int .i64 (x).id, .int .i64 (x).mult, .int .i64 (x).price, .int .i64 (x).next, .slice A (x).moves.length c], .int .i64 q, .int .i64 s] w (BigPost w 0 300) := by
  have c1 := fun W h => ref13Is x A c W hl h
  have HR := Lib.hid hr
  clear hr
  by_cases h1 : okI x
  · rw [decide_eq_true h1] at c1
    have C1 := Lib.hid c1
    clear c1
    generalize hn : x.moves.length = n at *
    by_cases h2 : s < 0
    · have d2 : decide (s < 0) = true := by simpa using h2
      clear h h1 hn
      go_enter Try.func79, Try.ntmps79
      go_wp2_with (first | (go_at_call 134; (with_reducible refine (C1.out _ (HR.out.keep (by (repeat' (first | (with_reducible exact Below.refl _ _) | (with_reducible assumption) | (with_reducible refine Below.alloc ?_ ?_ _) | (with_reducible refine Below.setCell ?_ ?_ _) | (with_reducible refine Below.drew ?_) | (with_reducible refine below_drewN ?_ _) | (with_reducible refine below_via ?_ (by with_reducible assumption) ?_) | omega | (simp; done) | (simp; omega)))))).mono ?_); rintro e w1 ⟨rfl, hb1⟩; obtain ⟨fc1, fg1, hc1, hf1, hz1⟩ := bget hb1; (try simp at hz1)) | fail)
      all_goals
        refine bigRet (s := false) (A := none) (l := []) (c := 0) rfl rfl rfl ?_ ?_ isBig_nil2 (by simp) ?_
        · (first | (simp [go_sem, *]; done) | (simp [go_sem, *, ↓IntWalk.iteOmega]; done))
        · (first | (simp [go_sem, *]; done) | (simp [go_sem, *, ↓IntWalk.iteOmega]; done))
        · (repeat' (first | (with_reducible exact Below.refl _ _) | (with_reducible assumption) | (with_reducible refine Below.alloc ?_ ?_ _) | (with_reducible refine Below.setCell ?_ ?_ _) | (with_reducible refine Below.drew ?_) | (with_reducible refine below_drewN ?_ _) | (with_reducible refine below_via ?_ (by with_reducible assumption) ?_) | omega | (simp; done) | (simp; omega)))
    · have d2 : decide (s < 0) = false := by simpa using h2
      have d3 : decide ((n : Int) ≤ s) = true := by
        rw [← hn]
        rw [decide_eq_true_iff]
        by_cases h3 : s < (x.moves.length : Int)
        · exact absurd ⟨h1, by omega, h3⟩ h
        · omega
      clear h h1 hn
      go_enter Try.func79, Try.ntmps79
      go_wp2_with (first | (go_at_call 134; (with_reducible refine (C1.out _ (HR.out.keep (by (repeat' (first | (with_reducible exact Below.refl _ _) | (with_reducible assumption) | (with_reducible refine Below.alloc ?_ ?_ _) | (with_reducible refine Below.setCell ?_ ?_ _) | (with_reducible refine Below.drew ?_) | (with_reducible refine below_drewN ?_ _) | (with_reducible refine below_via ?_ (by with_reducible assumption) ?_) | omega | (simp; done) | (simp; omega)))))).mono ?_); rintro e w1 ⟨rfl, hb1⟩; obtain ⟨fc1, fg1, hc1, hf1, hz1⟩ := bget hb1; (try simp at hz1)) | fail)
      all_goals
        refine bigRet (s := false) (A := none) (l := []) (c := 0) rfl rfl rfl ?_ ?_ isBig_nil2 (by simp) ?_
        · (first | (simp [go_sem, *]; done) | (simp [go_sem, *, ↓IntWalk.iteOmega]; done))
        · (first | (simp [go_sem, *]; done) | (simp [go_sem, *, ↓IntWalk.iteOmega]; done))
        · (repeat' (first | (with_reducible exact Below.refl _ _) | (with_reducible assumption) | (with_reducible refine Below.alloc ?_ ?_ _) | (with_reducible refine Below.setCell ?_ ?_ _) | (with_reducible refine Below.drew ?_) | (with_reducible refine below_drewN ?_ _) | (with_reducible refine below_via ?_ (by with_reducible assumption) ?_) | omega | (simp; done) | (simp; omega)))
  · rw [decide_eq_false h1] at c1
    have C1 := Lib.hid c1
    clear c1 h h1
    go_enter Try.func79, Try.ntmps79
    go_wp2_with (first | (go_at_call 134; (with_reducible refine (C1.out _ (HR.out.keep (by (repeat' (first | (with_reducible exact Below.refl _ _) | (with_reducible assumption) | (with_reducible refine Below.alloc ?_ ?_ _) | (with_reducible refine Below.setCell ?_ ?_ _) | (with_reducible refine Below.drew ?_) | (with_reducible refine below_drewN ?_ _) | (with_reducible refine below_via ?_ (by with_reducible assumption) ?_) | omega | (simp; done) | (simp; omega)))))).mono ?_); rintro e w1 ⟨rfl, hb1⟩; obtain ⟨fc1, fg1, hc1, hf1, hz1⟩ := bget hb1; (try simp at hz1)) | fail)
    all_goals
      refine bigRet (s := false) (A := none) (l := []) (c := 0) rfl rfl rfl ?_ ?_ isBig_nil2 (by simp) ?_
      · (first | (simp [go_sem, *]; done) | (simp [go_sem, *, ↓IntWalk.iteOmega]; done))
      · (first | (simp [go_sem, *]; done) | (simp [go_sem, *, ↓IntWalk.iteOmega]; done))
      · (repeat' (first | (with_reducible exact Below.refl _ _) | (with_reducible assumption) | (with_reducible refine Below.alloc ?_ ?_ _) | (with_reducible refine Below.setCell ?_ ?_ _) | (with_reducible refine Below.drew ?_) | (with_reducible refine below_drewN ?_ _) | (with_reducible refine below_via ?_ (by with_reducible assumption) ?_) | omega | (simp; done) | (simp; omega)))
set_option maxRecDepth 100000 in
set_option maxHeartbeats 8000000 in
theorem ref13ShockYes (x : Inst) (q : Int) (k : Nat) (A : Option Addr) (c : Nat) (w : World) (hq : In64 q) (hr : Rd w A 1 (x.moves.map encI)) (hk : k < x.moves.length) (h : okI x) :
    Calls Try.prog 79 #[.agg #[.int .i64 (x).id, .int .i64 (x).mult, .int .i64 (x).price, .int .i64 (x).next, .slice A (x).moves.length c], .int .i64 q, .int .i64 k] w (BigPost w (q * x.mult * x.moves[k]) 300) := by
  have hl8 := h.2.2.2.2.2.2.1
  have c1 := fun W h => ref13Is x A c W (by omega) h
  have HR := Lib.hid hr
  rw [decide_eq_true h] at c1
  have C1 := Lib.hid c1
  have hm := h.2.2
  obtain ⟨b, o, rfl, hb, hcm⟩ := hr k (encI x.moves[k]) (by simp [hk])
  have e0 := hcm 0 _ rfl
  have hmv := okI_move h hk
  generalize x.moves[k] = m at *
  have i1 : In64 m := by unfold In64; omega
  have i2 : In64 x.mult := by unfold In64; omega
  have d2 : decide ((k : Int) < 0) = false := by simp
  have hkn : (k : Int) < (x.moves.length : Int) := by omega
  have d3 : decide ((x.moves.length : Int) ≤ (k : Int)) = false := by simp; omega
  simp at e0
  generalize x.moves.length = n at *
  clear c1 h hm hr hcm hmv
  go_enter Try.func79, Try.ntmps79
  go_wp2_with (first | (go_at_call 134; (with_reducible refine (C1.out _ (HR.out.keep (by (repeat' (first | (with_reducible exact Below.refl _ _) | (with_reducible assumption) | (with_reducible refine Below.alloc ?_ ?_ _) | (with_reducible refine Below.setCell ?_ ?_ _) | (with_reducible refine Below.drew ?_) | (with_reducible refine below_drewN ?_ _) | (with_reducible refine below_via ?_ (by with_reducible assumption) ?_) | omega | (simp; done) | (simp; omega)))))).mono ?_); rintro e w1 ⟨rfl, hb1⟩; obtain ⟨fc1, fg1, hc1, hf1, hz1⟩ := bget hb1; (try simp at hz1)) | fail)
  go_region_held3 (fun w' => (w'.cell? ⟨w.heap.size, 1, none⟩ = some (.int .i64 x.mult) ∧ w'.cell? ⟨w.heap.size, 4, none⟩ = some (.slice (some ⟨b, o, none⟩) n c)) ∧ w'.cell? ⟨b, o + k, none⟩ = some (.int .i64 m)) (first | (simp [go_sem]; done) | (repeat' (first | (with_reducible assumption) | (with_reducible refine And.intro ?_ ?_) | (with_reducible refine cell_drew ?_) | (with_reducible refine cell_via (by with_reducible assumption) ?_ ?_) | (simp [*]; done) | (simp [go_sem]; done) | (with_reducible refine cell_alloc ?_ ?_) | (with_reducible refine cell_set_far ?_ ?_) | omega | (simp; omega)))) (first | (go_at_call 25; (with_reducible refine (bigOf q _ hq).mono ?_); rintro e w2 ⟨s2, A2, l2, c2, rfl, hB2, hl2, hb2⟩; have HB2 := Lib.hid hB2; clear hB2; obtain ⟨fc2, fg2, hc2, hf2, hz2⟩ := bget hb2; (try simp at hz2)) | (go_at_call 25; (with_reducible refine (bigOf x.mult _ i2).mono ?_); rintro e w3 ⟨s3, A3, l3, c3, rfl, hB3, hl3, hb3⟩; have HB3 := Lib.hid hB3; clear hB3; obtain ⟨fc3, fg3, hc3, hf3, hz3⟩ := bget hb3; (try simp at hz3)) | (go_at_call 135; (with_reducible refine (bigMul q x.mult s2 s3 l2 l3 A2 A3 c2 c3 65 _ (by omega) hl2 hl3 (HB2.out.keep (by (repeat' (first | (with_reducible exact Below.refl _ _) | (with_reducible assumption) | (with_reducible refine Below.alloc ?_ ?_ _) | (with_reducible refine Below.setCell ?_ ?_ _) | (with_reducible refine Below.drew ?_) | (with_reducible refine below_drewN ?_ _) | (with_reducible refine below_via ?_ (by with_reducible assumption) ?_) | omega | (simp; done) | (simp; omega))))) (HB3.out.keep (by (repeat' (first | (with_reducible exact Below.refl _ _) | (with_reducible assumption) | (with_reducible refine Below.alloc ?_ ?_ _) | (with_reducible refine Below.setCell ?_ ?_ _) | (with_reducible refine Below.drew ?_) | (with_reducible refine below_drewN ?_ _) | (with_reducible refine below_via ?_ (by with_reducible assumption) ?_) | omega | (simp; done) | (simp; omega)))))).mono ?_); rintro e w4 ⟨s4, A4, l4, c4, rfl, hB4, hl4, hb4⟩; have HB4 := Lib.hid hB4; clear hB4; obtain ⟨fc4, fg4, hc4, hf4, hz4⟩ := bget hb4; (try simp at hz4)) | (go_at_call 25; (with_reducible refine (bigOf m _ i1).mono ?_); rintro e w5 ⟨s5, A5, l5, c5, rfl, hB5, hl5, hb5⟩; have HB5 := Lib.hid hB5; clear hB5; obtain ⟨fc5, fg5, hc5, hf5, hz5⟩ := bget hb5; (try simp at hz5)) | (go_at_call 135; (with_reducible refine (bigMul (q * x.mult) m s4 s5 l4 l5 A4 A5 c4 c5 130 _ (by omega) (by omega) (by omega) (HB4.out.keep (by (repeat' (first | (with_reducible exact Below.refl _ _) | (with_reducible assumption) | (with_reducible refine Below.alloc ?_ ?_ _) | (with_reducible refine Below.setCell ?_ ?_ _) | (with_reducible refine Below.drew ?_) | (with_reducible refine below_drewN ?_ _) | (with_reducible refine below_via ?_ (by with_reducible assumption) ?_) | omega | (simp; done) | (simp; omega))))) (HB5.out.keep (by (repeat' (first | (with_reducible exact Below.refl _ _) | (with_reducible assumption) | (with_reducible refine Below.alloc ?_ ?_ _) | (with_reducible refine Below.setCell ?_ ?_ _) | (with_reducible refine Below.drew ?_) | (with_reducible refine below_drewN ?_ _) | (with_reducible refine below_via ?_ (by with_reducible assumption) ?_) | omega | (simp; done) | (simp; omega)))))).mono ?_); rintro e w6 ⟨s6, A6, l6, c6, rfl, hB6, hl6, hb6⟩; have HB6 := Lib.hid hB6; clear hB6; obtain ⟨fc6, fg6, hc6, hf6, hz6⟩ := bget hb6; (try simp at hz6)) | fail)
  all_goals
    go_wp2_with fail
    refine bigRet rfl rfl rfl ?_ ?_ ?_ (by omega) ?_
    · (first | (simp [go_sem, *]; done) | (simp [go_sem, *, ↓IntWalk.iteOmega]; done))
    · (first | (simp [go_sem, *]; done) | (simp [go_sem, *, ↓IntWalk.iteOmega]; done))
    · (repeat' (first | (focus ((refine (HB6.out).keep ?_); (repeat' (first | (with_reducible exact Below.refl _ _) | (with_reducible assumption) | (with_reducible refine Below.alloc ?_ ?_ _) | (with_reducible refine Below.setCell ?_ ?_ _) | (with_reducible refine Below.drew ?_) | (with_reducible refine below_drewN ?_ _) | (with_reducible refine below_via ?_ (by with_reducible assumption) ?_) | omega | (simp; done) | (simp; omega))); done)) | (refine IsBig.far (v0 := .slice none 0 0) ?_ ?_ ?_ _; rotate_left; (focus (simp [go_sem, *]; done)); (focus (simp; done))) | (refine IsBig.far (v0 := .bool false) ?_ ?_ ?_ _; rotate_left; (focus (simp [go_sem, *]; done)); (focus (simp; done))) | fail))
    · (repeat' (first | (with_reducible exact Below.refl _ _) | (with_reducible assumption) | (with_reducible refine Below.alloc ?_ ?_ _) | (with_reducible refine Below.setCell ?_ ?_ _) | (with_reducible refine Below.drew ?_) | (with_reducible refine below_drewN ?_ _) | (with_reducible refine below_via ?_ (by with_reducible assumption) ?_) | omega | (simp; done) | (simp; omega)))
theorem ref13Shock (x : Inst) (q s : Int) (A : Option Addr) (c : Nat) (w : World) (hq : In64 q) (hl : x.moves.length ≤ 1099511627776) (hr : Rd w A 1 (x.moves.map encI)) :
    Calls Try.prog 79 #[.agg #[.int .i64 (x).id, .int .i64 (x).mult, .int .i64 (x).price, .int .i64 (x).next, .slice A (x).moves.length c], .int .i64 q, .int .i64 s] w (BigPost w (shockI x q s) 300) := by
  by_cases h : okS x s
  · obtain ⟨k, rfl, hk⟩ := okS_nat h
    rw [shock_yes h.1 hk]
    have e : x.moves[k] * x.mult * q = q * x.mult * x.moves[k] := by rw [Int.mul_comm _ q, Int.mul_comm x.moves[k], Int.mul_assoc]
    rw [e]
    exact ref13ShockYes x q k A c w hq hr hk h.1
  · rw [shock_no h]
    exact ref13ShockNo x q s A c w hl hr h
/-- An instrument of 12 moves at most. -/
def shortI (x : Inst) : Inst := { x with moves := x.moves.take 12 }
theorem rd_takeI {w : World} {A : Option Addr} {l : List Int} (h : Rd w A 1 (l.map encI)) (k : Nat) : Rd w A 1 ((l.take k).map encI) := by
  intro i r hr
  rw [List.map_take, List.getElem?_take] at hr
  split at hr
  · exact h i r hr
  · cases hr
end Go.Proofs.Ytiidplinmempcaa
