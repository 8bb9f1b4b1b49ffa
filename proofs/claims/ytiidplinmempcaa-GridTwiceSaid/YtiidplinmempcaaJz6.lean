/- Joined: LawF5, Asset2, Inst2, Inst3, BigRet, Ref13, Dig0, Store, Wide8. -/
import Derived.Test.YtiidplinmempcaaJz5
import Derived.Test.YtiidplinmempcaaJz2
import Derived.Test.YtiidplinmempcaaJz1
import Derived.Test.YtiidplinmempcaaJz3
import Derived.Lib.ItoaNum
import Derived.Laws.IdiomStrings
/- Layer 2: the reference's Sum, Product; fix.Product. -/
namespace Go.Proofs.Ytiidplinmempcaa
open Go.RowKit
theorem isBig_nil2 {w : World} : IsBig w 0 false none [] 0 := ⟨fun i r hr => by simp at hr, bit_nil, top_nil, rfl, by simp, by simp, rfl⟩
theorem sum_take1 (l : List Int) (k : Nat) (h : k < l.length) : (l.take (k + 1)).sum = (l.take k).sum + l[k] := by
  rw [List.take_succ_eq_append_getElem h, List.sum_append]; simp
def prodF : Int → List Int → Option Int
  | a, [] => some a
  | a, x :: l => if in64 (a * x) then prodF (a * x) l else none
theorem prodF_step {l : List Int} {k : Nat} (h : k < l.length) (p : Int) : prodF p (l.drop k) = if in64 (p * l[k]) then prodF (p * l[k]) (l.drop (k + 1)) else none := by
  rw [List.drop_eq_getElem_cons h]; rfl
theorem prodF_end {l : List Int} {k : Nat} (h : ¬ k < l.length) (p : Int) : prodF p (l.drop k) = some p := by
  rw [List.drop_eq_nil_of_le (by omega)]; rfl
theorem big64_len {w : World} {p : Int} {s : Bool} {A : Option Addr} {l : List Int} {c : Nat} (h : IsBig w p s A l c) (hp : In64 p) : l.length ≤ 64 := by
  refine len_le h.bit h.top (k := 64) ?_
  rw [h.val]
  have : pw 64 = 18446744073709551616 := by decide
  rw [this]
  unfold In64 at hp
  unfold iabs; split <;> omega
def prN (l : List Int) : Int := (prodF 1 l).getD 0
def prE (l : List Int) : Int := if (prodF 1 l).isSome then 0 else 7
set_option maxRecDepth 100000 in
set_option maxHeartbeats 8000000 in
theorem fixProduct (l : List Int) (A : Option Addr) (c : Nat) (w : World) (h40 : l.length ≤ 40) (hin : ∀ n ∈ l, In64 n) (hr : Rd w A 1 (l.map encI)) :
    Calls Try.prog 125 #[.slice A l.length c] w fun e w' => e = .returned (.tuple #[.int .i64 (prN l), .int .i64 (prE l)]) ∧ Below w.heap.size w w' := by
  have HR := Lib.hid hr
  have HIN := Lib.hid hin
  clear hr hin
  go_enter Try.func125, Try.ntmps125
  go_wp2_with fail
  go_loopw [4, 11] (fun v i wr => ∃ (k : Nat) (p : Int), k ≤ l.length ∧ i = .int .i64 k ∧ v = .int .i64 p ∧ In64 p ∧ prodF 1 l = prodF p (l.drop k) ∧ Below w.heap.size w wr) (fun _ i _ => l.length - (intOf i).toNat)
  case atStart => exact ⟨0, 1, Nat.zero_le _, rfl, rfl, by unfold In64; omega, rfl, by (repeat' (first | (with_reducible exact Below.refl _ _) | (with_reducible assumption) | (with_reducible refine Below.alloc ?_ ?_ _) | (with_reducible refine Below.setCell ?_ ?_ _) | (with_reducible refine Below.drew ?_) | (with_reducible refine below_drewN ?_ _) | (with_reducible refine below_via ?_ (by with_reducible assumption) ?_) | omega | (simp; done) | (simp; omega)))⟩
  case round =>
    obtain ⟨k, p, hk, rfl, rfl, hp, hpr, hbl⟩ := hrel
    have hz := hbl.size
    have Hbl := Lib.hid hbl
    clear hbl
    by_cases hlt : k < l.length
    · have d2 : decide ((k : Int) < (l.length : Int)) = true := by simpa using hlt
      rw [prodF_step hlt] at hpr
      obtain ⟨b, o, hA, hb, q⟩ := HR.out k (encI l[k]) (by simp [hlt])
      have q0 := (Hbl.out.cell (p := ⟨b, o + k * 1 + 0, none⟩) (hb)).trans (q 0 _ rfl)
      have hx := HIN.out l[k] (List.getElem_mem hlt)
      obtain ⟨x, hxe⟩ : ∃ x, x = l[k] := ⟨_, rfl⟩
      rw [← hxe] at q0 hx
      have hbw : b < wr.heap.size := (by omega)
      simp at q0
      clear q
      cases hA
      rw [← hxe] at hpr
      clear hxe
      have h128 := mul64_128 hp hx
      by_cases h64 : In64 (p * x)
      · rw [in64_iff.2 h64, if_pos rfl] at hpr
        have HPR := Lib.hid hpr
        clear hpr
        go_wp2_with (first | (go_at_call 126; (with_reducible refine (wideMul p x _ hp hx).mono ?_); rintro e w1 ⟨rfl, hb1⟩; obtain ⟨fc1, fg1, hc1, hf1, hz1⟩ := bget hb1; (try simp at hz1)) | (go_at_call 82; (with_reducible refine (wideIntYes (p * x) _ h64).mono ?_); rintro e w2 ⟨rfl, hb2⟩; obtain ⟨fc2, fg2, hc2, hf2, hz2⟩ := bget hb2; (try simp at hz2)) | fail)
        go_roundw
        case rel => exact ⟨k + 1, p * x, by omega, by go_num, rfl, h64, HPR.out, by (have hbl := Hbl.out; (repeat' (first | (with_reducible exact Below.refl _ _) | (with_reducible assumption) | (with_reducible refine Below.alloc ?_ ?_ _) | (with_reducible refine Below.setCell ?_ ?_ _) | (with_reducible refine Below.drew ?_) | (with_reducible refine below_drewN ?_ _) | (with_reducible refine below_via ?_ (by with_reducible assumption) ?_) | omega | (simp; done) | (simp; omega))))⟩
        case measure => (simp [intOf]; omega)
      · rw [in64_not' h64, if_neg (by simp)] at hpr
        have HPN := Lib.hid (show prN l = 0 from by unfold prN; rw [hpr]; rfl)
        have HPE := Lib.hid (show prE l = 7 from by unfold prE; rw [hpr]; rfl)
        clear hpr
        go_wp2_with (first | (go_at_call 126; (with_reducible refine (wideMul p x _ hp hx).mono ?_); rintro e w1 ⟨rfl, hb1⟩; obtain ⟨fc1, fg1, hc1, hf1, hz1⟩ := bget hb1; (try simp at hz1)) | (go_at_call 82; (with_reducible refine (wideIntNo (p * x) _ h128 h64).mono ?_); rintro e w2 ⟨rfl, hb2⟩; obtain ⟨fc2, fg2, hc2, hf2, hz2⟩ := bget hb2; (try simp at hz2)) | fail)
        go_ret2
        exact ⟨by rw [HPN.out, HPE.out]; first | done | rfl, by (have hbl := Hbl.out; (repeat' (first | (with_reducible exact Below.refl _ _) | (with_reducible assumption) | (with_reducible refine Below.alloc ?_ ?_ _) | (with_reducible refine Below.setCell ?_ ?_ _) | (with_reducible refine Below.drew ?_) | (with_reducible refine below_drewN ?_ _) | (with_reducible refine below_via ?_ (by with_reducible assumption) ?_) | omega | (simp; done) | (simp; omega))))⟩
    · have d2 : decide ((k : Int) < (l.length : Int)) = false := by simpa using hlt
      rw [prodF_end hlt] at hpr
      have HPN := Lib.hid (show prN l = p from by unfold prN; rw [hpr]; rfl)
      have HPE := Lib.hid (show prE l = 0 from by unfold prE; rw [hpr]; rfl)
      clear hpr
      go_wp2_with fail
      go_ret2
      exact ⟨by rw [HPN.out, HPE.out]; first | done | rfl, by (have hbl := Hbl.out; (repeat' (first | (with_reducible exact Below.refl _ _) | (with_reducible assumption) | (with_reducible refine Below.alloc ?_ ?_ _) | (with_reducible refine Below.setCell ?_ ?_ _) | (with_reducible refine Below.drew ?_) | (with_reducible refine below_drewN ?_ _) | (with_reducible refine below_via ?_ (by with_reducible assumption) ?_) | omega | (simp; done) | (simp; omega))))⟩
end Go.Proofs.Ytiidplinmempcaa

/- Assets: asset.Worth, Count, Sell, and the reference's. -/
namespace Go.Proofs.Ytiidplinmempcaa
open Go.RowKit
theorem rd_ints2 {w : World} {g : Nat} {x y : Int} (hg : g < w.heap.size) (h0 : w.cell? ⟨g, 0, none⟩ = some (.int .i64 x)) (h1 : w.cell? ⟨g, 1, none⟩ = some (.int .i64 y)) : Rd w (some ⟨g, 0, none⟩) 1 ([x, y].map encI) := by
  intro i r hr
  match i, hr with
  | 0, hr =>
    simp at hr
    subst hr
    refine ⟨g, 0, rfl, hg, fun j v hv => ?_⟩
    match j, hv with
    | 0, hv => simp [encI] at hv; subst hv; simpa using h0
  | 1, hr =>
    simp at hr
    subst hr
    refine ⟨g, 0, rfl, hg, fun j v hv => ?_⟩
    match j, hv with
    | 0, hv => simp [encI] at hv; subst hv; simpa using h1
theorem pr2 {x y : Int} (hx : In64 x) : prN [x, y] = okN (x * y) ∧ prE [x, y] = okE (x * y) := by
  have e : prodF 1 [x, y] = if in64 (x * y) then some (x * y) else none := by
    have h1 : in64 (1 * x) = true := in64_iff.2 (by rw [Int.one_mul]; exact hx)
    unfold prodF
    rw [if_pos h1, Int.one_mul]
    rfl
  unfold prN prE okN okE
  rw [e]
  by_cases h : in64 (x * y) = true
  · rw [if_pos h, if_pos h, if_pos h]; exact ⟨rfl, rfl⟩
  · rw [if_neg h, if_neg h, if_neg h]; exact ⟨rfl, rfl⟩
theorem fixProd2 (x y : Int) (g : Nat) (w : World) (hx : In64 x) (hy : In64 y) (hg : g < w.heap.size) (h0 : w.cell? ⟨g, 0, none⟩ = some (.int .i64 x)) (h1 : w.cell? ⟨g, 1, none⟩ = some (.int .i64 y)) :
    Calls Try.prog 125 #[.slice (some ⟨g, 0, none⟩) 2 2] w fun e w' => e = .returned (.tuple #[.int .i64 (okN (x * y)), .int .i64 (okE (x * y))]) ∧ Below w.heap.size w w' := by
  have h := fixProduct [x, y] (some ⟨g, 0, none⟩) 2 w (by simp) (by intro n hn; simp at hn; rcases hn with rfl | rfl <;> assumption) (rd_ints2 hg h0 h1)
  rw [(pr2 hx).1, (pr2 hx).2] at h
  exact h
theorem okA_in {x : Asset} (h : okA x) : In64 x.price ∧ In64 (10000 - x.hair) := by
  unfold okA at h; unfold In64; omega
def worthN (x : Asset) (q : Int) : Int := if okA x then okN (q * x.price) else 0
def worthE (x : Asset) (q : Int) : Int := if okA x then okE (q * x.price) else 2
def countN (x : Asset) (q : Int) : Int := if okA x ∧ 0 ≤ q ∧ in64 (q * x.price) = true then countA x q else 0
def countE (x : Asset) (q : Int) : Int := if okA x then (if q < 0 then 2 else okE (q * x.price)) else 2
def sellN (x : Asset) (a : Int) : Int := if okA x ∧ 0 < a ∧ 0 < x.price then upOf a x.price else 0
def sellE (x : Asset) (a : Int) : Int := if okA x then (if 0 < a then (if 0 < x.price then 0 else 8) else 0) else 2
theorem upOf_in {a p : Int} (ha : In64 a) (h0 : 0 < a) (hp : 0 < p) : In64 (upOf a p) := by
  unfold In64 at ha
  unfold upOf In64
  have h1 : 0 ≤ a / p := Int.ediv_nonneg (by omega) (by omega)
  have h2 := Int.ediv_le_self p (show 0 ≤ a by omega)
  by_cases e : p = 1
  · subst e; rw [Int.emod_one]; simp; omega
  · have h3 : a / p < a := Int.ediv_lt_of_lt_mul hp (by
      have : a * 1 < a * p := Int.mul_lt_mul_of_pos_left (by omega) h0
      omega)
    split <;> omega
end Go.Proofs.Ytiidplinmempcaa

/- Instruments: contracts of inst.Gain, inst.Shock. -/
namespace Go.Proofs.Ytiidplinmempcaa
open Go.RowKit
theorem mul_le_of {a b : Int} {A B : Nat} (ha : a.natAbs ≤ A) (hb : b.natAbs ≤ B) (C : Nat) (h : A * B ≤ C) : - (C : Int) ≤ a * b ∧ a * b ≤ C := by
  have := abs_mul_le ha hb
  omega
def gainN (x : Inst) (q f t : Int) : Int := if okG x f t then okN (gainI x q f t) else 0
def gainE (x : Inst) (q f t : Int) : Int := if okG x f t then okE (gainI x q f t) else 2
end Go.Proofs.Ytiidplinmempcaa

/- Instruments: contract of inst.Shock. -/
namespace Go.Proofs.Ytiidplinmempcaa
open Go.RowKit
theorem shock_no {x : Inst} {q s : Int} (h : ¬ okS x s) : shockI x q s = 0 := if_neg h
set_option maxRecDepth 100000 in
set_option maxHeartbeats 8000000 in
theorem instShockNo (x : Inst) (q s : Int) (A : Option Addr) (c : Nat) (w : World) (hl : x.moves.length ≤ 1099511627776) (hr : Rd w A 1 (x.moves.map encI)) (h : ¬ okS x s) :
    Calls Try.prog 73 #[.agg #[.int .i64 (x).id, .int .i64 (x).mult, .int .i64 (x).price, .int .i64 (x).next, .slice A (x).moves.length c], .int .i64 q, .int .i64 s] w fun e w' => e = .returned (.agg #[.int .i64 0, .int .u64 0]) ∧ Below w.heap.size w w' := by
  have c1 := fun W h => instCheck x A c W hl h
  have HR := Lib.hid hr
  clear hr
  by_cases h1 : okI x
  · rw [codeI_yes h1] at c1
    have C1 := Lib.hid c1
    clear c1
    generalize hn : x.moves.length = n at *
    by_cases h2 : s < 0
    · have d2 : decide (s < 0) = true := by simpa using h2
      clear h h1 hn
      go_enter Try.func73, Try.ntmps73
      go_wp2_with (first | (go_at_call 124; (with_reducible refine (C1.out _ (HR.out.keep (by (repeat' (first | (with_reducible exact Below.refl _ _) | (with_reducible assumption) | (with_reducible refine Below.alloc ?_ ?_ _) | (with_reducible refine Below.setCell ?_ ?_ _) | (with_reducible refine Below.drew ?_) | (with_reducible refine below_drewN ?_ _) | (with_reducible refine below_via ?_ (by with_reducible assumption) ?_) | omega | (simp; done) | (simp; omega)))))).mono ?_); rintro e w1 ⟨rfl, hb1⟩; obtain ⟨fc1, fg1, hc1, hf1, hz1⟩ := bget hb1; (try simp at hz1)) | fail)
      all_goals
        refine bodyPost_ret (by simp [results, Try.results73, go_sem, hc1]; try rfl) rfl ⟨rfl, ?_⟩
        (repeat' (first | (with_reducible exact Below.refl _ _) | (with_reducible assumption) | (with_reducible refine Below.alloc ?_ ?_ _) | (with_reducible refine Below.setCell ?_ ?_ _) | (with_reducible refine Below.drew ?_) | (with_reducible refine below_drewN ?_ _) | (with_reducible refine below_via ?_ (by with_reducible assumption) ?_) | omega | (simp; done) | (simp; omega)))
    · have d2 : decide (s < 0) = false := by simpa using h2
      have d3 : decide ((n : Int) ≤ s) = true := by
        rw [← hn]
        rw [decide_eq_true_iff]
        by_cases h3 : s < (x.moves.length : Int)
        · exact absurd ⟨h1, by omega, h3⟩ h
        · omega
      clear h h1 hn
      go_enter Try.func73, Try.ntmps73
      go_wp2_with (first | (go_at_call 124; (with_reducible refine (C1.out _ (HR.out.keep (by (repeat' (first | (with_reducible exact Below.refl _ _) | (with_reducible assumption) | (with_reducible refine Below.alloc ?_ ?_ _) | (with_reducible refine Below.setCell ?_ ?_ _) | (with_reducible refine Below.drew ?_) | (with_reducible refine below_drewN ?_ _) | (with_reducible refine below_via ?_ (by with_reducible assumption) ?_) | omega | (simp; done) | (simp; omega)))))).mono ?_); rintro e w1 ⟨rfl, hb1⟩; obtain ⟨fc1, fg1, hc1, hf1, hz1⟩ := bget hb1; (try simp at hz1)) | fail)
      all_goals
        refine bodyPost_ret (by simp [results, Try.results73, go_sem, hc1]; try rfl) rfl ⟨rfl, ?_⟩
        (repeat' (first | (with_reducible exact Below.refl _ _) | (with_reducible assumption) | (with_reducible refine Below.alloc ?_ ?_ _) | (with_reducible refine Below.setCell ?_ ?_ _) | (with_reducible refine Below.drew ?_) | (with_reducible refine below_drewN ?_ _) | (with_reducible refine below_via ?_ (by with_reducible assumption) ?_) | omega | (simp; done) | (simp; omega)))
  · rw [codeI_no h1] at c1
    have C1 := Lib.hid c1
    clear c1 h h1
    go_enter Try.func73, Try.ntmps73
    go_wp2_with (first | (go_at_call 124; (with_reducible refine (C1.out _ (HR.out.keep (by (repeat' (first | (with_reducible exact Below.refl _ _) | (with_reducible assumption) | (with_reducible refine Below.alloc ?_ ?_ _) | (with_reducible refine Below.setCell ?_ ?_ _) | (with_reducible refine Below.drew ?_) | (with_reducible refine below_drewN ?_ _) | (with_reducible refine below_via ?_ (by with_reducible assumption) ?_) | omega | (simp; done) | (simp; omega)))))).mono ?_); rintro e w1 ⟨rfl, hb1⟩; obtain ⟨fc1, fg1, hc1, hf1, hz1⟩ := bget hb1; (try simp at hz1)) | fail)
    all_goals
      refine bodyPost_ret (by simp [results, Try.results73, go_sem, hc1]; try rfl) rfl ⟨rfl, ?_⟩
      (repeat' (first | (with_reducible exact Below.refl _ _) | (with_reducible assumption) | (with_reducible refine Below.alloc ?_ ?_ _) | (with_reducible refine Below.setCell ?_ ?_ _) | (with_reducible refine Below.drew ?_) | (with_reducible refine below_drewN ?_ _) | (with_reducible refine below_via ?_ (by with_reducible assumption) ?_) | omega | (simp; done) | (simp; omega)))
set_option maxRecDepth 100000 in
set_option maxHeartbeats 8000000 in
theorem instShockYes (x : Inst) (q : Int) (k : Nat) (A : Option Addr) (c : Nat) (w : World) (hq : In64 q) (hr : Rd w A 1 (x.moves.map encI)) (hk : k < x.moves.length) (h : okI x) :
    Calls Try.prog 73 #[.agg #[.int .i64 (x).id, .int .i64 (x).mult, .int .i64 (x).price, .int .i64 (x).next, .slice A (x).moves.length c], .int .i64 q, .int .i64 k] w fun e w' => e = .returned (.agg #[.int .i64 (whi (x.moves[k] * x.mult * q)), .int .u64 (wlo (x.moves[k] * x.mult * q))]) ∧ Below w.heap.size w w' := by
  have hl8 := h.2.2.2.2.2.2.1
  have c1 := fun W h => instCheck x A c W (by omega) h
  have HR := Lib.hid hr
  rw [codeI_yes h] at c1
  have C1 := Lib.hid c1
  have hm := h.2.2
  obtain ⟨b, o, rfl, hb, hcm⟩ := hr k (encI x.moves[k]) (by simp [hk])
  have e0 := hcm 0 _ rfl
  have hmv := okI_move h hk
  generalize x.moves[k] = m at *
  have i1 : In64 m := by unfold In64; omega
  have i2 : In64 x.mult := by unfold In64; omega
  have e1 := mul_le_of (a := m) (b := x.mult) (A := 2147483647) (B := 65536) (by omega) (by omega) 140737488289792 (by omega)
  have i3 : In64 (m * x.mult) := by unfold In64; omega
  have d2 : decide ((k : Int) < 0) = false := by simp
  have hkn : (k : Int) < (x.moves.length : Int) := by omega
  have d3 : decide ((x.moves.length : Int) ≤ (k : Int)) = false := by simp; omega
  have hln : x.moves.length ≤ 8 := hm.2.2.2.2.1
  simp at e0
  have c2 := fun g W hg h0 h1 => fixProd2 m x.mult g W i1 i2 hg h0 h1
  rw [(okN_yes i3).1, (okN_yes i3).2] at c2
  have c3 := fun W => wideMul (m * x.mult) q W i3 hq
  generalize m * x.mult * q = g3 at *
  generalize m * x.mult = g2 at *
  generalize x.moves.length = n at *
  have C2 := Lib.hid c2
  have C3 := Lib.hid c3
  clear c1 c2 c3 h hm hr hcm e1 i1 i2 i3 hmv
  go_enter Try.func73, Try.ntmps73
  go_wp2_with (first | (go_at_call 124; (with_reducible refine (C1.out _ (HR.out.keep (by (repeat' (first | (with_reducible exact Below.refl _ _) | (with_reducible assumption) | (with_reducible refine Below.alloc ?_ ?_ _) | (with_reducible refine Below.setCell ?_ ?_ _) | (with_reducible refine Below.drew ?_) | (with_reducible refine below_drewN ?_ _) | (with_reducible refine below_via ?_ (by with_reducible assumption) ?_) | omega | (simp; done) | (simp; omega)))))).mono ?_); rintro e w1 ⟨rfl, hb1⟩; obtain ⟨fc1, fg1, hc1, hf1, hz1⟩ := bget hb1; (try simp at hz1)) | fail)
  go_region_held3 (fun w' => (w'.cell? ⟨w.heap.size, 1, none⟩ = some (.int .i64 x.mult) ∧ w'.cell? ⟨w.heap.size, 4, none⟩ = some (.slice (some ⟨b, o, none⟩) n c)) ∧ w'.cell? ⟨b, o + k, none⟩ = some (.int .i64 m)) (first | (simp [go_sem]; done) | (repeat' (first | (with_reducible assumption) | (with_reducible refine And.intro ?_ ?_) | (with_reducible refine cell_drew ?_) | (with_reducible refine cell_via (by with_reducible assumption) ?_ ?_) | (simp [*]; done) | (simp [go_sem]; done) | (with_reducible refine cell_alloc ?_ ?_) | (with_reducible refine cell_set_far ?_ ?_) | omega | (simp; omega)))) (first | (go_at_call 125; (with_reducible refine (C2.out _ _ ?_ ?_ ?_).mono ?_); (focus (first | (simp; done) | (simp; omega))); (focus (first | (simp [go_sem]; done) | (simp [go_sem, ↓IntWalk.iteOmega]; done))); (focus (first | (simp [go_sem]; done) | (simp [go_sem, ↓IntWalk.iteOmega]; done))); rintro e w2 ⟨rfl, hb2⟩; obtain ⟨fc2, fg2, hc2, hf2, hz2⟩ := bget hb2; (try simp at hz2)) | fail)
  all_goals
    go_wp2_with (first | (go_at_call 126; (with_reducible refine (C3.out _).mono ?_); rintro e w3 ⟨rfl, hb3⟩; obtain ⟨fc3, fg3, hc3, hf3, hz3⟩ := bget hb3; (try simp at hz3)) | fail)
    refine bodyPost_ret (by simp [results, Try.results73, go_sem, hc1, hc2, hc3, ↓IntWalk.iteOmega]; try rfl) rfl ⟨rfl, ?_⟩
    (repeat' (first | (with_reducible exact Below.refl _ _) | (with_reducible assumption) | (with_reducible refine Below.alloc ?_ ?_ _) | (with_reducible refine Below.setCell ?_ ?_ _) | (with_reducible refine Below.drew ?_) | (with_reducible refine below_drewN ?_ _) | (with_reducible refine below_via ?_ (by with_reducible assumption) ?_) | omega | (simp; done) | (simp; omega)))
end Go.Proofs.Ytiidplinmempcaa

/- A function whose result is a big number in a cell of its own: its end. -/
namespace Go.Proofs.Ytiidplinmempcaa
open Go.RowKit
theorem bigRet {fn : Func} {slot : Nat} (hfn : fn.results = #[.cell slot 34]) {a : Act} {w wf : World} {g L : Nat} {n : Int} {s : Bool} {A : Option Addr} {l : List Int} {c : Nat}
    (ha : a.tmps[slot]?.getD undef = .pointer (some ⟨g, 0, none⟩)) (hd : a.defers = []) (h0 : wf.cell? ⟨g, 0, none⟩ = some (.bool false)) (h1 : wf.cell? ⟨g, 1, none⟩ = some (.slice none 0 0))
    (hB : IsBig wf n s A l c) (hl : l.length ≤ L) (hb : Below w.heap.size w ((wf.setCell ⟨g, 0, none⟩ (.bool s)).setCell ⟨g, 1, none⟩ (.slice A l.length c))) :
    bodyPost Try.prog fn (BigPost w n L) .ret a ((wf.setCell ⟨g, 0, none⟩ (.bool s)).setCell ⟨g, 1, none⟩ (.slice A l.length c)) := by
  refine bodyPost_ret (v := .agg #[.bool s, .slice A l.length c]) (by simp [results, hfn, ha, go_sem, h0, h1]; try rfl) hd ⟨s, A, l, c, rfl, (hB.far h0 (by simp) _).far ((World.cell?_setCell_other _ _ _ _ (by simp)).trans h1) (by simp) _, hl, hb⟩
end Go.Proofs.Ytiidplinmempcaa

/- Instruments: contracts of the reference's Is, Gain, Shock. -/
namespace Go.Proofs.Ytiidplinmempcaa
open Go.RowKit
theorem pricedRef (p : Int) (w : World) : Calls Try.prog 164 #[.int .i64 p] w fun e w' => e = .returned (.bool (pricedI p)) ∧ Below w.heap.size w w' := by
  by_cases h : 0 ≤ p
  · have d1 : decide (0 ≤ p) = true := by simpa using h
    have HP := Lib.hid (show pricedI p = decide (p < 2147483648) from by unfold pricedI; rw [d1, Bool.true_and]; exact decide_eq_decide.2 (by omega))
    go_enter Try.func164, Try.ntmps164
    go_wp2_with fail
    go_ret
    exact ⟨by rw [HP.out]; first | done | rfl, by (repeat' (first | (with_reducible exact Below.refl _ _) | (with_reducible assumption) | (with_reducible refine Below.alloc ?_ ?_ _) | (with_reducible refine Below.setCell ?_ ?_ _) | (with_reducible refine Below.drew ?_) | (with_reducible refine below_drewN ?_ _) | (with_reducible refine below_via ?_ (by with_reducible assumption) ?_) | omega | (simp; done) | (simp; omega)))⟩
  · have d1 : decide (0 ≤ p) = false := by simpa using h
    have HP := Lib.hid (show pricedI p = false from by unfold pricedI; rw [d1]; rfl)
    go_enter Try.func164, Try.ntmps164
    go_wp2_with fail
    go_ret
    exact ⟨by rw [HP.out]; first | done | rfl, by (repeat' (first | (with_reducible exact Below.refl _ _) | (with_reducible assumption) | (with_reducible refine Below.alloc ?_ ?_ _) | (with_reducible refine Below.setCell ?_ ?_ _) | (with_reducible refine Below.drew ?_) | (with_reducible refine below_drewN ?_ _) | (with_reducible refine below_via ?_ (by with_reducible assumption) ?_) | omega | (simp; done) | (simp; omega)))⟩
set_option maxRecDepth 100000 in
set_option maxHeartbeats 8000000 in
theorem ref13Is (x : Inst) (A : Option Addr) (c : Nat) (w : World) (hl : x.moves.length ≤ 1099511627776) (hr : Rd w A 1 (x.moves.map encI)) :
    Calls Try.prog 134 #[.agg #[.int .i64 (x).id, .int .i64 (x).mult, .int .i64 (x).price, .int .i64 (x).next, .slice A (x).moves.length c]] w fun e w' => e = .returned (.bool (decide (okI x))) ∧ Below w.heap.size w w' := by
  have HR := Lib.hid hr
  obtain ⟨pb, hpb⟩ : ∃ pb, pb = pricedI x.price := ⟨_, rfl⟩
  obtain ⟨nb, hnb⟩ : ∃ nb, nb = pricedI x.next := ⟨_, rfl⟩
  have c1 := fun W => pricedRef x.price W
  have c2 := fun W => pricedRef x.next W
  rw [← hpb] at c1
  rw [← hnb] at c2
  have C1 := Lib.hid c1
  have C2 := Lib.hid c2
  clear c1 c2 hr
  by_cases t0 : x.id < 1
  · have d0 := decide_eq_true t0
    have HNO := Lib.hid (decide_eq_false (show ¬ okI x from fun hk => by unfold okI at hk; omega))
    go_enter Try.func134, Try.ntmps134
    go_wp2_with (first | (go_at_call 164; (with_reducible refine (C1.out _).mono ?_); rintro e w1 ⟨rfl, hb1⟩; obtain ⟨fc1, fg1, hc1, hf1, hz1⟩ := bget hb1; (try simp at hz1)) | (go_at_call 164; (with_reducible refine (C2.out _).mono ?_); rintro e w2 ⟨rfl, hb2⟩; obtain ⟨fc2, fg2, hc2, hf2, hz2⟩ := bget hb2; (try simp at hz2)) | fail)
    go_ret
    exact ⟨by rw [HNO.out]; first | done | rfl, by (repeat' (first | (with_reducible exact Below.refl _ _) | (with_reducible assumption) | (with_reducible refine Below.alloc ?_ ?_ _) | (with_reducible refine Below.setCell ?_ ?_ _) | (with_reducible refine Below.drew ?_) | (with_reducible refine below_drewN ?_ _) | (with_reducible refine below_via ?_ (by with_reducible assumption) ?_) | omega | (simp; done) | (simp; omega)))⟩
  have d0 := decide_eq_false t0
  by_cases t1 : 8 < x.id
  · have d1 := decide_eq_true t1
    have HNO := Lib.hid (decide_eq_false (show ¬ okI x from fun hk => by unfold okI at hk; omega))
    go_enter Try.func134, Try.ntmps134
    go_wp2_with (first | (go_at_call 164; (with_reducible refine (C1.out _).mono ?_); rintro e w1 ⟨rfl, hb1⟩; obtain ⟨fc1, fg1, hc1, hf1, hz1⟩ := bget hb1; (try simp at hz1)) | (go_at_call 164; (with_reducible refine (C2.out _).mono ?_); rintro e w2 ⟨rfl, hb2⟩; obtain ⟨fc2, fg2, hc2, hf2, hz2⟩ := bget hb2; (try simp at hz2)) | fail)
    go_ret
    exact ⟨by rw [HNO.out]; first | done | rfl, by (repeat' (first | (with_reducible exact Below.refl _ _) | (with_reducible assumption) | (with_reducible refine Below.alloc ?_ ?_ _) | (with_reducible refine Below.setCell ?_ ?_ _) | (with_reducible refine Below.drew ?_) | (with_reducible refine below_drewN ?_ _) | (with_reducible refine below_via ?_ (by with_reducible assumption) ?_) | omega | (simp; done) | (simp; omega)))⟩
  have d1 := decide_eq_false t1
  by_cases t2 : x.mult < 1
  · have d2 := decide_eq_true t2
    have HNO := Lib.hid (decide_eq_false (show ¬ okI x from fun hk => by unfold okI at hk; omega))
    go_enter Try.func134, Try.ntmps134
    go_wp2_with (first | (go_at_call 164; (with_reducible refine (C1.out _).mono ?_); rintro e w1 ⟨rfl, hb1⟩; obtain ⟨fc1, fg1, hc1, hf1, hz1⟩ := bget hb1; (try simp at hz1)) | (go_at_call 164; (with_reducible refine (C2.out _).mono ?_); rintro e w2 ⟨rfl, hb2⟩; obtain ⟨fc2, fg2, hc2, hf2, hz2⟩ := bget hb2; (try simp at hz2)) | fail)
    go_ret
    exact ⟨by rw [HNO.out]; first | done | rfl, by (repeat' (first | (with_reducible exact Below.refl _ _) | (with_reducible assumption) | (with_reducible refine Below.alloc ?_ ?_ _) | (with_reducible refine Below.setCell ?_ ?_ _) | (with_reducible refine Below.drew ?_) | (with_reducible refine below_drewN ?_ _) | (with_reducible refine below_via ?_ (by with_reducible assumption) ?_) | omega | (simp; done) | (simp; omega)))⟩
  have d2 := decide_eq_false t2
  by_cases t3 : 65536 < x.mult
  · have d3 := decide_eq_true t3
    have HNO := Lib.hid (decide_eq_false (show ¬ okI x from fun hk => by unfold okI at hk; omega))
    go_enter Try.func134, Try.ntmps134
    go_wp2_with (first | (go_at_call 164; (with_reducible refine (C1.out _).mono ?_); rintro e w1 ⟨rfl, hb1⟩; obtain ⟨fc1, fg1, hc1, hf1, hz1⟩ := bget hb1; (try simp at hz1)) | (go_at_call 164; (with_reducible refine (C2.out _).mono ?_); rintro e w2 ⟨rfl, hb2⟩; obtain ⟨fc2, fg2, hc2, hf2, hz2⟩ := bget hb2; (try simp at hz2)) | fail)
    go_ret
    exact ⟨by rw [HNO.out]; first | done | rfl, by (repeat' (first | (with_reducible exact Below.refl _ _) | (with_reducible assumption) | (with_reducible refine Below.alloc ?_ ?_ _) | (with_reducible refine Below.setCell ?_ ?_ _) | (with_reducible refine Below.drew ?_) | (with_reducible refine below_drewN ?_ _) | (with_reducible refine below_via ?_ (by with_reducible assumption) ?_) | omega | (simp; done) | (simp; omega)))⟩
  have d3 := decide_eq_false t3
  cases pb
  · have t5 := pricedI_no hpb.symm
    clear hpb hnb
    have HNO := Lib.hid (decide_eq_false (show ¬ okI x from fun hk => by unfold okI at hk; omega))
    go_enter Try.func134, Try.ntmps134
    go_wp2_with (first | (go_at_call 164; (with_reducible refine (C1.out _).mono ?_); rintro e w1 ⟨rfl, hb1⟩; obtain ⟨fc1, fg1, hc1, hf1, hz1⟩ := bget hb1; (try simp at hz1)) | (go_at_call 164; (with_reducible refine (C2.out _).mono ?_); rintro e w2 ⟨rfl, hb2⟩; obtain ⟨fc2, fg2, hc2, hf2, hz2⟩ := bget hb2; (try simp at hz2)) | fail)
    go_ret
    exact ⟨by rw [HNO.out]; first | done | rfl, by (repeat' (first | (with_reducible exact Below.refl _ _) | (with_reducible assumption) | (with_reducible refine Below.alloc ?_ ?_ _) | (with_reducible refine Below.setCell ?_ ?_ _) | (with_reducible refine Below.drew ?_) | (with_reducible refine below_drewN ?_ _) | (with_reducible refine below_via ?_ (by with_reducible assumption) ?_) | omega | (simp; done) | (simp; omega)))⟩
  replace hpb := pricedI_iff.1 hpb.symm
  cases nb
  · have t6 := pricedI_no hnb.symm
    clear hnb
    have HNO := Lib.hid (decide_eq_false (show ¬ okI x from fun hk => by unfold okI at hk; omega))
    go_enter Try.func134, Try.ntmps134
    go_wp2_with (first | (go_at_call 164; (with_reducible refine (C1.out _).mono ?_); rintro e w1 ⟨rfl, hb1⟩; obtain ⟨fc1, fg1, hc1, hf1, hz1⟩ := bget hb1; (try simp at hz1)) | (go_at_call 164; (with_reducible refine (C2.out _).mono ?_); rintro e w2 ⟨rfl, hb2⟩; obtain ⟨fc2, fg2, hc2, hf2, hz2⟩ := bget hb2; (try simp at hz2)) | fail)
    go_ret
    exact ⟨by rw [HNO.out]; first | done | rfl, by (repeat' (first | (with_reducible exact Below.refl _ _) | (with_reducible assumption) | (with_reducible refine Below.alloc ?_ ?_ _) | (with_reducible refine Below.setCell ?_ ?_ _) | (with_reducible refine Below.drew ?_) | (with_reducible refine below_drewN ?_ _) | (with_reducible refine below_via ?_ (by with_reducible assumption) ?_) | omega | (simp; done) | (simp; omega)))⟩
  replace hnb := pricedI_iff.1 hnb.symm
  by_cases t7 : 8 < (x.moves.length : Int)
  · have d7 := decide_eq_true t7
    have HNO := Lib.hid (decide_eq_false (show ¬ okI x from fun hk => by unfold okI at hk; omega))
    go_enter Try.func134, Try.ntmps134
    go_wp2_with (first | (go_at_call 164; (with_reducible refine (C1.out _).mono ?_); rintro e w1 ⟨rfl, hb1⟩; obtain ⟨fc1, fg1, hc1, hf1, hz1⟩ := bget hb1; (try simp at hz1)) | (go_at_call 164; (with_reducible refine (C2.out _).mono ?_); rintro e w2 ⟨rfl, hb2⟩; obtain ⟨fc2, fg2, hc2, hf2, hz2⟩ := bget hb2; (try simp at hz2)) | fail)
    go_ret
    exact ⟨by rw [HNO.out]; first | done | rfl, by (repeat' (first | (with_reducible exact Below.refl _ _) | (with_reducible assumption) | (with_reducible refine Below.alloc ?_ ?_ _) | (with_reducible refine Below.setCell ?_ ?_ _) | (with_reducible refine Below.drew ?_) | (with_reducible refine below_drewN ?_ _) | (with_reducible refine below_via ?_ (by with_reducible assumption) ?_) | omega | (simp; done) | (simp; omega)))⟩
  have d7 := decide_eq_false t7
  go_enter Try.func134, Try.ntmps134
  go_wp2_with (first | (go_at_call 164; (with_reducible refine (C1.out _).mono ?_); rintro e w1 ⟨rfl, hb1⟩; obtain ⟨fc1, fg1, hc1, hf1, hz1⟩ := bget hb1; (try simp at hz1)) | (go_at_call 164; (with_reducible refine (C2.out _).mono ?_); rintro e w2 ⟨rfl, hb2⟩; obtain ⟨fc2, fg2, hc2, hf2, hz2⟩ := bget hb2; (try simp at hz2)) | fail)
  go_loopw [3] (fun i wr => ∃ k : Nat, k ≤ x.moves.length ∧ i = .int .i64 k ∧ wr = w2 ∧ ∀ j (_ : j < x.moves.length), j < k → farI x.moves[j] = false) (fun i _ => x.moves.length - (intOf i).toNat)
  case atStart => exact ⟨0, Nat.zero_le _, rfl, rfl, fun j _ h => absurd h (by omega)⟩
  case round =>
    obtain ⟨k, hk, rfl, rfl, hno⟩ := hrel
    have Hno := Lib.hid hno
    clear hno
    by_cases hlt : k < x.moves.length
    · have hlt2 : (k : Int) < (x.moves.length : Int) := by omega
      have dl : decide ((k : Int) < (x.moves.length : Int)) = true := by simpa using hlt
      obtain ⟨b, o, rfl, hb, hq⟩ := HR.out k (encI x.moves[k]) (by simp [hlt])
      have e0 := hq 0 _ rfl
      simp at e0
      clear hq
      by_cases h1 : x.moves[k] < -2147483647
      · have g1 : decide (x.moves[k] < -2147483647) = true := by simpa using h1
        have HNO := Lib.hid (decide_eq_false (show ¬ okI x from fun hk => by have := okI_move hk hlt; omega))
        go_wp2_with fail
        go_ret
        exact ⟨by rw [HNO.out]; first | done | rfl, by (repeat' (first | (with_reducible exact Below.refl _ _) | (with_reducible assumption) | (with_reducible refine Below.alloc ?_ ?_ _) | (with_reducible refine Below.setCell ?_ ?_ _) | (with_reducible refine Below.drew ?_) | (with_reducible refine below_drewN ?_ _) | (with_reducible refine below_via ?_ (by with_reducible assumption) ?_) | omega | (simp; done) | (simp; omega)))⟩
      · have g1 : decide (x.moves[k] < -2147483647) = false := by simpa using h1
        by_cases h2 : 2147483647 < x.moves[k]
        · have g2 : decide (2147483647 < x.moves[k]) = true := by simpa using h2
          have HNO := Lib.hid (decide_eq_false (show ¬ okI x from fun hk => by have := okI_move hk hlt; omega))
          go_wp2_with fail
          go_ret
          exact ⟨by rw [HNO.out]; first | done | rfl, by (repeat' (first | (with_reducible exact Below.refl _ _) | (with_reducible assumption) | (with_reducible refine Below.alloc ?_ ?_ _) | (with_reducible refine Below.setCell ?_ ?_ _) | (with_reducible refine Below.drew ?_) | (with_reducible refine below_drewN ?_ _) | (with_reducible refine below_via ?_ (by with_reducible assumption) ?_) | omega | (simp; done) | (simp; omega)))⟩
        · have g2 : decide (2147483647 < x.moves[k]) = false := by simpa using h2
          go_wp2_with fail
          go_roundw
          case rel => exact ⟨k + 1, by omega, by go_num, by trivial, fun j hj h => by
            rcases Nat.lt_or_ge j k with h3 | h3
            · exact Hno.out j hj h3
            · obtain rfl : j = k := by omega
              unfold farI
              rw [g1, g2]; rfl⟩
          case measure => simp [intOf]; omega
    · have dl : decide ((k : Int) < (x.moves.length : Int)) = false := by simpa using hlt
      have hfar : anyFar x.moves = false := by
        unfold anyFar
        rw [List.any_eq_false]
        intro m hm
        obtain ⟨j, hj, rfl⟩ := List.mem_iff_getElem.1 hm
        rw [Hno.out j hj (by omega)]
        simp
      have HYES := Lib.hid (decide_eq_true (show okI x from ⟨by omega, by omega, by omega, by omega, hpb, hnb, by omega, hfar⟩))
      go_wp2_with fail
      go_ret
      exact ⟨by rw [HYES.out]; first | done | rfl, by (repeat' (first | (with_reducible exact Below.refl _ _) | (with_reducible assumption) | (with_reducible refine Below.alloc ?_ ?_ _) | (with_reducible refine Below.setCell ?_ ?_ _) | (with_reducible refine Below.drew ?_) | (with_reducible refine below_drewN ?_ _) | (with_reducible refine below_via ?_ (by with_reducible assumption) ?_) | omega | (simp; done) | (simp; omega)))⟩
end Go.Proofs.Ytiidplinmempcaa

/- Digits in tens. Plain. -/
namespace Go.Proofs.Ytiidplinmempcaa
/-- The digits of m as bytes, the lowest first. -/
def dgs : Nat → Nat → List Int
  | 0, _ => []
  | f + 1, m => (48 + m % 10 : Nat) :: (if m / 10 = 0 then [] else dgs f (m / 10))
/-- What is still to come, behind o. -/
def left (o : List Int) (f m : Nat) : List Int := if o = [] ∨ m ≠ 0 then dgs f m else []
theorem left_start (m : Nat) : [] ++ left [] 40 m = dgs 40 m := by simp [left]
theorem left_step {o : List Int} {f m : Nat} (hf : f + o.length = 40) (hm : m < 10 ^ f) (hgo : o = [] ∨ m ≠ 0) :
    ∃ g, f = g + 1 ∧ o ++ left o f m = (o ++ [((48 + m % 10 : Nat) : Int)]) ++ left (o ++ [((48 + m % 10 : Nat) : Int)]) g (m / 10) ∧ m / 10 < 10 ^ g := by
  cases f with
  | zero =>
    exfalso
    rcases hgo with h | h
    · subst h; simp at hf
    · simp at hm; omega
  | succ g =>
    refine ⟨g, rfl, ?_, ?_⟩
    · unfold left
      rw [if_pos hgo]
      simp only [dgs, List.append_assoc, List.cons_append, List.nil_append]
      by_cases h : m / 10 = 0
      · simp [h]
      · simp [h]
    · rw [Nat.pow_succ] at hm
      exact Nat.div_lt_of_lt_mul (by omega)
theorem left_end {o : List Int} {f m : Nat} (hgo : ¬ (o = [] ∨ m ≠ 0)) : o ++ left o f m = o := by unfold left; rw [if_neg hgo, List.append_nil]
theorem dgs_byte : ∀ (f m : Nat), ∀ b ∈ dgs f m, 0 ≤ b ∧ b ≤ 255
  | 0, _, b, hb => by simp [dgs] at hb
  | f + 1, m, b, hb => by
    simp only [dgs, List.mem_cons] at hb
    rcases hb with h | h
    · subst h; omega
    · by_cases e : m / 10 = 0
      · simp [e] at h
      · rw [if_neg e] at h; exact dgs_byte f _ b h
theorem dgs_len : ∀ (f m : Nat), (dgs f m).length ≤ f
  | 0, _ => by simp [dgs]
  | f + 1, m => by
    simp only [dgs, List.length_cons]
    by_cases e : m / 10 = 0
    · simp [e]
    · rw [if_neg e]; have := dgs_len f (m / 10); omega
/-- The text of n, the last byte first. -/
def back (n : Int) : List Int := dgs 40 n.natAbs ++ (if n < 0 then [45] else [])
theorem back_byte (n : Int) : ∀ b ∈ back n, 0 ≤ b ∧ b ≤ 255 := by
  intro b hb
  unfold back at hb
  rw [List.mem_append] at hb
  rcases hb with h | h
  · exact dgs_byte _ _ _ h
  · by_cases e : n < 0
    · rw [if_pos e] at h; simp at h; subst h; omega
    · rw [if_neg e] at h; simp at h
theorem back_len (n : Int) : (back n).length ≤ 41 := by
  unfold back
  have := dgs_len 40 n.natAbs
  rw [List.length_append]
  split <;> simp <;> omega
/-- Bytes as a string. -/
def str (l : List Int) : ByteArray := ⟨(l.map fun b => UInt8.ofNat b.toNat).toArray⟩
def textB (n : Int) : ByteArray := str (back n).reverse
theorem str_append (a b : List Int) : str a ++ str b = str (a ++ b) := by
  apply ByteArray.ext
  simp [str, ByteArray.data_append]
theorem str_cons (a : Int) (b : List Int) : str [a] ++ str b = str (a :: b) := str_append [a] b
theorem u8_back {b : Int} (h0 : 0 ≤ b) (h1 : b ≤ 255) : ((UInt8.ofNat b.toNat).toNat : Int) = b := by
  rw [UInt8.toNat_ofNat']; omega
/-- i rounds of turning a list round: the ends are turned, the middle is not. -/
def turned (l : List Int) (i : Nat) : List Int := (List.range l.length).map fun x => if x < i ∨ l.length - 1 - i < x then l.getD (l.length - 1 - x) 0 else l.getD x 0
theorem turned_len (l : List Int) (i : Nat) : (turned l i).length = l.length := by simp [turned]
theorem turned_at (l : List Int) (i x : Nat) (h : x < l.length) : (turned l i)[x]? = some (if x < i ∨ l.length - 1 - i < x then l.getD (l.length - 1 - x) 0 else l.getD x 0) := by
  simp [turned, h]
theorem turned_zero (l : List Int) : turned l 0 = l := by
  apply List.ext_getElem?
  intro x
  by_cases h : x < l.length
  · rw [turned_at l 0 x h, if_neg (by omega)]
    simp [h]
  · rw [List.getElem?_eq_none (by rw [turned_len]; omega), List.getElem?_eq_none (by omega)]
theorem turned_end (l : List Int) (i : Nat) (h : l.length ≤ 2 * i + 1) : turned l i = l.reverse := by
  apply List.ext_getElem?
  intro x
  by_cases hx : x < l.length
  · rw [turned_at l i x hx, List.getElem?_reverse hx]
    split
    · simp [show l.length - 1 - x < l.length from by omega]
    · rw [show l.length - 1 - x = x from by omega]; simp [hx]
  · rw [List.getElem?_eq_none (by rw [turned_len]; omega), List.getElem?_eq_none (by simp; omega)]
theorem turned_step (l : List Int) (i : Nat) (h : 2 * i + 1 < l.length) : turned l (i + 1) = ((turned l i).set i (l.getD (l.length - 1 - i) 0)).set (l.length - 1 - i) (l.getD i 0) := by
  apply List.ext_getElem?
  intro x
  by_cases hx : x < l.length
  · rw [turned_at l (i + 1) x hx, List.getElem?_set, List.getElem?_set, List.length_set, turned_len, turned_at l i x hx]
    by_cases e1 : l.length - 1 - i = x
    · rw [if_pos e1, if_pos (by omega), if_pos (by omega), show l.length - 1 - x = i from by omega]
    · rw [if_neg e1]
      by_cases e2 : i = x
      · rw [if_pos e2, if_pos (by omega), if_pos (by omega), e2]
      · rw [if_neg e2]
        congr 1
        by_cases e3 : x < i ∨ l.length - 1 - i < x
        · rw [if_pos e3, if_pos (by omega)]
        · rw [if_neg e3, if_neg (by omega)]
  · rw [List.getElem?_eq_none (by rw [turned_len]; omega), List.getElem?_eq_none (by rw [List.length_set, List.length_set, turned_len]; omega)]
theorem turned_get (l : List Int) (i : Nat) (h : 2 * i + 1 < l.length) : (turned l i)[i]? = some (l.getD i 0) ∧ (turned l i)[l.length - 1 - i]? = some (l.getD (l.length - 1 - i) 0) := by
  rw [turned_at l i i (by omega), turned_at l i _ (by omega), if_neg (by omega), if_neg (by omega)]
  exact ⟨rfl, rfl⟩
theorem textB_12 : textB (-12) = ⟨#[45, 49, 50]⟩ := by decide +kernel
end Go.Proofs.Ytiidplinmempcaa

/- A store into a slice of the call's own. No program in sight. -/
namespace Go.Proofs.Ytiidplinmempcaa
open Go.RowKit
theorem flatten_set {k : Nat} : ∀ {rows : List (List Value)} (_ : ∀ r ∈ rows, r.length = k) {i : Nat} {r : List Value} (_ : rows[i]? = some r) {j : Nat} (_ : j < k) (u : Value), rows.flatten.set (i * k + j) u = (rows.set i (r.set j u)).flatten
  | [], _, i, r, hi, j, _, u => by simp at hi
  | a :: rows, hl, 0, r, hi, j, hj, u => by
    simp at hi; subst hi
    have : j < a.length := by rw [hl a (by simp)]; exact hj
    simp [List.set_append_left _ _ this]
  | a :: rows, hl, i + 1, r, hi, j, hj, u => by
    have ha := hl a (by simp)
    have := flatten_set (rows := rows) (fun r hr => hl r (by simp [hr])) (i := i) (r := r) (by simpa using hi) hj u
    rw [List.flatten_cons, List.set_append_right _ _ (by rw [ha, Nat.add_mul]; omega), ha, List.set_cons_succ, List.flatten_cons, ← this]
    congr 2
    rw [Nat.add_mul]; omega
theorem Own.put {w : World} {base E k : Nat} {v : Value} {rows : List (List Value)} (h : Own w base E k v rows) {g n c : Nat} (hv : v = .slice (some ⟨g, 0, none⟩) n c) {i : Nat} {r : List Value} (hi : rows[i]? = some r) {j : Nat} (hj : j < k) (u : Value) :
    Own (w.setCell ⟨g, i * k + j, none⟩ u) base E k v (rows.set i (r.set j u)) := by
  have hrl := h.1 r (List.mem_of_getElem? hi)
  have hall : ∀ x ∈ rows.set i (r.set j u), x.length = k := fun x hx => by
    rcases List.mem_or_eq_of_mem_set hx with h1 | h1
    · exact h.1 x h1
    · rw [h1, List.length_set]; exact hrl
  refine ⟨hall, ?_, ?_⟩
  · rw [flatten_length hall]
  · rcases h.2.2 with ⟨h1, _⟩ | ⟨g', cap, cur, h1, hg, hh, hc, hm, hs, ht⟩
    · rw [hv] at h1; cases h1
    · rw [hv] at h1
      injection h1 with e1 e2 e3
      injection e1 with e1
      injection e1 with e1 _ _
      subst e1
      refine .inr ⟨g, cap, cur.setIfInBounds (i * k + j) u, by rw [hv, List.length_set, ← e2, e3], hg, Blk.set (t := E) hh _ u, by rw [List.length_set]; exact hc, hm, by simpa using hs, ?_⟩
      rw [← flatten_set h.1 hi hj u, ← ht, List.length_set, Array.toList_setIfInBounds, List.take_set]
theorem Own.put4 {w : World} {base E : Nat} {v : Value} {rows : List (List Value)} (h : Own w base E 4 v rows) {g n c : Nat} (hv : v = .slice (some ⟨g, 0, none⟩) n c) {i : Nat} (hi : i < rows.length) (a b x d : Value) :
    Own ((((w.setCell ⟨g, i * 4, none⟩ a).setCell ⟨g, i * 4 + 1, none⟩ b).setCell ⟨g, i * 4 + 2, none⟩ x).setCell ⟨g, i * 4 + 3, none⟩ d) base E 4 v (rows.set i [a, b, x, d]) := by
  have hr := h.1 _ (List.getElem_mem hi)
  obtain ⟨p, q, r, t, he⟩ : ∃ p q r t, rows[i] = [p, q, r, t] := by
    match h4 : rows[i], hr with
    | [p, q, r, t], _ => exact ⟨p, q, r, t, rfl⟩
  have h1 := h.put hv (List.getElem?_eq_getElem hi) (show 0 < 4 from by omega) a
  have h2 := h1.put hv (List.getElem?_set_self (by simpa using hi)) (show 1 < 4 from by omega) b
  have h3 := h2.put hv (List.getElem?_set_self (by simpa using hi)) (show 2 < 4 from by omega) x
  have h4 := h3.put hv (List.getElem?_set_self (by simpa using hi)) (show 3 < 4 from by omega) d
  simp only [List.set_set, he, List.set_cons_zero, List.set_cons_succ, Nat.add_zero] at h4
  exact h4
theorem Own.blk {w : World} {base E k : Nat} {v : Value} {rows : List (List Value)} (h : Own w base E k v rows) {g n c : Nat} (hv : v = .slice (some ⟨g, 0, none⟩) n c) : ∃ cur, Blk w g E cur := by
  rcases h.2.2 with ⟨h1, _⟩ | ⟨g', cap, cur, h1, hg, hh, _⟩
  · rw [hv] at h1; cases h1
  · rw [hv] at h1
    injection h1 with e1 e2 e3
    injection e1 with e1
    injection e1 with e1 _ _
    subst e1
    exact ⟨cur, hh⟩
end Go.Proofs.Ytiidplinmempcaa

/- The contract of wide.Text. -/
namespace Go.Proofs.Ytiidplinmempcaa
open Go.RowKit
theorem or_pos {m : Int} (h : 0 < m) (h1 : m < 340282366920938463463374607431768211456) : 0 < bits .or .u64 (whi m) (wlo m) := by
  have e := whi_wlo m
  have a1 : 0 ≤ whi m ∧ whi m ≤ 18446744073709551615 := by unfold whi; omega
  have a2 := wlo_u m
  obtain ⟨p, hp⟩ := Int.eq_ofNat_of_zero_le a1.1
  obtain ⟨q, hq⟩ := Int.eq_ofNat_of_zero_le a2.1
  rw [hp, hq] at e ⊢
  rw [hp] at a1
  rw [hq] at a2
  show 0 < IntKind.u64.wrap ((BitVec.ofInt 64 (p : Int) ||| BitVec.ofInt 64 (q : Int)).toNat : Int)
  have hn : p ≠ 0 ∨ q ≠ 0 := by omega
  have e1 : (BitVec.ofInt 64 (p : Int) ||| BitVec.ofInt 64 (q : Int)).toNat = p ||| q := by
    rw [BitVec.toNat_or, BitVec.ofInt_natCast, BitVec.toNat_ofNat, BitVec.ofInt_natCast, BitVec.toNat_ofNat, Nat.mod_eq_of_lt (by omega), Nat.mod_eq_of_lt (by omega)]
  have e2 : 0 < p ||| q := by
    rcases hn with h | h
    · exact Nat.lt_of_lt_of_le (Nat.pos_of_ne_zero h) Nat.left_le_or
    · exact Nat.lt_of_lt_of_le (Nat.pos_of_ne_zero h) Nat.right_le_or
  have e3 := (BitVec.ofInt 64 (p : Int) ||| BitVec.ofInt 64 (q : Int)).isLt
  rw [u64_wrap (by omega) (by omega), e1]
  omega
theorem or_zero : bits .or .u64 (whi 0) (wlo 0) = 0 := by decide +kernel
theorem rd_oneAt {w : World} {n : Nat} {cs : Array Value} {E k : Nat} (h : n = w.heap.size) : Rd (w.alloc (.cells cs E)) (some ⟨n, 0, none⟩) k [cs.toList] := by subst h; exact rd_one
theorem own_swap {w : World} {base E : Nat} {t : List Int} {r g n c : Nat} (h : Own w base E 1 (.slice (some ⟨g, 0, none⟩) n c) ((turned t r).map encB)) (hr : 2 * r + 1 < t.length) :
    Own ((w.setCell ⟨g, r, none⟩ (.int .u8 (t.getD (t.length - 1 - r) 0))).setCell ⟨g, t.length - 1 - r, none⟩ (.int .u8 (t.getD r 0))) base E 1 (.slice (some ⟨g, 0, none⟩) n c) ((turned t (r + 1)).map encB) := by
  obtain ⟨e1, e2⟩ := turned_get t r hr
  have h1 := h.put rfl (i := r) (r := encB (t.getD r 0)) (by rw [List.getElem?_map, e1]; rfl) (j := 0) (by omega) (.int .u8 (t.getD (t.length - 1 - r) 0))
  have h2 := h1.put rfl (i := t.length - 1 - r) (r := encB (t.getD (t.length - 1 - r) 0)) (by rw [List.getElem?_set_ne (by omega), List.getElem?_map, e2]; rfl) (j := 0) (by omega) (.int .u8 (t.getD r 0))
  rw [turned_step t r hr, List.map_set, List.map_set]
  simpa [encB] using h2
theorem own_cells {w : World} {base E : Nat} {t : List Int} {r g n c : Nat} (h : Own w base E 1 (.slice (some ⟨g, 0, none⟩) n c) ((turned t r).map encB)) {x : Nat} {v : Int} (hx : (turned t r)[x]? = some v) : w.cell? ⟨g, x, none⟩ = some (.int .u8 v) := by
  obtain ⟨b, o, hA, _, hc⟩ := h.rd.1 x (encB v) (by rw [List.getElem?_map, hx]; rfl)
  injection hA with hA
  injection hA with hA hB _
  subst hA hB
  have := hc 0 _ rfl
  simpa using this
theorem addr_plain (b o j : Nat) : (⟨b, o, none⟩ : Addr).add j = ⟨b, o + j, none⟩ := by unfold Addr.add; split <;> simp_all
def slen : Value → Nat
  | .slice _ n _ => n
  | _ => 0
end Go.Proofs.Ytiidplinmempcaa
