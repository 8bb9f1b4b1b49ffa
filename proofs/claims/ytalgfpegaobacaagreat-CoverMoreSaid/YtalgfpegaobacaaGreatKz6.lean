/- Joined: Big8, App0, Big9, Big10, LawF3, LawF5, Asset2, Store, RowL, While. -/
import Derived.Test.YtalgfpegaobacaaGreatKz5
import Derived.Test.YtalgfpegaobacaaGreatKz1
import Derived.Test.YtalgfpegaobacaaGreatKz3
import Derived.Laws.CopyRow
import Derived.Lib.AppendZeros
import Derived.Lib.Overlaps
/- The contract of the reference's Wide. -/
namespace Go.Proofs.YtalgfpegaobacaaGreat
open Go.RowKit
theorem IsBig.up {w w' : World} {x : Int} {s : Bool} {A B : Option Addr} {l : List Int} {c d : Nat} (h : IsBig w x s A l c) (hne : l ≠ []) (hr : Rd w' B 1 ((0 :: l).map encB)) (hc : (0 :: l).length ≤ d) (hm : d ≤ maxLen) : IsBig w' (2 * x) s B (0 :: l) d := by
  refine ⟨hr, bit_cons h.bit (by omega) (by omega), top_cons h.top hne, ?_, hc, hm, ?_⟩
  · rw [val_cons, h.val]; unfold iabs; split <;> split <;> omega
  · rw [h.sgn, decide_eq_decide]; omega
end Go.Proofs.YtalgfpegaobacaaGreat

/- append(v, x...) onto a slice of the call's own, whatever x is; a nil x too, whatever its room. -/
namespace Go.Proofs.YtalgfpegaobacaaGreat
open Go.RowKit
end Go.Proofs.YtalgfpegaobacaaGreat

/- The contract of the reference's Mul. -/
namespace Go.Proofs.YtalgfpegaobacaaGreat
open Go.RowKit
end Go.Proofs.YtalgfpegaobacaaGreat

/- The contract of the reference's Div. -/
namespace Go.Proofs.YtalgfpegaobacaaGreat
open Go.RowKit
end Go.Proofs.YtalgfpegaobacaaGreat

/- The law FixScales: its walk. -/
namespace Go.Proofs.YtalgfpegaobacaaGreat
open Go.RowKit
end Go.Proofs.YtalgfpegaobacaaGreat

/- Layer 2: the reference's Sum, Product; fix.Product. -/
namespace Go.Proofs.YtalgfpegaobacaaGreat
open Go.RowKit
def prodF : Int → List Int → Option Int
  | a, [] => some a
  | a, x :: l => if in64 (a * x) then prodF (a * x) l else none
theorem prodF_step {l : List Int} {k : Nat} (h : k < l.length) (p : Int) : prodF p (l.drop k) = if in64 (p * l[k]) then prodF (p * l[k]) (l.drop (k + 1)) else none := by
  rw [List.drop_eq_getElem_cons h]; rfl
theorem prodF_end {l : List Int} {k : Nat} (h : ¬ k < l.length) (p : Int) : prodF p (l.drop k) = some p := by
  rw [List.drop_eq_nil_of_le (by omega)]; rfl
def prN (l : List Int) : Int := (prodF 1 l).getD 0
def prE (l : List Int) : Int := if (prodF 1 l).isSome then 0 else 7
set_option maxRecDepth 100000 in
set_option maxHeartbeats 8000000 in
theorem fixProduct (l : List Int) (A : Option Addr) (c : Nat) (w : World) (h40 : l.length ≤ 40) (hin : ∀ n ∈ l, In64 n) (hr : Rd w A 1 (l.map encI)) :
    Calls Tryz.prog 78 #[.slice A l.length c] w fun e w' => e = .returned (.tuple #[.int .i64 (prN l), .int .i64 (prE l)]) ∧ Below w.heap.size w w' := by
  have HR := Lib.hid hr
  have HIN := Lib.hid hin
  clear hr hin
  go_enter Tryz.func78, Tryz.ntmps78
  go_wp2_with fail
  go_loopw [4, 11] (fun v i wr => ∃ (k : Nat) (p : Int), k ≤ l.length ∧ i = .int .i64 k ∧ v = .int .i64 p ∧ In64 p ∧ prodF 1 l = prodF p (l.drop k) ∧ Below w.heap.size w wr) (fun _ i _ => l.length - (intOf i).toNat)
  case atStart => exact ⟨0, 1, Nat.zero_le _, rfl, rfl, by unfold In64; omega, rfl, by (repeat' (first | (with_reducible exact Below.refl _ _) | (with_reducible assumption) | (with_reducible refine Below.alloc ?_ ?_ _) | (with_reducible refine Below.setCell ?_ ?_ _) | (with_reducible refine Below.drew ?_) | (with_reducible refine below_drewN ?_ _) | (with_reducible refine below_via ?_ (by with_reducible assumption) ?_) | omega | (simp; done) | (simp; omega)))⟩
  case round =>
    obtain ⟨k, p, hk, rfl, rfl, hp, hpr, hbl⟩ := hrel
    have hz := hbl.size
    have Hbl := Lib.hid hbl
    clear hbl
    by_cases hlt : k < l.length
    · have d2 : decide ((k : Int) < (l.length : Int)) = true := by simpa using hlt
      rw [prodF_step hlt] at hpr
      obtain ⟨b, o, hA, hb, q⟩ := HR.out k (encI l[k]) (by simp [hlt])
      have q0 := (Hbl.out.cell (p := ⟨b, o + k * 1 + 0, none⟩) (hb)).trans (q 0 _ rfl)
      have hx := HIN.out l[k] (List.getElem_mem hlt)
      obtain ⟨x, hxe⟩ : ∃ x, x = l[k] := ⟨_, rfl⟩
      rw [← hxe] at q0 hx
      have hbw : b < wr.heap.size := (by omega)
      simp at q0
      clear q
      cases hA
      rw [← hxe] at hpr
      clear hxe
      have h128 := mul64_128 hp hx
      by_cases h64 : In64 (p * x)
      · rw [in64_iff.2 h64, if_pos rfl] at hpr
        have HPR := Lib.hid hpr
        clear hpr
        go_wp2_with (first | (go_at_call 96; (with_reducible refine (wideMul p x _ hp hx).mono ?_); rintro e w1 ⟨rfl, hb1⟩; obtain ⟨fc1, fg1, hc1, hf1, hz1⟩ := bget hb1; (try simp at hz1)) | (go_at_call 86; (with_reducible refine (wideIntYes (p * x) _ h64).mono ?_); rintro e w2 ⟨rfl, hb2⟩; obtain ⟨fc2, fg2, hc2, hf2, hz2⟩ := bget hb2; (try simp at hz2)) | fail)
        go_roundw
        case rel => exact ⟨k + 1, p * x, by omega, by go_num, rfl, h64, HPR.out, by (have hbl := Hbl.out; (repeat' (first | (with_reducible exact Below.refl _ _) | (with_reducible assumption) | (with_reducible refine Below.alloc ?_ ?_ _) | (with_reducible refine Below.setCell ?_ ?_ _) | (with_reducible refine Below.drew ?_) | (with_reducible refine below_drewN ?_ _) | (with_reducible refine below_via ?_ (by with_reducible assumption) ?_) | omega | (simp; done) | (simp; omega))))⟩
        case measure => (simp [intOf]; omega)
      · rw [in64_not' h64, if_neg (by simp)] at hpr
        have HPN := Lib.hid (show prN l = 0 from by unfold prN; rw [hpr]; rfl)
        have HPE := Lib.hid (show prE l = 7 from by unfold prE; rw [hpr]; rfl)
        clear hpr
        go_wp2_with (first | (go_at_call 96; (with_reducible refine (wideMul p x _ hp hx).mono ?_); rintro e w1 ⟨rfl, hb1⟩; obtain ⟨fc1, fg1, hc1, hf1, hz1⟩ := bget hb1; (try simp at hz1)) | (go_at_call 86; (with_reducible refine (wideIntNo (p * x) _ h128 h64).mono ?_); rintro e w2 ⟨rfl, hb2⟩; obtain ⟨fc2, fg2, hc2, hf2, hz2⟩ := bget hb2; (try simp at hz2)) | fail)
        go_ret2
        exact ⟨by rw [HPN.out, HPE.out]; first | done | rfl, by (have hbl := Hbl.out; (repeat' (first | (with_reducible exact Below.refl _ _) | (with_reducible assumption) | (with_reducible refine Below.alloc ?_ ?_ _) | (with_reducible refine Below.setCell ?_ ?_ _) | (with_reducible refine Below.drew ?_) | (with_reducible refine below_drewN ?_ _) | (with_reducible refine below_via ?_ (by with_reducible assumption) ?_) | omega | (simp; done) | (simp; omega))))⟩
    · have d2 : decide ((k : Int) < (l.length : Int)) = false := by simpa using hlt
      rw [prodF_end hlt] at hpr
      have HPN := Lib.hid (show prN l = p from by unfold prN; rw [hpr]; rfl)
      have HPE := Lib.hid (show prE l = 0 from by unfold prE; rw [hpr]; rfl)
      clear hpr
      go_wp2_with fail
      go_ret2
      exact ⟨by rw [HPN.out, HPE.out]; first | done | rfl, by (have hbl := Hbl.out; (repeat' (first | (with_reducible exact Below.refl _ _) | (with_reducible assumption) | (with_reducible refine Below.alloc ?_ ?_ _) | (with_reducible refine Below.setCell ?_ ?_ _) | (with_reducible refine Below.drew ?_) | (with_reducible refine below_drewN ?_ _) | (with_reducible refine below_via ?_ (by with_reducible assumption) ?_) | omega | (simp; done) | (simp; omega))))⟩
end Go.Proofs.YtalgfpegaobacaaGreat

/- Assets: asset.Worth, Count, Sell, and the reference's. -/
namespace Go.Proofs.YtalgfpegaobacaaGreat
open Go.RowKit
theorem rd_ints2 {w : World} {g : Nat} {x y : Int} (hg : g < w.heap.size) (h0 : w.cell? ⟨g, 0, none⟩ = some (.int .i64 x)) (h1 : w.cell? ⟨g, 1, none⟩ = some (.int .i64 y)) : Rd w (some ⟨g, 0, none⟩) 1 ([x, y].map encI) := by
  intro i r hr
  match i, hr with
  | 0, hr =>
    simp at hr
    subst hr
    refine ⟨g, 0, rfl, hg, fun j v hv => ?_⟩
    match j, hv with
    | 0, hv => simp [encI] at hv; subst hv; simpa using h0
  | 1, hr =>
    simp at hr
    subst hr
    refine ⟨g, 0, rfl, hg, fun j v hv => ?_⟩
    match j, hv with
    | 0, hv => simp [encI] at hv; subst hv; simpa using h1
theorem pr2 {x y : Int} (hx : In64 x) : prN [x, y] = okN (x * y) ∧ prE [x, y] = okE (x * y) := by
  have e : prodF 1 [x, y] = if in64 (x * y) then some (x * y) else none := by
    have h1 : in64 (1 * x) = true := in64_iff.2 (by rw [Int.one_mul]; exact hx)
    unfold prodF
    rw [if_pos h1, Int.one_mul]
    rfl
  unfold prN prE okN okE
  rw [e]
  by_cases h : in64 (x * y) = true
  · rw [if_pos h, if_pos h, if_pos h]; exact ⟨rfl, rfl⟩
  · rw [if_neg h, if_neg h, if_neg h]; exact ⟨rfl, rfl⟩
theorem fixProd2 (x y : Int) (g : Nat) (w : World) (hx : In64 x) (hy : In64 y) (hg : g < w.heap.size) (h0 : w.cell? ⟨g, 0, none⟩ = some (.int .i64 x)) (h1 : w.cell? ⟨g, 1, none⟩ = some (.int .i64 y)) :
    Calls Tryz.prog 78 #[.slice (some ⟨g, 0, none⟩) 2 2] w fun e w' => e = .returned (.tuple #[.int .i64 (okN (x * y)), .int .i64 (okE (x * y))]) ∧ Below w.heap.size w w' := by
  have h := fixProduct [x, y] (some ⟨g, 0, none⟩) 2 w (by simp) (by intro n hn; simp at hn; rcases hn with rfl | rfl <;> assumption) (rd_ints2 hg h0 h1)
  rw [(pr2 hx).1, (pr2 hx).2] at h
  exact h
theorem okA_in {x : Asset} (h : okA x) : In64 x.price ∧ In64 (10000 - x.hair) := by
  unfold okA at h; unfold In64; omega
def worthN (x : Asset) (q : Int) : Int := if okA x then okN (q * x.price) else 0
def worthE (x : Asset) (q : Int) : Int := if okA x then okE (q * x.price) else 2
set_option maxRecDepth 100000 in
set_option maxHeartbeats 4000000 in
theorem assetWorth (x : Asset) (q : Int) (w : World) (hq : In64 q) : Calls Tryz.prog 45 #[.agg #[.int .i64 x.id, .int .i64 x.price, .int .i64 x.hair], .int .i64 q] w fun e w' => e = .returned (.tuple #[.int .i64 (worthN x q), .int .i64 (worthE x q)]) ∧ Below w.heap.size w w' := by
  have c1 := fun W => assetCheck x W
  by_cases h : okA x
  · rw [show worthN x q = okN (q * x.price) from if_pos h, show worthE x q = okE (q * x.price) from if_pos h]
    rw [codeA_yes h] at c1
    have hp := (okA_in h).1
    have C1 := Lib.hid c1
    clear c1 h
    go_enter Tryz.func45, Tryz.ntmps45
    go_wp2_with (first | (go_at_call 76; (with_reducible refine (C1.out _).mono ?_); rintro e w1 ⟨rfl, hb1⟩; obtain ⟨fc1, fg1, hc1, hf1, hz1⟩ := bget hb1; (try simp at hz1)) | (go_at_call 78; (with_reducible refine (fixProd2 q x.price _ _ hq hp ?_ ?_ ?_).mono ?_); (focus (first | (simp; done) | (simp; omega))); (focus (first | (simp [go_sem]; done) | (simp [go_sem, ↓IntWalk.iteOmega]; done))); (focus (first | (simp [go_sem]; done) | (simp [go_sem, ↓IntWalk.iteOmega]; done))); rintro e w2 ⟨rfl, hb2⟩; obtain ⟨fc2, fg2, hc2, hf2, hz2⟩ := bget hb2; (try simp at hz2)) | fail)
    all_goals
      go_ret2
      exact ⟨rfl, by (repeat' (first | (with_reducible exact Below.refl _ _) | (with_reducible assumption) | (with_reducible refine Below.alloc ?_ ?_ _) | (with_reducible refine Below.setCell ?_ ?_ _) | (with_reducible refine Below.drew ?_) | (with_reducible refine below_drewN ?_ _) | (with_reducible refine below_via ?_ (by with_reducible assumption) ?_) | omega | (simp; done) | (simp; omega)))⟩
  · rw [show worthN x q = 0 from if_neg h, show worthE x q = 2 from if_neg h]
    rw [codeA_no h] at c1
    have C1 := Lib.hid c1
    clear c1 h
    go_enter Tryz.func45, Tryz.ntmps45
    go_wp2_with (first | (go_at_call 76; (with_reducible refine (C1.out _).mono ?_); rintro e w1 ⟨rfl, hb1⟩; obtain ⟨fc1, fg1, hc1, hf1, hz1⟩ := bget hb1; (try simp at hz1)) | fail)
    go_ret2
    exact ⟨rfl, by (repeat' (first | (with_reducible exact Below.refl _ _) | (with_reducible assumption) | (with_reducible refine Below.alloc ?_ ?_ _) | (with_reducible refine Below.setCell ?_ ?_ _) | (with_reducible refine Below.drew ?_) | (with_reducible refine below_drewN ?_ _) | (with_reducible refine below_via ?_ (by with_reducible assumption) ?_) | omega | (simp; done) | (simp; omega)))⟩
def countN (x : Asset) (q : Int) : Int := if okA x ∧ 0 ≤ q ∧ in64 (q * x.price) = true then countA x q else 0
def countE (x : Asset) (q : Int) : Int := if okA x then (if q < 0 then 2 else okE (q * x.price)) else 2
set_option maxRecDepth 100000 in
set_option maxHeartbeats 4000000 in
theorem assetCount (x : Asset) (q : Int) (w : World) (hq : In64 q) : Calls Tryz.prog 44 #[.agg #[.int .i64 x.id, .int .i64 x.price, .int .i64 x.hair], .int .i64 q] w fun e w' => e = .returned (.tuple #[.int .i64 (countN x q), .int .i64 (countE x q)]) ∧ Below w.heap.size w w' := by
  have c1 := fun W => assetCheck x W
  have c2 := fun W => assetWorth x q W hq
  by_cases h : okA x
  · rw [codeA_yes h] at c1
    rw [show worthN x q = okN (q * x.price) from if_pos h, show worthE x q = okE (q * x.price) from if_pos h] at c2
    by_cases h0 : q < 0
    · rw [show countN x q = 0 from if_neg (fun k => absurd k.2.1 (by omega)), show countE x q = 2 from (if_pos h).trans (if_pos h0)]
      have d0 : decide (q < 0) = true := by simpa using h0
      generalize okN (q * x.price) = wn at c2
      generalize okE (q * x.price) = we at c2
      have C1 := Lib.hid c1
      have C2 := Lib.hid c2
      clear c1 c2 h
      go_enter Tryz.func44, Tryz.ntmps44
      go_wp2_with (first | (go_at_call 76; (with_reducible refine (C1.out _).mono ?_); rintro e w1 ⟨rfl, hb1⟩; obtain ⟨fc1, fg1, hc1, hf1, hz1⟩ := bget hb1; (try simp at hz1)) | (go_at_call 45; (with_reducible refine (C2.out _).mono ?_); rintro e w2 ⟨rfl, hb2⟩; obtain ⟨fc2, fg2, hc2, hf2, hz2⟩ := bget hb2; (try simp at hz2)) | fail)
      all_goals
        go_ret2
        exact ⟨rfl, by (repeat' (first | (with_reducible exact Below.refl _ _) | (with_reducible assumption) | (with_reducible refine Below.alloc ?_ ?_ _) | (with_reducible refine Below.setCell ?_ ?_ _) | (with_reducible refine Below.drew ?_) | (with_reducible refine below_drewN ?_ _) | (with_reducible refine below_via ?_ (by with_reducible assumption) ?_) | omega | (simp; done) | (simp; omega)))⟩
    · have d0 : decide (q < 0) = false := by simpa using h0
      by_cases h64 : In64 (q * x.price)
      · have hok := okA_in h
        have hcl := count_le h (show 0 ≤ q by omega)
        rw [show countN x q = countA x q from if_pos ⟨h, by omega, in64_iff.2 h64⟩, show countE x q = 0 from (if_pos h).trans ((if_neg h0).trans (okN_yes h64).2)]
        rw [(okN_yes h64).1, (okN_yes h64).2] at c2
        have c3 := fun W => fixScaleYes (q * x.price) (10000 - x.hair) 10000 W h64 hok.2 (by omega) (by omega) (by unfold countA at hcl; unfold In64 at h64 ⊢; omega)
        rw [show q * x.price * (10000 - x.hair) / 10000 = countA x q from rfl] at c3
        generalize q * x.price * (10000 - x.hair) % 10000 = r at c3
        have hh : 0 ≤ x.hair ∧ x.hair ≤ 10000 := ⟨h.2.2.2.2.1, h.2.2.2.2.2⟩
        clear hcl hok
        generalize countA x q = n at c3 ⊢
        generalize q * x.price = wn at c2 c3
        have C1 := Lib.hid c1
        have C2 := Lib.hid c2
        have C3 := Lib.hid c3
        clear c1 c2 c3 h h64
        go_enter Tryz.func44, Tryz.ntmps44
        go_wp2_with (first | (go_at_call 76; (with_reducible refine (C1.out _).mono ?_); rintro e w1 ⟨rfl, hb1⟩; obtain ⟨fc1, fg1, hc1, hf1, hz1⟩ := bget hb1; (try simp at hz1)) | (go_at_call 45; (with_reducible refine (C2.out _).mono ?_); rintro e w2 ⟨rfl, hb2⟩; obtain ⟨fc2, fg2, hc2, hf2, hz2⟩ := bget hb2; (try simp at hz2)) | (go_at_call 77; (with_reducible refine (C3.out _).mono ?_); rintro e w3 ⟨rfl, hb3⟩; obtain ⟨fc3, fg3, hc3, hf3, hz3⟩ := bget hb3; (try simp at hz3)) | fail)
        all_goals
          go_ret2
          exact ⟨rfl, by (repeat' (first | (with_reducible exact Below.refl _ _) | (with_reducible assumption) | (with_reducible refine Below.alloc ?_ ?_ _) | (with_reducible refine Below.setCell ?_ ?_ _) | (with_reducible refine Below.drew ?_) | (with_reducible refine below_drewN ?_ _) | (with_reducible refine below_via ?_ (by with_reducible assumption) ?_) | omega | (simp; done) | (simp; omega)))⟩
      · rw [show countN x q = 0 from if_neg (fun k => h64 (in64_iff.1 k.2.2)), show countE x q = 7 from (if_pos h).trans ((if_neg h0).trans (okN_no h64).2)]
        rw [(okN_no h64).1, (okN_no h64).2] at c2
        have C1 := Lib.hid c1
        have C2 := Lib.hid c2
        clear c1 c2 h h64
        go_enter Tryz.func44, Tryz.ntmps44
        go_wp2_with (first | (go_at_call 76; (with_reducible refine (C1.out _).mono ?_); rintro e w1 ⟨rfl, hb1⟩; obtain ⟨fc1, fg1, hc1, hf1, hz1⟩ := bget hb1; (try simp at hz1)) | (go_at_call 45; (with_reducible refine (C2.out _).mono ?_); rintro e w2 ⟨rfl, hb2⟩; obtain ⟨fc2, fg2, hc2, hf2, hz2⟩ := bget hb2; (try simp at hz2)) | fail)
        all_goals
          go_ret2
          exact ⟨rfl, by (repeat' (first | (with_reducible exact Below.refl _ _) | (with_reducible assumption) | (with_reducible refine Below.alloc ?_ ?_ _) | (with_reducible refine Below.setCell ?_ ?_ _) | (with_reducible refine Below.drew ?_) | (with_reducible refine below_drewN ?_ _) | (with_reducible refine below_via ?_ (by with_reducible assumption) ?_) | omega | (simp; done) | (simp; omega)))⟩
  · rw [codeA_no h] at c1
    rw [show worthN x q = 0 from if_neg h, show worthE x q = 2 from if_neg h] at c2
    rw [show countN x q = 0 from if_neg (fun k => h k.1), show countE x q = 2 from if_neg h]
    have C1 := Lib.hid c1
    have C2 := Lib.hid c2
    clear c1 c2 h
    go_enter Tryz.func44, Tryz.ntmps44
    go_wp2_with (first | (go_at_call 76; (with_reducible refine (C1.out _).mono ?_); rintro e w1 ⟨rfl, hb1⟩; obtain ⟨fc1, fg1, hc1, hf1, hz1⟩ := bget hb1; (try simp at hz1)) | (go_at_call 45; (with_reducible refine (C2.out _).mono ?_); rintro e w2 ⟨rfl, hb2⟩; obtain ⟨fc2, fg2, hc2, hf2, hz2⟩ := bget hb2; (try simp at hz2)) | fail)
    all_goals
      go_ret2
      exact ⟨rfl, by (repeat' (first | (with_reducible exact Below.refl _ _) | (with_reducible assumption) | (with_reducible refine Below.alloc ?_ ?_ _) | (with_reducible refine Below.setCell ?_ ?_ _) | (with_reducible refine Below.drew ?_) | (with_reducible refine below_drewN ?_ _) | (with_reducible refine below_via ?_ (by with_reducible assumption) ?_) | omega | (simp; done) | (simp; omega)))⟩
end Go.Proofs.YtalgfpegaobacaaGreat

/- A store into a slice of the call's own. No program in sight. -/
namespace Go.Proofs.YtalgfpegaobacaaGreat
open Go.RowKit
theorem flatten_set {k : Nat} : ∀ {rows : List (List Value)} (_ : ∀ r ∈ rows, r.length = k) {i : Nat} {r : List Value} (_ : rows[i]? = some r) {j : Nat} (_ : j < k) (u : Value), rows.flatten.set (i * k + j) u = (rows.set i (r.set j u)).flatten
  | [], _, i, r, hi, j, _, u => by simp at hi
  | a :: rows, hl, 0, r, hi, j, hj, u => by
    simp at hi; subst hi
    have : j < a.length := by rw [hl a (by simp)]; exact hj
    simp [List.set_append_left _ _ this]
  | a :: rows, hl, i + 1, r, hi, j, hj, u => by
    have ha := hl a (by simp)
    have := flatten_set (rows := rows) (fun r hr => hl r (by simp [hr])) (i := i) (r := r) (by simpa using hi) hj u
    rw [List.flatten_cons, List.set_append_right _ _ (by rw [ha, Nat.add_mul]; omega), ha, List.set_cons_succ, List.flatten_cons, ← this]
    congr 2
    rw [Nat.add_mul]; omega
theorem Own.put {w : World} {base E k : Nat} {v : Value} {rows : List (List Value)} (h : Own w base E k v rows) {g n c : Nat} (hv : v = .slice (some ⟨g, 0, none⟩) n c) {i : Nat} {r : List Value} (hi : rows[i]? = some r) {j : Nat} (hj : j < k) (u : Value) :
    Own (w.setCell ⟨g, i * k + j, none⟩ u) base E k v (rows.set i (r.set j u)) := by
  have hrl := h.1 r (List.mem_of_getElem? hi)
  have hall : ∀ x ∈ rows.set i (r.set j u), x.length = k := fun x hx => by
    rcases List.mem_or_eq_of_mem_set hx with h1 | h1
    · exact h.1 x h1
    · rw [h1, List.length_set]; exact hrl
  refine ⟨hall, ?_, ?_⟩
  · rw [flatten_length hall]
  · rcases h.2.2 with ⟨h1, _⟩ | ⟨g', cap, cur, h1, hg, hh, hc, hm, hs, ht⟩
    · rw [hv] at h1; cases h1
    · rw [hv] at h1
      injection h1 with e1 e2 e3
      injection e1 with e1
      injection e1 with e1 _ _
      subst e1
      refine .inr ⟨g, cap, cur.setIfInBounds (i * k + j) u, by rw [hv, List.length_set, ← e2, e3], hg, Blk.set (t := E) hh _ u, by rw [List.length_set]; exact hc, hm, by simpa using hs, ?_⟩
      rw [← flatten_set h.1 hi hj u, ← ht, List.length_set, Array.toList_setIfInBounds, List.take_set]
theorem Own.blk {w : World} {base E k : Nat} {v : Value} {rows : List (List Value)} (h : Own w base E k v rows) {g n c : Nat} (hv : v = .slice (some ⟨g, 0, none⟩) n c) : ∃ cur, Blk w g E cur := by
  rcases h.2.2 with ⟨h1, _⟩ | ⟨g', cap, cur, h1, hg, hh, _⟩
  · rw [hv] at h1; cases h1
  · rw [hv] at h1
    injection h1 with e1 e2 e3
    injection e1 with e1
    injection e1 with e1 _ _
    subst e1
    exact ⟨cur, hh⟩
end Go.Proofs.YtalgfpegaobacaaGreat

/- Laws on own rows: the row with its spare, its head; copy, clear, append of noughts. No program in sight. -/
namespace Go.Proofs.YtalgfpegaobacaaGreat
open Go.RowKit
theorem flatten_take {k : Nat} {rows : List (List Value)} (hl : ∀ r ∈ rows, r.length = k) (m : Nat) : (rows.take m).flatten = rows.flatten.take (m * k) := by
  rcases Nat.le_total m rows.length with h | h
  · have h1 : ((rows.take m).flatten).length = m * k := by
      rw [flatten_length (fun r hr => hl r (List.mem_of_mem_take hr)), List.length_take, Nat.min_eq_left h]
    conv => rhs; rw [← List.take_append_drop m rows, List.flatten_append, ← h1, List.take_left]
  · rw [List.take_of_length_le h, List.take_of_length_le (by rw [flatten_length hl]; exact Nat.mul_le_mul_right _ h)]
theorem flatten_drop {k : Nat} {rows : List (List Value)} (hl : ∀ r ∈ rows, r.length = k) (m : Nat) : (rows.drop m).flatten = rows.flatten.drop (m * k) := by
  rcases Nat.le_total m rows.length with h | h
  · have h1 : ((rows.take m).flatten).length = m * k := by
      rw [flatten_length (fun r hr => hl r (List.mem_of_mem_take hr)), List.length_take, Nat.min_eq_left h]
    conv => rhs; rw [← List.take_append_drop m rows, List.flatten_append, ← h1, List.drop_left]
  · rw [List.drop_eq_nil_of_le h, List.drop_eq_nil_of_le (by rw [flatten_length hl]; exact Nat.mul_le_mul_right _ h)]; rfl
section
variable {w : World} {base E k : Nat} {g n c : Nat} {rows : List (List Value)}
theorem Own.raw (h : Own w base E k (.slice (some ⟨g, 0, none⟩) n c) rows) : ∃ cur, w.heap[g]? = some (.cells cur E (0, 0)) ∧ base ≤ g ∧ n = rows.length ∧ n ≤ c ∧ c ≤ maxLen ∧ cur.size = c * k ∧ cur.toList.take (n * k) = rows.flatten := by
  have hn := (h.rd).2.1
  rcases h.2.2 with ⟨h1, _⟩ | ⟨g', cap, cur, h1, hg, hh, hc, hm, hs, ht⟩
  · cases h1
  · injection h1 with e1 e2 e3
    injection e1 with e1
    injection e1 with e1 _ _
    subst e1 e3
    exact ⟨cur, hh, hg, hn, by omega, hm, hs, by rw [hn]; exact ht⟩
theorem own_of (hall : ∀ r ∈ rows, r.length = k) {cur : Array Value} (hh : w.heap[g]? = some (.cells cur E (0, 0))) (hg : base ≤ g) (hn : n = rows.length) (hc : n ≤ c) (hm : c ≤ maxLen) (hs : cur.size = c * k) (ht : cur.toList.take (n * k) = rows.flatten) : Own w base E k (.slice (some ⟨g, 0, none⟩) n c) rows := by
  subst hn
  exact ⟨hall, flatten_length hall, .inr ⟨g, c, cur, rfl, hg, hh, hc, hm, hs, ht⟩⟩
theorem Own.head (h : Own w base E k (.slice (some ⟨g, 0, none⟩) n c) rows) {m : Nat} (hm : m ≤ n) : Own w base E k (.slice (some ⟨g, 0, none⟩) m c) (rows.take m) := by
  obtain ⟨cur, hh, hg, hn, hc, hmx, hs, ht⟩ := h.raw
  refine own_of (fun r hr => h.1 r (List.mem_of_mem_take hr)) hh hg (by rw [List.length_take]; omega) (by omega) hmx hs ?_
  rw [flatten_take h.1, ← ht, List.take_take, Nat.min_eq_left (Nat.mul_le_mul_right _ hm)]
theorem Only.setRow (_hh : g < w.heap.size) (cs : Array Value) : Only g w (w.setRow g cs) := ⟨rfl, rfl, rfl, by simp [World.setRow], fun i _ hne => setRow_other w g i cs (by exact fun e => hne e)⟩
/-- Rows laid over others from the place d on. -/
def lay (rows src : List (List Value)) (d : Nat) : List (List Value) := rows.take d ++ src ++ rows.drop (d + src.length)
theorem lay_len {src : List (List Value)} {d : Nat} (h : d + src.length ≤ rows.length) : (lay rows src d).length = rows.length := by unfold lay; simp; omega
theorem lay_mem {src : List (List Value)} {d : Nat} {r : List Value} (h : r ∈ lay rows src d) : r ∈ rows ∨ r ∈ src := by
  unfold lay at h
  rcases List.mem_append.1 h with h | h
  · rcases List.mem_append.1 h with h | h
    · exact .inl (List.mem_of_mem_take h)
    · exact .inr h
  · exact .inl (List.mem_of_mem_drop h)
theorem Own.laid (h : Own w base E k (.slice (some ⟨g, 0, none⟩) n c) rows) {src : List (List Value)} (hsrc : ∀ r ∈ src, r.length = k) {d : Nat} (hd : d + src.length ≤ n) {cur : Array Value} (hcur : w.heap[g]? = some (.cells cur E (0, 0))) :
    Own (w.setRow g (cur.toList.take (d * k) ++ src.flatten ++ cur.toList.drop (d * k + src.flatten.length)).toArray) base E k (.slice (some ⟨g, 0, none⟩) n c) (lay rows src d) := by
  obtain ⟨cur', hh, hg, hn, hc, hmx, hs, ht⟩ := h.raw
  rw [hcur] at hh
  injection hh with hh
  injection hh with hh _ _
  subst hh
  have hfl := flatten_length hsrc
  have hle : n * k ≤ c * k := Nat.mul_le_mul_right _ hc
  have hdl : d * k + src.length * k ≤ n * k := by rw [← Nat.add_mul]; exact Nat.mul_le_mul_right _ hd
  have hall : ∀ r ∈ lay rows src d, r.length = k := fun r hr => by
    rcases lay_mem hr with h1 | h1
    · exact h.1 r h1
    · exact hsrc r h1
  refine own_of hall (setRow_heap w g cur _ E (0, 0) hcur) hg (by rw [lay_len (by omega)]; exact hn) hc hmx ?_ ?_
  · simp only [List.size_toArray, List.length_append, List.length_take, List.length_drop, Array.length_toList, hfl, hs]
    omega
  · unfold lay
    rw [List.flatten_append, List.flatten_append, flatten_take h.1, flatten_drop h.1, ← ht]
    simp only []
    have hcl : cur.toList.length = c * k := by rw [Array.length_toList, hs]
    rw [List.take_take, Nat.min_eq_left (by omega), List.drop_take, Nat.add_mul]
    rw [List.take_append, List.take_append]
    simp only [List.length_append, List.length_take, hcl, hfl]
    rw [List.take_of_length_le (show (cur.toList.take (d * k)).length ≤ n * k by rw [List.length_take]; omega)]
    rw [List.take_of_length_le (show src.flatten.length ≤ n * k - min (d * k) (c * k) by rw [hfl]; omega)]
    congr 2
    omega
end
theorem Blk.shape {w : World} {g : Nat} {t : TypeId} {cs : Array Value} (h : Blk w g t cs) : w.shape? g = some (t, cs.size) := by
  unfold Blk at h
  simp [World.shape?, h]
theorem Rd.only {w w' : World} {A : Option Addr} {k : Nat} {rows : List (List Value)} {g b o : Nat} (h : Rd w A k rows) (hA : A = some ⟨b, o, none⟩) (ho : Only g w w') (hne : b ≠ g) : Rd w' A k rows := by
  intro i r hr
  obtain ⟨b', o', hA', hlt, hc⟩ := h i r hr
  rw [hA] at hA'
  injection hA' with e
  injection e with e1 e2 _
  subst e1 e2
  exact ⟨b, o, hA, Nat.lt_of_lt_of_le hlt ho.size, fun j v hv => (World.cell?_of_block (w := w) (ho.block b hlt hne)).trans (hc j v hv)⟩
theorem Blk.only {w w' : World} {g g' : Nat} {t : TypeId} {cs : Array Value} (h : Blk w g t cs) (ho : Only g' w w') (hne : g ≠ g') : Blk w' g t cs := (ho.block g h.lt hne).trans h
theorem Blk.rd {w : World} {g k : Nat} {t : TypeId} {cs : Array Value} (h : Blk w g t cs) : Rd w (some ⟨g, 0, none⟩) k [cs.toList] := by
  intro i r hr
  match i, hr with
  | 0, hr =>
    simp at hr
    subst hr
    refine ⟨g, 0, rfl, h.lt, fun j v hv => ?_⟩
    rw [h.cell]
    simpa using hv
theorem rd_dropR {w : World} {b o : Nat} {k : Nat} {rows : List (List Value)} (h : Rd w (some ⟨b, o, none⟩) k rows) (n : Nat) : Rd w (some ⟨b, o + n * k, none⟩) k (rows.drop n) := by
  intro i r hr
  rw [List.getElem?_drop] at hr
  obtain ⟨b', o', e, hb, hc⟩ := h _ r hr
  injection e with e
  injection e with e1 e2 _
  subst e1 e2
  exact ⟨b, o + n * k, rfl, hb, fun j v hv => by rw [show o + n * k + i * k + j = o + (n + i) * k + j from by rw [Nat.add_mul]; omega]; exact hc j v hv⟩
end Go.Proofs.YtalgfpegaobacaaGreat

/- Plain lists: where a test ends. -/
namespace Go.Proofs.YtalgfpegaobacaaGreat
open Go.RowKit
theorem while_cut {α : Type} {p : α → Bool} : ∀ {l : List α} {k : Nat} (_ : ∀ j (_ : j < l.length), j < k → p l[j] = true) (_ : k ≤ l.length) (_ : ∀ h : k < l.length, p l[k] = false), l.takeWhile p = l.take k ∧ l.dropWhile p = l.drop k
  | [], k, _, hk, _ => by simp at hk; subst hk; simp
  | a :: l, 0, _, _, h => by have := h (by simp); simp at this; simp [this]
  | a :: l, k + 1, h, hk, hn => by
    have h0 := h 0 (by simp) (by omega)
    simp at h0
    have := while_cut (p := p) (l := l) (k := k) (fun j hj hjk => by have := h (j + 1) (by simp; omega) (by omega); simpa using this) (by simpa using hk) (fun hk' => by have := hn (by simp; omega); simpa using this)
    simp [h0, this.1, this.2]
theorem rd_oneN {w : World} {cs : Array Value} {t : TypeId} {n k : Nat} (h : n = w.heap.size) : Rd (w.alloc (.cells cs t)) (some ⟨n, 0, none⟩) k [cs.toList] := by subst h; exact rd_one
/-- Whether what stands at a place meets a test. -/
def atB {α : Type} (p : α → Bool) (l : List α) (n : Nat) : Bool := match l[n]? with | some x => p x | none => false
theorem atB_some {α : Type} {p : α → Bool} {l : List α} {n : Nat} (h : n < l.length) : atB p l n = p l[n] := by
  unfold atB; rw [List.getElem?_eq_getElem h]
theorem atB_none {α : Type} {p : α → Bool} {l : List α} {n : Nat} (h : l.length ≤ n) : atB p l n = false := by
  unfold atB; rw [List.getElem?_eq_none h]
theorem tw_take {α : Type} (p : α → Bool) (l : List α) : l.takeWhile p = l.take (l.takeWhile p).length := by
  have h := List.takeWhile_append_dropWhile (p := p) (l := l)
  have h2 := congrArg (List.take (l.takeWhile p).length) h
  rw [List.take_left] at h2
  exact h2
theorem tw_len {α : Type} (p : α → Bool) (l : List α) : (l.takeWhile p).length ≤ l.length := by
  have h := congrArg List.length (tw_take p l)
  rw [List.length_take] at h; omega
/-- A slice that a struct holds: its address, its room, and what it reads as. -/
structure SlOf (α : Type) where
  A : Option Addr
  c : Nat
  val : List α
  deriving DecidableEq
theorem rowsJ (l : List Int) : ∀ r ∈ l.map encI, r.length = 1 ∧ ∀ u ∈ r, u.oneCell' = true := by
  intro r hr
  obtain ⟨m, _, rfl⟩ := List.mem_map.1 hr
  exact ⟨rfl, by simp [encI]; rfl⟩
end Go.Proofs.YtalgfpegaobacaaGreat
