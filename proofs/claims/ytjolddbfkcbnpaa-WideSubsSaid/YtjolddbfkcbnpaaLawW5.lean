/- The law WideSubs: its walk. -/
import Derived.Test.YtjolddbfkcbnpaaLawW1
import Derived.Test.YtjolddbfkcbnpaaWide5
import Derived.Test.YtjolddbfkcbnpaaWide9
import Derived.Test.YtjolddbfkcbnpaaBig9
namespace Go.Proofs.Ytjolddbfkcbnpaa
open Go.RowKit
/-- A wide number or why none, as the code answers. -/
def okX (n : Int) : Int := if in128 n then whi n else 0
def okY (n : Int) : Int := if in128 n then wlo n else 0
def okZ (n : Int) : Int := if in128 n then 0 else 7
theorem ok_yes {n : Int} (h : In128 n) : okX n = whi n ∧ okY n = wlo n ∧ okZ n = 0 := by unfold okX okY okZ; rw [in128_true h]; exact ⟨rfl, rfl, rfl⟩
theorem ok_no {n : Int} (h : ¬ In128 n) : okX n = 0 ∧ okY n = 0 ∧ okZ n = 7 := by unfold okX okY okZ; rw [in128_false h]; exact ⟨rfl, rfl, rfl⟩
theorem law01is (n : Int) (s : Bool) (l : List Int) (A : Option Addr) (c L : Nat) (w : World) (hL : L ≤ 900000) (hl : l.length ≤ L) (hB : IsBig w n s A l c) :
    Calls Try.prog 37 #[.agg #[.int .i64 (okX n), .int .u64 (okY n)], .int .i64 (okZ n), .agg #[.bool s, .slice A l.length c]] w fun e w' => e = .returned (.bool true) ∧ Below w.heap.size w w' := by
  by_cases h : In128 n
  · have hk := ok_yes h
    rw [hk.1, hk.2.1, hk.2.2]
    exact law01isYes n s l A c L w hL hl hB h
  · have hk := ok_no h
    rw [hk.1, hk.2.1, hk.2.2]
    exact law01isNo n s l A c L w hL hl hB h
theorem wideSub (a b : Int) (w : World) (ha : In128 a) (hb : In128 b) :
    Calls Try.prog 43 #[(.agg #[.int .i64 (whi (a)), .int .u64 (wlo (a))]), (.agg #[.int .i64 (whi (b)), .int .u64 (wlo (b))])] w fun e w' => e = .returned (.tuple #[.agg #[.int .i64 (okX (a - b)), .int .u64 (okY (a - b))], .int .i64 (okZ (a - b))]) ∧ Below w.heap.size w w' := by
  by_cases h : In128 (a - b)
  · have hk := ok_yes h
    rw [hk.1, hk.2.1, hk.2.2]
    exact wideSubYes a b w ha hb h
  · have hk := ok_no h
    rw [hk.1, hk.2.1, hk.2.2]
    exact wideSubNo a b w ha hb h
theorem wideNeg (a : Int) (w : World) (ha : In128 a) :
    Calls Try.prog 44 #[(.agg #[.int .i64 (whi (a)), .int .u64 (wlo (a))])] w fun e w' => e = .returned (.tuple #[.agg #[.int .i64 (okX (- a)), .int .u64 (okY (- a))], .int .i64 (okZ (- a))]) ∧ Below w.heap.size w w' := by
  by_cases h : In128 (- a)
  · have hk := ok_yes h
    rw [hk.1, hk.2.1, hk.2.2]
    exact wideNegYes a w ha h
  · have hk := ok_no h
    rw [hk.1, hk.2.1, hk.2.2]
    exact wideNegNo a w ha h
theorem wideTimes (a k : Int) (w : World) (ha : In128 a) (hk : In64 k) :
    Calls Try.prog 45 #[(.agg #[.int .i64 (whi (a)), .int .u64 (wlo (a))]), .int .i64 k] w fun e w' => e = .returned (.tuple #[.agg #[.int .i64 (okX (a * k)), .int .u64 (okY (a * k))], .int .i64 (okZ (a * k))]) ∧ Below w.heap.size w w' := by
  by_cases h : In128 (a * k)
  · have hk' := ok_yes h
    rw [hk'.1, hk'.2.1, hk'.2.2]
    exact wideTimesYes a k w ha hk h
  · have hk' := ok_no h
    rw [hk'.1, hk'.2.1, hk'.2.2]
    exact wideTimesNo a k w ha hk h
set_option maxRecDepth 100000 in
set_option maxHeartbeats 16000000 in
theorem wideSubs (a b n : Int) (w : World) (ha : In128 a) (hb : In128 b) (hn : In64 n) : Calls Try.prog 10 #[(.agg #[.int .i64 (whi (a)), .int .u64 (wlo (a))]), (.agg #[.int .i64 (whi (b)), .int .u64 (wlo (b))]), .int .i64 n] w fun e w' => e = .returned (.bool true) ∧ Below w.heap.size w w' := by
  go_enter Try.func10, Try.ntmps10
  go_wp2_with (first | (go_at_call 43; (with_reducible refine (wideSub a b _ ha hb).mono ?_); rintro e w1 ⟨rfl, hb1⟩; obtain ⟨fc1, fg1, hc1, hf1, hz1⟩ := bget hb1; (try simp at hz1)) | (go_at_call 44; (with_reducible refine (wideNeg a _ ha).mono ?_); rintro e w2 ⟨rfl, hb2⟩; obtain ⟨fc2, fg2, hc2, hf2, hz2⟩ := bget hb2; (try simp at hz2)) | (go_at_call 45; (with_reducible refine (wideTimes a n _ ha hn).mono ?_); rintro e w3 ⟨rfl, hb3⟩; obtain ⟨fc3, fg3, hc3, hf3, hz3⟩ := bget hb3; (try simp at hz3)) | fail)
  go_region_held3 (fun w' => w'.cell? ⟨w.heap.size, 0, none⟩ = some (.int .i64 (whi a)) ∧ w'.cell? ⟨w.heap.size, 1, none⟩ = some (.int .u64 (wlo a)) ∧ w'.cell? ⟨w.heap.size + 1, 0, none⟩ = some (.int .i64 (whi b)) ∧ w'.cell? ⟨w.heap.size + 1, 1, none⟩ = some (.int .u64 (wlo b)) ∧ w'.cell? ⟨w1.heap.size, 0, none⟩ = some (.int .i64 (okX (a - b))) ∧ w'.cell? ⟨w1.heap.size, 1, none⟩ = some (.int .u64 (okY (a - b))) ∧ w'.cell? ⟨w2.heap.size, 0, none⟩ = some (.int .i64 (okX (- a))) ∧ w'.cell? ⟨w2.heap.size, 1, none⟩ = some (.int .u64 (okY (- a))) ∧ w'.cell? ⟨w3.heap.size, 0, none⟩ = some (.int .i64 (okX (a * n))) ∧ w'.cell? ⟨w3.heap.size, 1, none⟩ = some (.int .u64 (okY (a * n)))) (first | (simp [hc1, hc2, hc3, go_sem, ↓IntWalk.iteOmega]; done) | (first | (simp [go_sem]; done) | (repeat' (first | (with_reducible assumption) | (with_reducible refine And.intro ?_ ?_) | (with_reducible refine cell_drew ?_) | (with_reducible refine cell_via (by with_reducible assumption) ?_ ?_) | (simp [*]; done) | (simp [go_sem]; done) | (with_reducible refine cell_alloc ?_ ?_) | (with_reducible refine cell_set_far ?_ ?_) | omega | (simp; omega))))) (first | (go_at_call 15; (with_reducible refine (law01big a _ ha).mono ?_); rintro e w4 ⟨s4, A4, l4, c4, rfl, hB4, hl4, hb4⟩; have HB4 := Lib.hid hB4; clear hB4; obtain ⟨fc4, fg4, hc4, hf4, hz4⟩ := bget hb4; (try simp at hz4)) | (go_at_call 15; (with_reducible refine (law01big b _ hb).mono ?_); rintro e w5 ⟨s5, A5, l5, c5, rfl, hB5, hl5, hb5⟩; have HB5 := Lib.hid hB5; clear hB5; obtain ⟨fc5, fg5, hc5, hf5, hz5⟩ := bget hb5; (try simp at hz5)) | (go_at_call 42; (with_reducible refine (bigSub a b s4 s5 l4 l5 A4 A5 c4 c5 194 _ (by omega) hl4 hl5 (HB4.out.keep (by (repeat' (first | (with_reducible exact Below.refl _ _) | (with_reducible assumption) | (with_reducible refine Below.alloc ?_ ?_ _) | (with_reducible refine Below.setCell ?_ ?_ _) | (with_reducible refine Below.drew ?_) | (with_reducible refine below_drewN ?_ _) | (with_reducible refine below_via ?_ (by with_reducible assumption) ?_) | omega | (simp; done) | (simp; omega))))) (HB5.out.keep (by (repeat' (first | (with_reducible exact Below.refl _ _) | (with_reducible assumption) | (with_reducible refine Below.alloc ?_ ?_ _) | (with_reducible refine Below.setCell ?_ ?_ _) | (with_reducible refine Below.drew ?_) | (with_reducible refine below_drewN ?_ _) | (with_reducible refine below_via ?_ (by with_reducible assumption) ?_) | omega | (simp; done) | (simp; omega)))))).mono ?_); rintro e w6 ⟨s6, A6, l6, c6, rfl, hB6, hl6, hb6⟩; have HB6 := Lib.hid hB6; clear hB6; obtain ⟨fc6, fg6, hc6, hf6, hz6⟩ := bget hb6; (try simp at hz6)) | (go_at_call 37; (with_reducible refine (law01is (a - b) s6 l6 A6 c6 195 _ (by omega) hl6 (HB6.out.keep (by (repeat' (first | (with_reducible exact Below.refl _ _) | (with_reducible assumption) | (with_reducible refine Below.alloc ?_ ?_ _) | (with_reducible refine Below.setCell ?_ ?_ _) | (with_reducible refine Below.drew ?_) | (with_reducible refine below_drewN ?_ _) | (with_reducible refine below_via ?_ (by with_reducible assumption) ?_) | omega | (simp; done) | (simp; omega)))))).mono ?_); rintro e w7 ⟨rfl, hb7⟩; obtain ⟨fc7, fg7, hc7, hf7, hz7⟩ := bget hb7; (try simp at hz7)) | (go_at_call 46; (with_reducible refine (bigNeg a s4 l4 A4 c4 194 _ (by omega) hl4 (HB4.out.keep (by (repeat' (first | (with_reducible exact Below.refl _ _) | (with_reducible assumption) | (with_reducible refine Below.alloc ?_ ?_ _) | (with_reducible refine Below.setCell ?_ ?_ _) | (with_reducible refine Below.drew ?_) | (with_reducible refine below_drewN ?_ _) | (with_reducible refine below_via ?_ (by with_reducible assumption) ?_) | omega | (simp; done) | (simp; omega)))))).mono ?_); rintro e w8 ⟨s8, A8, l8, c8, rfl, hB8, hl8, hb8⟩; have HB8 := Lib.hid hB8; clear hB8; obtain ⟨fc8, fg8, hc8, hf8, hz8⟩ := bget hb8; (try simp at hz8)) | (go_at_call 37; (with_reducible refine (law01is (- a) s8 l8 A8 c8 195 _ (by omega) (by omega) (HB8.out.keep (by (repeat' (first | (with_reducible exact Below.refl _ _) | (with_reducible assumption) | (with_reducible refine Below.alloc ?_ ?_ _) | (with_reducible refine Below.setCell ?_ ?_ _) | (with_reducible refine Below.drew ?_) | (with_reducible refine below_drewN ?_ _) | (with_reducible refine below_via ?_ (by with_reducible assumption) ?_) | omega | (simp; done) | (simp; omega)))))).mono ?_); rintro e w9 ⟨rfl, hb9⟩; obtain ⟨fc9, fg9, hc9, hf9, hz9⟩ := bget hb9; (try simp at hz9)) | (go_at_call 17; (with_reducible refine (bigOf n _ hn).mono ?_); rintro e w10 ⟨s10, A10, l10, c10, rfl, hB10, hl10, hb10⟩; have HB10 := Lib.hid hB10; clear hB10; obtain ⟨fc10, fg10, hc10, hf10, hz10⟩ := bget hb10; (try simp at hz10)) | (go_at_call 16; (with_reducible refine (bigMul a n s4 s10 l4 l10 A4 A10 c4 c10 194 _ (by omega) hl4 (by omega) (HB4.out.keep (by (repeat' (first | (with_reducible exact Below.refl _ _) | (with_reducible assumption) | (with_reducible refine Below.alloc ?_ ?_ _) | (with_reducible refine Below.setCell ?_ ?_ _) | (with_reducible refine Below.drew ?_) | (with_reducible refine below_drewN ?_ _) | (with_reducible refine below_via ?_ (by with_reducible assumption) ?_) | omega | (simp; done) | (simp; omega))))) (HB10.out.keep (by (repeat' (first | (with_reducible exact Below.refl _ _) | (with_reducible assumption) | (with_reducible refine Below.alloc ?_ ?_ _) | (with_reducible refine Below.setCell ?_ ?_ _) | (with_reducible refine Below.drew ?_) | (with_reducible refine below_drewN ?_ _) | (with_reducible refine below_via ?_ (by with_reducible assumption) ?_) | omega | (simp; done) | (simp; omega)))))).mono ?_); rintro e w11 ⟨s11, A11, l11, c11, rfl, hB11, hl11, hb11⟩; have HB11 := Lib.hid hB11; clear hB11; obtain ⟨fc11, fg11, hc11, hf11, hz11⟩ := bget hb11; (try simp at hz11)) | (go_at_call 37; (with_reducible refine (law01is (a * n) s11 l11 A11 c11 400 _ (by omega) (by omega) (HB11.out.keep (by (repeat' (first | (with_reducible exact Below.refl _ _) | (with_reducible assumption) | (with_reducible refine Below.alloc ?_ ?_ _) | (with_reducible refine Below.setCell ?_ ?_ _) | (with_reducible refine Below.drew ?_) | (with_reducible refine below_drewN ?_ _) | (with_reducible refine below_via ?_ (by with_reducible assumption) ?_) | omega | (simp; done) | (simp; omega)))))).mono ?_); rintro e w12 ⟨rfl, hb12⟩; obtain ⟨fc12, fg12, hc12, hf12, hz12⟩ := bget hb12; (try simp at hz12)) | (go_at_call 19; (with_reducible refine (law01lives _).mono ?_); rintro e w13 ⟨rfl, hb13⟩; obtain ⟨fc13, fg13, hc13, hf13, hz13⟩ := bget hb13; (try simp at hz13)) | fail)
  all_goals
    go_wp2_with fail
    go_ret
    exact ⟨rfl, by (repeat' (first | (with_reducible exact Below.refl _ _) | (with_reducible assumption) | (with_reducible refine Below.alloc ?_ ?_ _) | (with_reducible refine Below.setCell ?_ ?_ _) | (with_reducible refine Below.drew ?_) | (with_reducible refine below_drewN ?_ _) | (with_reducible refine below_via ?_ (by with_reducible assumption) ?_) | omega | (simp; done) | (simp; omega)))⟩
end Go.Proofs.Ytjolddbfkcbnpaa
