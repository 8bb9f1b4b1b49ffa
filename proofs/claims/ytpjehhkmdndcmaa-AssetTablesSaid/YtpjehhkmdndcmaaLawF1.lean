/- Layer 2's laws: fix.Scale; what the laws call of their own: lives, Is, few. -/
import Derived.Test.YtpjehhkmdndcmaaFix2
import Derived.Test.YtpjehhkmdndcmaaWide7
import Derived.Test.YtpjehhkmdndcmaaBig7
namespace Go.Proofs.Ytpjehhkmdndcmaa
open Go.RowKit
theorem div_in' {a d : Int} (ha : In128 a) (hd : 0 < d) : In128 (a / d) := by
  unfold In128 at *
  by_cases h : 0 ≤ a
  · have h1 : 0 ≤ a / d := Int.ediv_nonneg h (by omega)
    have h2 := Int.ediv_le_self d h
    omega
  · have h1 : a / d < 0 := Int.ediv_lt_of_lt_mul hd (by omega)
    have h2 : a ≤ a / d := Int.le_ediv_of_mul_le hd (by
      have h3 : (- a) * 1 ≤ (- a) * d := Int.mul_le_mul_of_nonneg_left (by omega) (by omega)
      rw [Int.neg_mul, Int.neg_mul] at h3
      omega)
    omega
theorem in64_not' {n : Int} (h : ¬ In64 n) : in64 n = false := by cases e : in64 n; rfl; exact absurd (in64_iff.1 e) h
set_option maxRecDepth 100000 in
set_option maxHeartbeats 4000000 in
theorem fixScaleYes (a n d : Int) (w : World) (ha : In64 a) (hn : In64 n) (hd : 0 < d) (hd1 : d ≤ 9223372036854775807) (h : In64 (a * n / d)) :
    Calls Try.prog 70 #[.int .i64 a, .int .i64 n, .int .i64 d] w fun e w' => e = .returned (.tuple #[.int .i64 (a * n / d), .int .i64 (a * n % d), .int .i64 0]) ∧ Below w.heap.size w w' := by
  have hm := mul64_128 ha hn
  skip
  go_enter Try.func70, Try.ntmps70
  go_wp2_with (first | (go_at_call 57; (with_reducible refine (wideMul a n _ ha hn).mono ?_); rintro e w1 ⟨rfl, hb1⟩; obtain ⟨fc1, fg1, hc1, hf1, hz1⟩ := bget hb1; (try simp at hz1)) | (go_at_call 97; (with_reducible refine (wideDiv (a * n) d _ hm hd hd1).mono ?_); rintro e w2 ⟨rfl, hb2⟩; obtain ⟨fc2, fg2, hc2, hf2, hz2⟩ := bget hb2; (try simp at hz2)) | (go_at_call 98; (with_reducible refine (narrowYes (a * n / d) _ h).mono ?_); rintro e w3 ⟨rfl, hb3⟩; obtain ⟨fc3, fg3, hc3, hf3, hz3⟩ := bget hb3; (try simp at hz3)) | fail)
  refine bodyPost_ret (by simp [results, Try.results70, go_sem, ]; try rfl) rfl ⟨rfl, ?_⟩
  (repeat' (first | (with_reducible exact Below.refl _ _) | (with_reducible assumption) | (with_reducible refine Below.alloc ?_ ?_ _) | (with_reducible refine Below.setCell ?_ ?_ _) | (with_reducible refine Below.drew ?_) | (with_reducible refine below_drewN ?_ _) | (with_reducible refine below_via ?_ (by with_reducible assumption) ?_) | omega | (simp; done) | (simp; omega)))
set_option maxRecDepth 100000 in
set_option maxHeartbeats 4000000 in
theorem fixScaleNo (a n d : Int) (w : World) (ha : In64 a) (hn : In64 n) (hd : 0 < d) (hd1 : d ≤ 9223372036854775807) (h : ¬ In64 (a * n / d)) :
    Calls Try.prog 70 #[.int .i64 a, .int .i64 n, .int .i64 d] w fun e w' => e = .returned (.tuple #[.int .i64 0, .int .i64 0, .int .i64 7]) ∧ Below w.heap.size w w' := by
  have hm := mul64_128 ha hn
  have hq := div_in' hm hd
  go_enter Try.func70, Try.ntmps70
  go_wp2_with (first | (go_at_call 57; (with_reducible refine (wideMul a n _ ha hn).mono ?_); rintro e w1 ⟨rfl, hb1⟩; obtain ⟨fc1, fg1, hc1, hf1, hz1⟩ := bget hb1; (try simp at hz1)) | (go_at_call 97; (with_reducible refine (wideDiv (a * n) d _ hm hd hd1).mono ?_); rintro e w2 ⟨rfl, hb2⟩; obtain ⟨fc2, fg2, hc2, hf2, hz2⟩ := bget hb2; (try simp at hz2)) | (go_at_call 98; (with_reducible refine (narrowNo (a * n / d) _ hq h).mono ?_); rintro e w3 ⟨rfl, hb3⟩; obtain ⟨fc3, fg3, hc3, hf3, hz3⟩ := bget hb3; (try simp at hz3)) | fail)
  refine bodyPost_ret (by simp [results, Try.results70, go_sem, ]; try rfl) rfl ⟨rfl, ?_⟩
  (repeat' (first | (with_reducible exact Below.refl _ _) | (with_reducible assumption) | (with_reducible refine Below.alloc ?_ ?_ _) | (with_reducible refine Below.setCell ?_ ?_ _) | (with_reducible refine Below.drew ?_) | (with_reducible refine below_drewN ?_ _) | (with_reducible refine below_via ?_ (by with_reducible assumption) ?_) | omega | (simp; done) | (simp; omega)))
set_option maxRecDepth 100000 in
set_option maxHeartbeats 4000000 in
theorem fixScaleNeg (a n d : Int) (w : World) (ha : In64 a) (hn : In64 n) (hd : d < 0) :
    Calls Try.prog 70 #[.int .i64 a, .int .i64 n, .int .i64 d] w fun e w' => e = .returned (.tuple #[.int .i64 0, .int .i64 0, .int .i64 2]) ∧ Below w.heap.size w w' := by
  have hm := mul64_128 ha hn
  skip
  go_enter Try.func70, Try.ntmps70
  go_wp2_with (first | (go_at_call 57; (with_reducible refine (wideMul a n _ ha hn).mono ?_); rintro e w1 ⟨rfl, hb1⟩; obtain ⟨fc1, fg1, hc1, hf1, hz1⟩ := bget hb1; (try simp at hz1)) | (go_at_call 97; (with_reducible refine (wideDivNeg (a * n) d _ hd).mono ?_); rintro e w2 ⟨rfl, hb2⟩; obtain ⟨fc2, fg2, hc2, hf2, hz2⟩ := bget hb2; (try simp at hz2)) | (go_at_call 98; (with_reducible refine (narrowErr 0 0 2 _ rfl).mono ?_); rintro e w3 ⟨rfl, hb3⟩; obtain ⟨fc3, fg3, hc3, hf3, hz3⟩ := bget hb3; (try simp at hz3)) | fail)
  refine bodyPost_ret (by simp [results, Try.results70, go_sem, ]; try rfl) rfl ⟨rfl, ?_⟩
  (repeat' (first | (with_reducible exact Below.refl _ _) | (with_reducible assumption) | (with_reducible refine Below.alloc ?_ ?_ _) | (with_reducible refine Below.setCell ?_ ?_ _) | (with_reducible refine Below.drew ?_) | (with_reducible refine below_drewN ?_ _) | (with_reducible refine below_via ?_ (by with_reducible assumption) ?_) | omega | (simp; done) | (simp; omega)))
set_option maxRecDepth 100000 in
set_option maxHeartbeats 4000000 in
theorem fixScaleZero (a n : Int) (w : World) (ha : In64 a) (hn : In64 n) :
    Calls Try.prog 70 #[.int .i64 a, .int .i64 n, .int .i64 0] w fun e w' => e = .returned (.tuple #[.int .i64 0, .int .i64 0, .int .i64 8]) ∧ Below w.heap.size w w' := by
  go_enter Try.func70, Try.ntmps70
  go_wp2_with (first | (go_at_call 57; (with_reducible refine (wideMul a n _ ha hn).mono ?_); rintro e w1 ⟨rfl, hb1⟩; obtain ⟨fc1, fg1, hc1, hf1, hz1⟩ := bget hb1; (try simp at hz1)) | (go_at_call 97; (with_reducible refine (wideDivZero (a * n) _).mono ?_); rintro e w2 ⟨rfl, hb2⟩; obtain ⟨fc2, fg2, hc2, hf2, hz2⟩ := bget hb2; (try simp at hz2)) | (go_at_call 98; (with_reducible refine (narrowErr 0 0 8 _ rfl).mono ?_); rintro e w3 ⟨rfl, hb3⟩; obtain ⟨fc3, fg3, hc3, hf3, hz3⟩ := bget hb3; (try simp at hz3)) | fail)
  refine bodyPost_ret (by simp [results, Try.results70, go_sem, ]; try rfl) rfl ⟨rfl, ?_⟩
  (repeat' (first | (with_reducible exact Below.refl _ _) | (with_reducible assumption) | (with_reducible refine Below.alloc ?_ ?_ _) | (with_reducible refine Below.setCell ?_ ?_ _) | (with_reducible refine Below.drew ?_) | (with_reducible refine below_drewN ?_ _) | (with_reducible refine below_via ?_ (by with_reducible assumption) ?_) | omega | (simp; done) | (simp; omega)))
theorem ord_self' (n : Int) : ord n n = 0 := by unfold ord; rw [if_neg (by omega), if_neg (by omega)]
/-- A number or why none, as the code answers. -/
def okN (n : Int) : Int := if in64 n then n else 0
def okE (n : Int) : Int := if in64 n then 0 else 7
theorem okN_yes {n : Int} (h : In64 n) : okN n = n ∧ okE n = 0 := by unfold okN okE; rw [in64_iff.2 h]; exact ⟨rfl, rfl⟩
theorem okN_no {n : Int} (h : ¬ In64 n) : okN n = 0 ∧ okE n = 7 := by unfold okN okE; rw [in64_not' h]; exact ⟨rfl, rfl⟩
set_option maxRecDepth 100000 in
set_option maxHeartbeats 4000000 in
theorem law02Is (n : Int) (s : Bool) (l : List Int) (A : Option Addr) (c L : Nat) (w : World) (hL : L ≤ 900000) (hl : l.length ≤ L) (hB : IsBig w n s A l c) :
    Calls Try.prog 19 #[.int .i64 (okN n), .int .i64 (okE n), .agg #[.bool s, .slice A l.length c]] w fun e w' => e = .returned (.bool true) ∧ Below w.heap.size w w' := by
  have c1 := fun W (h : IsBig W n s A l c) => bigFits n s l A c L W hL hl h
  have HB := Lib.hid hB
  clear hB
  by_cases hn : In64 n
  · have hk := okN_yes hn
    rw [hk.1, hk.2]
    rw [in64_iff.2 hn] at c1
    have C1 := Lib.hid c1
    clear c1 hk
    go_enter Try.func19, Try.ntmps19
    go_wp2_with (first | (go_at_call 23; (with_reducible refine (C1.out _ (HB.out.keep (by (repeat' (first | (with_reducible exact Below.refl _ _) | (with_reducible assumption) | (with_reducible refine Below.alloc ?_ ?_ _) | (with_reducible refine Below.setCell ?_ ?_ _) | (with_reducible refine Below.drew ?_) | (with_reducible refine below_drewN ?_ _) | (with_reducible refine below_via ?_ (by with_reducible assumption) ?_) | omega | (simp; done) | (simp; omega)))))).mono ?_); rintro e w1 ⟨rfl, hb1⟩; obtain ⟨fc1, fg1, hc1, hf1, hz1⟩ := bget hb1; try simp at hz1) | fail)
    go_region_held3 (fun w' => w'.cell? ⟨w.heap.size, 0, none⟩ = some (.bool s) ∧ w'.cell? ⟨w.heap.size, 1, none⟩ = some (.slice A l.length c)) (first | (simp [go_sem]; done) | (repeat' (first | (with_reducible assumption) | (with_reducible refine And.intro ?_ ?_) | (with_reducible refine cell_drew ?_) | (with_reducible refine cell_via (by with_reducible assumption) ?_ ?_) | (simp [*]; done) | (simp [go_sem]; done) | (with_reducible refine cell_alloc ?_ ?_) | (with_reducible refine cell_set_far ?_ ?_) | omega | (simp; omega)))) (first | (go_at_call 22; (with_reducible refine (bigOf n _ hn).mono ?_); rintro e w2 ⟨s2, A2, l2, c2, rfl, hB2, hl2, hb2⟩; have HB2 := Lib.hid hB2; clear hB2; obtain ⟨fc2, fg2, hc2, hf2, hz2⟩ := bget hb2; (try simp at hz2)) | (go_at_call 13; (with_reducible refine (bigCmp n n s2 s l2 l A2 A c2 c (L + 65) _ (by omega) (by omega) (by omega) (HB2.out.keep (by (repeat' (first | (with_reducible exact Below.refl _ _) | (with_reducible assumption) | (with_reducible refine Below.alloc ?_ ?_ _) | (with_reducible refine Below.setCell ?_ ?_ _) | (with_reducible refine Below.drew ?_) | (with_reducible refine below_drewN ?_ _) | (with_reducible refine below_via ?_ (by with_reducible assumption) ?_) | omega | (simp; done) | (simp; omega))))) (HB.out.keep (by (repeat' (first | (with_reducible exact Below.refl _ _) | (with_reducible assumption) | (with_reducible refine Below.alloc ?_ ?_ _) | (with_reducible refine Below.setCell ?_ ?_ _) | (with_reducible refine Below.drew ?_) | (with_reducible refine below_drewN ?_ _) | (with_reducible refine below_via ?_ (by with_reducible assumption) ?_) | omega | (simp; done) | (simp; omega)))))).mono ?_); rintro e w3 ⟨rfl, hb3⟩; rw [ord_self']; obtain ⟨fc3, fg3, hc3, hf3, hz3⟩ := bget hb3; (try simp at hz3)) | fail)
    all_goals
      go_wp2_with fail
      go_ret
      exact ⟨rfl, by (repeat' (first | (with_reducible exact Below.refl _ _) | (with_reducible assumption) | (with_reducible refine Below.alloc ?_ ?_ _) | (with_reducible refine Below.setCell ?_ ?_ _) | (with_reducible refine Below.drew ?_) | (with_reducible refine below_drewN ?_ _) | (with_reducible refine below_via ?_ (by with_reducible assumption) ?_) | omega | (simp; done) | (simp; omega)))⟩
  · have hk := okN_no hn
    rw [hk.1, hk.2]
    rw [in64_not' hn] at c1
    have C1 := Lib.hid c1
    clear c1 hk
    go_enter Try.func19, Try.ntmps19
    go_wp2_with (first | (go_at_call 23; (with_reducible refine (C1.out _ (HB.out.keep (by (repeat' (first | (with_reducible exact Below.refl _ _) | (with_reducible assumption) | (with_reducible refine Below.alloc ?_ ?_ _) | (with_reducible refine Below.setCell ?_ ?_ _) | (with_reducible refine Below.drew ?_) | (with_reducible refine below_drewN ?_ _) | (with_reducible refine below_via ?_ (by with_reducible assumption) ?_) | omega | (simp; done) | (simp; omega)))))).mono ?_); rintro e w1 ⟨rfl, hb1⟩; obtain ⟨fc1, fg1, hc1, hf1, hz1⟩ := bget hb1; try simp at hz1) | fail)
    go_ret
    exact ⟨rfl, by (repeat' (first | (with_reducible exact Below.refl _ _) | (with_reducible assumption) | (with_reducible refine Below.alloc ?_ ?_ _) | (with_reducible refine Below.setCell ?_ ?_ _) | (with_reducible refine Below.drew ?_) | (with_reducible refine below_drewN ?_ _) | (with_reducible refine below_via ?_ (by with_reducible assumption) ?_) | omega | (simp; done) | (simp; omega)))⟩
theorem rd_take {w : World} {A : Option Addr} {l : List Int} (h : Rd w A 1 (l.map encI)) (k : Nat) : Rd w A 1 ((l.take k).map encI) := by
  intro i r hr
  rw [List.map_take, List.getElem?_take] at hr
  split at hr
  · exact h i r hr
  · cases hr
end Go.Proofs.Ytpjehhkmdndcmaa
