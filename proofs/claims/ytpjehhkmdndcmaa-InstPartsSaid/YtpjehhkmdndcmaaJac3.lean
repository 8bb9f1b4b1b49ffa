/- Joined: AssetL2. -/
import Derived.Test.YtpjehhkmdndcmaaJac2
/- Layer 12's laws: AssetCounts' walk. -/
namespace Go.Proofs.Ytpjehhkmdndcmaa
open Go.RowKit
theorem eqT {a b : Int} (h : a = b) : (a == b) = true ∧ (a != b) = false := by subst h; simp
theorem eqF {a b : Int} (h : a ≠ b) : (a == b) = false ∧ (a != b) = true := by simp [h]
set_option maxRecDepth 100000 in
set_option maxHeartbeats 8000000 in
theorem assetCounts11 (x : Asset) (q m a wn we cn ce dn de sn se : Int) (w : World) (ha : In64 a) (hs : In64 sn) (hp : In64 x.price)
    (c1 : ∀ W, Calls Try.prog 25 #[.agg #[.int .i64 x.id, .int .i64 x.price, .int .i64 x.hair], .int .i64 q] W fun e w' => e = .returned (.tuple #[.int .i64 wn, .int .i64 we]) ∧ Below W.heap.size W w')
    (c2 : ∀ W, Calls Try.prog 26 #[.agg #[.int .i64 x.id, .int .i64 x.price, .int .i64 x.hair], .int .i64 q] W fun e w' => e = .returned (.tuple #[.int .i64 cn, .int .i64 ce]) ∧ Below W.heap.size W w')
    (c3 : ∀ W, Calls Try.prog 26 #[.agg #[.int .i64 x.id, .int .i64 x.price, .int .i64 x.hair], .int .i64 m] W fun e w' => e = .returned (.tuple #[.int .i64 dn, .int .i64 de]) ∧ Below W.heap.size W w')
    (c4 : ∀ W, Calls Try.prog 27 #[.agg #[.int .i64 x.id, .int .i64 x.price, .int .i64 x.hair], .int .i64 a] W fun e w' => e = .returned (.tuple #[.int .i64 sn, .int .i64 se]) ∧ Below W.heap.size W w')
    (hf : ce ≠ 0) (kh : se ≠ 0) (ks : sn = 0) :
    Calls Try.prog 7 #[.agg #[.int .i64 x.id, .int .i64 x.price, .int .i64 x.hair], .int .i64 q, .int .i64 m, .int .i64 a] w fun e w' => e = .returned (.bool true) ∧ Below w.heap.size w w' := by
  have hu := And.intro ha (And.intro hs hp)
  clear hu
  have g0 := (eqF hf).1
  have g1 := (eqF hf).2
  subst ks
  have k0 := (eqF kh).1
  have k1 := (eqF kh).2
  have C1 := Lib.hid c1
  have C2 := Lib.hid c2
  have C3 := Lib.hid c3
  have C4 := Lib.hid c4
  clear c1 c2 c3 c4
  go_enter Try.func7, Try.ntmps7
  go_wp2_with (first | (go_at_call 25; (with_reducible refine (C1.out _).mono ?_); rintro e w1 ⟨rfl, hb1⟩; obtain ⟨fc1, fg1, hc1, hf1, hz1⟩ := bget hb1; (try simp at hz1)) | (go_at_call 26; (with_reducible refine (C2.out _).mono ?_); rintro e w2 ⟨rfl, hb2⟩; obtain ⟨fc2, fg2, hc2, hf2, hz2⟩ := bget hb2; (try simp at hz2)) | (go_at_call 26; (with_reducible refine (C3.out _).mono ?_); rintro e w3 ⟨rfl, hb3⟩; obtain ⟨fc3, fg3, hc3, hf3, hz3⟩ := bget hb3; (try simp at hz3)) | (go_at_call 27; (with_reducible refine (C4.out _).mono ?_); rintro e w4 ⟨rfl, hb4⟩; obtain ⟨fc4, fg4, hc4, hf4, hz4⟩ := bget hb4; (try simp at hz4)) | (go_at_call 29; (with_reducible refine (law12lives _).mono ?_); rintro e w5 ⟨rfl, hb5⟩; obtain ⟨fc5, fg5, hc5, hf5, hz5⟩ := bget hb5; (try simp at hz5))  | fail)
  all_goals
    go_ret
    exact ⟨rfl, by (repeat' (first | (with_reducible exact Below.refl _ _) | (with_reducible assumption) | (with_reducible refine Below.alloc ?_ ?_ _) | (with_reducible refine Below.setCell ?_ ?_ _) | (with_reducible refine Below.drew ?_) | (with_reducible refine below_drewN ?_ _) | (with_reducible refine below_via ?_ (by with_reducible assumption) ?_) | omega | (simp; done) | (simp; omega)))⟩
set_option maxRecDepth 100000 in
set_option maxHeartbeats 8000000 in
theorem assetCounts12 (x : Asset) (q m a wn we cn ce dn de sn se : Int) (w : World) (ha : In64 a) (hs : In64 sn) (hp : In64 x.price)
    (c1 : ∀ W, Calls Try.prog 25 #[.agg #[.int .i64 x.id, .int .i64 x.price, .int .i64 x.hair], .int .i64 q] W fun e w' => e = .returned (.tuple #[.int .i64 wn, .int .i64 we]) ∧ Below W.heap.size W w')
    (c2 : ∀ W, Calls Try.prog 26 #[.agg #[.int .i64 x.id, .int .i64 x.price, .int .i64 x.hair], .int .i64 q] W fun e w' => e = .returned (.tuple #[.int .i64 cn, .int .i64 ce]) ∧ Below W.heap.size W w')
    (c3 : ∀ W, Calls Try.prog 26 #[.agg #[.int .i64 x.id, .int .i64 x.price, .int .i64 x.hair], .int .i64 m] W fun e w' => e = .returned (.tuple #[.int .i64 dn, .int .i64 de]) ∧ Below W.heap.size W w')
    (c4 : ∀ W, Calls Try.prog 27 #[.agg #[.int .i64 x.id, .int .i64 x.price, .int .i64 x.hair], .int .i64 a] W fun e w' => e = .returned (.tuple #[.int .i64 sn, .int .i64 se]) ∧ Below W.heap.size W w')
    (hf : ce ≠ 0) (kh : se = 0) (ka : a ≤ 0) (ks : sn = 0) :
    Calls Try.prog 7 #[.agg #[.int .i64 x.id, .int .i64 x.price, .int .i64 x.hair], .int .i64 q, .int .i64 m, .int .i64 a] w fun e w' => e = .returned (.bool true) ∧ Below w.heap.size w w' := by
  have hu := And.intro ha (And.intro hs hp)
  clear hu
  have g0 := (eqF hf).1
  have g1 := (eqF hf).2
  subst ks kh
  have k0 : decide (a ≤ 0) = true := (by simp; omega)
  have C1 := Lib.hid c1
  have C2 := Lib.hid c2
  have C3 := Lib.hid c3
  have C4 := Lib.hid c4
  clear c1 c2 c3 c4
  go_enter Try.func7, Try.ntmps7
  go_wp2_with (first | (go_at_call 25; (with_reducible refine (C1.out _).mono ?_); rintro e w1 ⟨rfl, hb1⟩; obtain ⟨fc1, fg1, hc1, hf1, hz1⟩ := bget hb1; (try simp at hz1)) | (go_at_call 26; (with_reducible refine (C2.out _).mono ?_); rintro e w2 ⟨rfl, hb2⟩; obtain ⟨fc2, fg2, hc2, hf2, hz2⟩ := bget hb2; (try simp at hz2)) | (go_at_call 26; (with_reducible refine (C3.out _).mono ?_); rintro e w3 ⟨rfl, hb3⟩; obtain ⟨fc3, fg3, hc3, hf3, hz3⟩ := bget hb3; (try simp at hz3)) | (go_at_call 27; (with_reducible refine (C4.out _).mono ?_); rintro e w4 ⟨rfl, hb4⟩; obtain ⟨fc4, fg4, hc4, hf4, hz4⟩ := bget hb4; (try simp at hz4)) | (go_at_call 29; (with_reducible refine (law12lives _).mono ?_); rintro e w5 ⟨rfl, hb5⟩; obtain ⟨fc5, fg5, hc5, hf5, hz5⟩ := bget hb5; (try simp at hz5))  | fail)
  all_goals
    go_ret
    exact ⟨rfl, by (repeat' (first | (with_reducible exact Below.refl _ _) | (with_reducible assumption) | (with_reducible refine Below.alloc ?_ ?_ _) | (with_reducible refine Below.setCell ?_ ?_ _) | (with_reducible refine Below.drew ?_) | (with_reducible refine below_drewN ?_ _) | (with_reducible refine below_via ?_ (by with_reducible assumption) ?_) | omega | (simp; done) | (simp; omega)))⟩
set_option maxRecDepth 100000 in
set_option maxHeartbeats 8000000 in
theorem assetCounts21 (x : Asset) (q m a wn we cn ce dn de sn se : Int) (w : World) (ha : In64 a) (hs : In64 sn) (hp : In64 x.price)
    (c1 : ∀ W, Calls Try.prog 25 #[.agg #[.int .i64 x.id, .int .i64 x.price, .int .i64 x.hair], .int .i64 q] W fun e w' => e = .returned (.tuple #[.int .i64 wn, .int .i64 we]) ∧ Below W.heap.size W w')
    (c2 : ∀ W, Calls Try.prog 26 #[.agg #[.int .i64 x.id, .int .i64 x.price, .int .i64 x.hair], .int .i64 q] W fun e w' => e = .returned (.tuple #[.int .i64 cn, .int .i64 ce]) ∧ Below W.heap.size W w')
    (c3 : ∀ W, Calls Try.prog 26 #[.agg #[.int .i64 x.id, .int .i64 x.price, .int .i64 x.hair], .int .i64 m] W fun e w' => e = .returned (.tuple #[.int .i64 dn, .int .i64 de]) ∧ Below W.heap.size W w')
    (c4 : ∀ W, Calls Try.prog 27 #[.agg #[.int .i64 x.id, .int .i64 x.price, .int .i64 x.hair], .int .i64 a] W fun e w' => e = .returned (.tuple #[.int .i64 sn, .int .i64 se]) ∧ Below W.heap.size W w')
    (hf : ce = 0) (he : we = 0) (h0 : 0 ≤ cn) (h1 : cn ≤ wn) (hg : de ≠ 0) (kh : se ≠ 0) (ks : sn = 0) :
    Calls Try.prog 7 #[.agg #[.int .i64 x.id, .int .i64 x.price, .int .i64 x.hair], .int .i64 q, .int .i64 m, .int .i64 a] w fun e w' => e = .returned (.bool true) ∧ Below w.heap.size w w' := by
  have hu := And.intro ha (And.intro hs hp)
  clear hu
  subst hf he
  have g0 := (eqF hg).1
  have g1 := (eqF hg).2
  have g2 : decide (cn < 0) = false := (by simp; omega)
  have g3 : decide (wn < cn) = false := (by simp; omega)
  subst ks
  have k0 := (eqF kh).1
  have k1 := (eqF kh).2
  have C1 := Lib.hid c1
  have C2 := Lib.hid c2
  have C3 := Lib.hid c3
  have C4 := Lib.hid c4
  clear c1 c2 c3 c4
  go_enter Try.func7, Try.ntmps7
  go_wp2_with (first | (go_at_call 25; (with_reducible refine (C1.out _).mono ?_); rintro e w1 ⟨rfl, hb1⟩; obtain ⟨fc1, fg1, hc1, hf1, hz1⟩ := bget hb1; (try simp at hz1)) | (go_at_call 26; (with_reducible refine (C2.out _).mono ?_); rintro e w2 ⟨rfl, hb2⟩; obtain ⟨fc2, fg2, hc2, hf2, hz2⟩ := bget hb2; (try simp at hz2)) | (go_at_call 26; (with_reducible refine (C3.out _).mono ?_); rintro e w3 ⟨rfl, hb3⟩; obtain ⟨fc3, fg3, hc3, hf3, hz3⟩ := bget hb3; (try simp at hz3)) | (go_at_call 27; (with_reducible refine (C4.out _).mono ?_); rintro e w4 ⟨rfl, hb4⟩; obtain ⟨fc4, fg4, hc4, hf4, hz4⟩ := bget hb4; (try simp at hz4)) | (go_at_call 29; (with_reducible refine (law12lives _).mono ?_); rintro e w5 ⟨rfl, hb5⟩; obtain ⟨fc5, fg5, hc5, hf5, hz5⟩ := bget hb5; (try simp at hz5))  | fail)
  all_goals
    go_ret
    exact ⟨rfl, by (repeat' (first | (with_reducible exact Below.refl _ _) | (with_reducible assumption) | (with_reducible refine Below.alloc ?_ ?_ _) | (with_reducible refine Below.setCell ?_ ?_ _) | (with_reducible refine Below.drew ?_) | (with_reducible refine below_drewN ?_ _) | (with_reducible refine below_via ?_ (by with_reducible assumption) ?_) | omega | (simp; done) | (simp; omega)))⟩
set_option maxRecDepth 100000 in
set_option maxHeartbeats 8000000 in
theorem assetCounts22 (x : Asset) (q m a wn we cn ce dn de sn se : Int) (w : World) (ha : In64 a) (hs : In64 sn) (hp : In64 x.price)
    (c1 : ∀ W, Calls Try.prog 25 #[.agg #[.int .i64 x.id, .int .i64 x.price, .int .i64 x.hair], .int .i64 q] W fun e w' => e = .returned (.tuple #[.int .i64 wn, .int .i64 we]) ∧ Below W.heap.size W w')
    (c2 : ∀ W, Calls Try.prog 26 #[.agg #[.int .i64 x.id, .int .i64 x.price, .int .i64 x.hair], .int .i64 q] W fun e w' => e = .returned (.tuple #[.int .i64 cn, .int .i64 ce]) ∧ Below W.heap.size W w')
    (c3 : ∀ W, Calls Try.prog 26 #[.agg #[.int .i64 x.id, .int .i64 x.price, .int .i64 x.hair], .int .i64 m] W fun e w' => e = .returned (.tuple #[.int .i64 dn, .int .i64 de]) ∧ Below W.heap.size W w')
    (c4 : ∀ W, Calls Try.prog 27 #[.agg #[.int .i64 x.id, .int .i64 x.price, .int .i64 x.hair], .int .i64 a] W fun e w' => e = .returned (.tuple #[.int .i64 sn, .int .i64 se]) ∧ Below W.heap.size W w')
    (hf : ce = 0) (he : we = 0) (h0 : 0 ≤ cn) (h1 : cn ≤ wn) (hg : de ≠ 0) (kh : se = 0) (ka : a ≤ 0) (ks : sn = 0) :
    Calls Try.prog 7 #[.agg #[.int .i64 x.id, .int .i64 x.price, .int .i64 x.hair], .int .i64 q, .int .i64 m, .int .i64 a] w fun e w' => e = .returned (.bool true) ∧ Below w.heap.size w w' := by
  have hu := And.intro ha (And.intro hs hp)
  clear hu
  subst hf he
  have g0 := (eqF hg).1
  have g1 := (eqF hg).2
  have g2 : decide (cn < 0) = false := (by simp; omega)
  have g3 : decide (wn < cn) = false := (by simp; omega)
  subst ks kh
  have k0 : decide (a ≤ 0) = true := (by simp; omega)
  have C1 := Lib.hid c1
  have C2 := Lib.hid c2
  have C3 := Lib.hid c3
  have C4 := Lib.hid c4
  clear c1 c2 c3 c4
  go_enter Try.func7, Try.ntmps7
  go_wp2_with (first | (go_at_call 25; (with_reducible refine (C1.out _).mono ?_); rintro e w1 ⟨rfl, hb1⟩; obtain ⟨fc1, fg1, hc1, hf1, hz1⟩ := bget hb1; (try simp at hz1)) | (go_at_call 26; (with_reducible refine (C2.out _).mono ?_); rintro e w2 ⟨rfl, hb2⟩; obtain ⟨fc2, fg2, hc2, hf2, hz2⟩ := bget hb2; (try simp at hz2)) | (go_at_call 26; (with_reducible refine (C3.out _).mono ?_); rintro e w3 ⟨rfl, hb3⟩; obtain ⟨fc3, fg3, hc3, hf3, hz3⟩ := bget hb3; (try simp at hz3)) | (go_at_call 27; (with_reducible refine (C4.out _).mono ?_); rintro e w4 ⟨rfl, hb4⟩; obtain ⟨fc4, fg4, hc4, hf4, hz4⟩ := bget hb4; (try simp at hz4)) | (go_at_call 29; (with_reducible refine (law12lives _).mono ?_); rintro e w5 ⟨rfl, hb5⟩; obtain ⟨fc5, fg5, hc5, hf5, hz5⟩ := bget hb5; (try simp at hz5))  | fail)
  all_goals
    go_ret
    exact ⟨rfl, by (repeat' (first | (with_reducible exact Below.refl _ _) | (with_reducible assumption) | (with_reducible refine Below.alloc ?_ ?_ _) | (with_reducible refine Below.setCell ?_ ?_ _) | (with_reducible refine Below.drew ?_) | (with_reducible refine below_drewN ?_ _) | (with_reducible refine below_via ?_ (by with_reducible assumption) ?_) | omega | (simp; done) | (simp; omega)))⟩
set_option maxRecDepth 100000 in
set_option maxHeartbeats 8000000 in
theorem assetCounts31 (x : Asset) (q m a wn we cn ce dn de sn se : Int) (w : World) (ha : In64 a) (hs : In64 sn) (hp : In64 x.price)
    (c1 : ∀ W, Calls Try.prog 25 #[.agg #[.int .i64 x.id, .int .i64 x.price, .int .i64 x.hair], .int .i64 q] W fun e w' => e = .returned (.tuple #[.int .i64 wn, .int .i64 we]) ∧ Below W.heap.size W w')
    (c2 : ∀ W, Calls Try.prog 26 #[.agg #[.int .i64 x.id, .int .i64 x.price, .int .i64 x.hair], .int .i64 q] W fun e w' => e = .returned (.tuple #[.int .i64 cn, .int .i64 ce]) ∧ Below W.heap.size W w')
    (c3 : ∀ W, Calls Try.prog 26 #[.agg #[.int .i64 x.id, .int .i64 x.price, .int .i64 x.hair], .int .i64 m] W fun e w' => e = .returned (.tuple #[.int .i64 dn, .int .i64 de]) ∧ Below W.heap.size W w')
    (c4 : ∀ W, Calls Try.prog 27 #[.agg #[.int .i64 x.id, .int .i64 x.price, .int .i64 x.hair], .int .i64 a] W fun e w' => e = .returned (.tuple #[.int .i64 sn, .int .i64 se]) ∧ Below W.heap.size W w')
    (hf : ce = 0) (he : we = 0) (h0 : 0 ≤ cn) (h1 : cn ≤ wn) (hg : de = 0) (hl : m < q) (kh : se ≠ 0) (ks : sn = 0) :
    Calls Try.prog 7 #[.agg #[.int .i64 x.id, .int .i64 x.price, .int .i64 x.hair], .int .i64 q, .int .i64 m, .int .i64 a] w fun e w' => e = .returned (.bool true) ∧ Below w.heap.size w w' := by
  have hu := And.intro ha (And.intro hs hp)
  clear hu
  subst hf he hg
  have g2 : decide (cn < 0) = false := (by simp; omega)
  have g3 : decide (wn < cn) = false := (by simp; omega)
  have g4 : decide (q ≤ m) = false := (by simp; omega)
  subst ks
  have k0 := (eqF kh).1
  have k1 := (eqF kh).2
  have C1 := Lib.hid c1
  have C2 := Lib.hid c2
  have C3 := Lib.hid c3
  have C4 := Lib.hid c4
  clear c1 c2 c3 c4
  go_enter Try.func7, Try.ntmps7
  go_wp2_with (first | (go_at_call 25; (with_reducible refine (C1.out _).mono ?_); rintro e w1 ⟨rfl, hb1⟩; obtain ⟨fc1, fg1, hc1, hf1, hz1⟩ := bget hb1; (try simp at hz1)) | (go_at_call 26; (with_reducible refine (C2.out _).mono ?_); rintro e w2 ⟨rfl, hb2⟩; obtain ⟨fc2, fg2, hc2, hf2, hz2⟩ := bget hb2; (try simp at hz2)) | (go_at_call 26; (with_reducible refine (C3.out _).mono ?_); rintro e w3 ⟨rfl, hb3⟩; obtain ⟨fc3, fg3, hc3, hf3, hz3⟩ := bget hb3; (try simp at hz3)) | (go_at_call 27; (with_reducible refine (C4.out _).mono ?_); rintro e w4 ⟨rfl, hb4⟩; obtain ⟨fc4, fg4, hc4, hf4, hz4⟩ := bget hb4; (try simp at hz4)) | (go_at_call 29; (with_reducible refine (law12lives _).mono ?_); rintro e w5 ⟨rfl, hb5⟩; obtain ⟨fc5, fg5, hc5, hf5, hz5⟩ := bget hb5; (try simp at hz5))  | fail)
  all_goals
    go_ret
    exact ⟨rfl, by (repeat' (first | (with_reducible exact Below.refl _ _) | (with_reducible assumption) | (with_reducible refine Below.alloc ?_ ?_ _) | (with_reducible refine Below.setCell ?_ ?_ _) | (with_reducible refine Below.drew ?_) | (with_reducible refine below_drewN ?_ _) | (with_reducible refine below_via ?_ (by with_reducible assumption) ?_) | omega | (simp; done) | (simp; omega)))⟩
set_option maxRecDepth 100000 in
set_option maxHeartbeats 8000000 in
theorem assetCounts32 (x : Asset) (q m a wn we cn ce dn de sn se : Int) (w : World) (ha : In64 a) (hs : In64 sn) (hp : In64 x.price)
    (c1 : ∀ W, Calls Try.prog 25 #[.agg #[.int .i64 x.id, .int .i64 x.price, .int .i64 x.hair], .int .i64 q] W fun e w' => e = .returned (.tuple #[.int .i64 wn, .int .i64 we]) ∧ Below W.heap.size W w')
    (c2 : ∀ W, Calls Try.prog 26 #[.agg #[.int .i64 x.id, .int .i64 x.price, .int .i64 x.hair], .int .i64 q] W fun e w' => e = .returned (.tuple #[.int .i64 cn, .int .i64 ce]) ∧ Below W.heap.size W w')
    (c3 : ∀ W, Calls Try.prog 26 #[.agg #[.int .i64 x.id, .int .i64 x.price, .int .i64 x.hair], .int .i64 m] W fun e w' => e = .returned (.tuple #[.int .i64 dn, .int .i64 de]) ∧ Below W.heap.size W w')
    (c4 : ∀ W, Calls Try.prog 27 #[.agg #[.int .i64 x.id, .int .i64 x.price, .int .i64 x.hair], .int .i64 a] W fun e w' => e = .returned (.tuple #[.int .i64 sn, .int .i64 se]) ∧ Below W.heap.size W w')
    (hf : ce = 0) (he : we = 0) (h0 : 0 ≤ cn) (h1 : cn ≤ wn) (hg : de = 0) (hl : m < q) (kh : se = 0) (ka : a ≤ 0) (ks : sn = 0) :
    Calls Try.prog 7 #[.agg #[.int .i64 x.id, .int .i64 x.price, .int .i64 x.hair], .int .i64 q, .int .i64 m, .int .i64 a] w fun e w' => e = .returned (.bool true) ∧ Below w.heap.size w w' := by
  have hu := And.intro ha (And.intro hs hp)
  clear hu
  subst hf he hg
  have g2 : decide (cn < 0) = false := (by simp; omega)
  have g3 : decide (wn < cn) = false := (by simp; omega)
  have g4 : decide (q ≤ m) = false := (by simp; omega)
  subst ks kh
  have k0 : decide (a ≤ 0) = true := (by simp; omega)
  have C1 := Lib.hid c1
  have C2 := Lib.hid c2
  have C3 := Lib.hid c3
  have C4 := Lib.hid c4
  clear c1 c2 c3 c4
  go_enter Try.func7, Try.ntmps7
  go_wp2_with (first | (go_at_call 25; (with_reducible refine (C1.out _).mono ?_); rintro e w1 ⟨rfl, hb1⟩; obtain ⟨fc1, fg1, hc1, hf1, hz1⟩ := bget hb1; (try simp at hz1)) | (go_at_call 26; (with_reducible refine (C2.out _).mono ?_); rintro e w2 ⟨rfl, hb2⟩; obtain ⟨fc2, fg2, hc2, hf2, hz2⟩ := bget hb2; (try simp at hz2)) | (go_at_call 26; (with_reducible refine (C3.out _).mono ?_); rintro e w3 ⟨rfl, hb3⟩; obtain ⟨fc3, fg3, hc3, hf3, hz3⟩ := bget hb3; (try simp at hz3)) | (go_at_call 27; (with_reducible refine (C4.out _).mono ?_); rintro e w4 ⟨rfl, hb4⟩; obtain ⟨fc4, fg4, hc4, hf4, hz4⟩ := bget hb4; (try simp at hz4)) | (go_at_call 29; (with_reducible refine (law12lives _).mono ?_); rintro e w5 ⟨rfl, hb5⟩; obtain ⟨fc5, fg5, hc5, hf5, hz5⟩ := bget hb5; (try simp at hz5))  | fail)
  all_goals
    go_ret
    exact ⟨rfl, by (repeat' (first | (with_reducible exact Below.refl _ _) | (with_reducible assumption) | (with_reducible refine Below.alloc ?_ ?_ _) | (with_reducible refine Below.setCell ?_ ?_ _) | (with_reducible refine Below.drew ?_) | (with_reducible refine below_drewN ?_ _) | (with_reducible refine below_via ?_ (by with_reducible assumption) ?_) | omega | (simp; done) | (simp; omega)))⟩
set_option maxRecDepth 100000 in
set_option maxHeartbeats 8000000 in
theorem assetCounts41 (x : Asset) (q m a wn we cn ce dn de sn se : Int) (w : World) (ha : In64 a) (hs : In64 sn) (hp : In64 x.price)
    (c1 : ∀ W, Calls Try.prog 25 #[.agg #[.int .i64 x.id, .int .i64 x.price, .int .i64 x.hair], .int .i64 q] W fun e w' => e = .returned (.tuple #[.int .i64 wn, .int .i64 we]) ∧ Below W.heap.size W w')
    (c2 : ∀ W, Calls Try.prog 26 #[.agg #[.int .i64 x.id, .int .i64 x.price, .int .i64 x.hair], .int .i64 q] W fun e w' => e = .returned (.tuple #[.int .i64 cn, .int .i64 ce]) ∧ Below W.heap.size W w')
    (c3 : ∀ W, Calls Try.prog 26 #[.agg #[.int .i64 x.id, .int .i64 x.price, .int .i64 x.hair], .int .i64 m] W fun e w' => e = .returned (.tuple #[.int .i64 dn, .int .i64 de]) ∧ Below W.heap.size W w')
    (c4 : ∀ W, Calls Try.prog 27 #[.agg #[.int .i64 x.id, .int .i64 x.price, .int .i64 x.hair], .int .i64 a] W fun e w' => e = .returned (.tuple #[.int .i64 sn, .int .i64 se]) ∧ Below W.heap.size W w')
    (hf : ce = 0) (he : we = 0) (h0 : 0 ≤ cn) (h1 : cn ≤ wn) (hg : de = 0) (hl : q ≤ m) (h2 : cn ≤ dn) (kh : se ≠ 0) (ks : sn = 0) :
    Calls Try.prog 7 #[.agg #[.int .i64 x.id, .int .i64 x.price, .int .i64 x.hair], .int .i64 q, .int .i64 m, .int .i64 a] w fun e w' => e = .returned (.bool true) ∧ Below w.heap.size w w' := by
  have hu := And.intro ha (And.intro hs hp)
  clear hu
  subst hf he hg
  have g2 : decide (cn < 0) = false := (by simp; omega)
  have g3 : decide (wn < cn) = false := (by simp; omega)
  have g4 : decide (q ≤ m) = true := (by simp; omega)
  have g5 : decide (dn < cn) = false := (by simp; omega)
  subst ks
  have k0 := (eqF kh).1
  have k1 := (eqF kh).2
  have C1 := Lib.hid c1
  have C2 := Lib.hid c2
  have C3 := Lib.hid c3
  have C4 := Lib.hid c4
  clear c1 c2 c3 c4
  go_enter Try.func7, Try.ntmps7
  go_wp2_with (first | (go_at_call 25; (with_reducible refine (C1.out _).mono ?_); rintro e w1 ⟨rfl, hb1⟩; obtain ⟨fc1, fg1, hc1, hf1, hz1⟩ := bget hb1; (try simp at hz1)) | (go_at_call 26; (with_reducible refine (C2.out _).mono ?_); rintro e w2 ⟨rfl, hb2⟩; obtain ⟨fc2, fg2, hc2, hf2, hz2⟩ := bget hb2; (try simp at hz2)) | (go_at_call 26; (with_reducible refine (C3.out _).mono ?_); rintro e w3 ⟨rfl, hb3⟩; obtain ⟨fc3, fg3, hc3, hf3, hz3⟩ := bget hb3; (try simp at hz3)) | (go_at_call 27; (with_reducible refine (C4.out _).mono ?_); rintro e w4 ⟨rfl, hb4⟩; obtain ⟨fc4, fg4, hc4, hf4, hz4⟩ := bget hb4; (try simp at hz4)) | (go_at_call 29; (with_reducible refine (law12lives _).mono ?_); rintro e w5 ⟨rfl, hb5⟩; obtain ⟨fc5, fg5, hc5, hf5, hz5⟩ := bget hb5; (try simp at hz5))  | fail)
  all_goals
    go_ret
    exact ⟨rfl, by (repeat' (first | (with_reducible exact Below.refl _ _) | (with_reducible assumption) | (with_reducible refine Below.alloc ?_ ?_ _) | (with_reducible refine Below.setCell ?_ ?_ _) | (with_reducible refine Below.drew ?_) | (with_reducible refine below_drewN ?_ _) | (with_reducible refine below_via ?_ (by with_reducible assumption) ?_) | omega | (simp; done) | (simp; omega)))⟩
set_option maxRecDepth 100000 in
set_option maxHeartbeats 8000000 in
theorem assetCounts42 (x : Asset) (q m a wn we cn ce dn de sn se : Int) (w : World) (ha : In64 a) (hs : In64 sn) (hp : In64 x.price)
    (c1 : ∀ W, Calls Try.prog 25 #[.agg #[.int .i64 x.id, .int .i64 x.price, .int .i64 x.hair], .int .i64 q] W fun e w' => e = .returned (.tuple #[.int .i64 wn, .int .i64 we]) ∧ Below W.heap.size W w')
    (c2 : ∀ W, Calls Try.prog 26 #[.agg #[.int .i64 x.id, .int .i64 x.price, .int .i64 x.hair], .int .i64 q] W fun e w' => e = .returned (.tuple #[.int .i64 cn, .int .i64 ce]) ∧ Below W.heap.size W w')
    (c3 : ∀ W, Calls Try.prog 26 #[.agg #[.int .i64 x.id, .int .i64 x.price, .int .i64 x.hair], .int .i64 m] W fun e w' => e = .returned (.tuple #[.int .i64 dn, .int .i64 de]) ∧ Below W.heap.size W w')
    (c4 : ∀ W, Calls Try.prog 27 #[.agg #[.int .i64 x.id, .int .i64 x.price, .int .i64 x.hair], .int .i64 a] W fun e w' => e = .returned (.tuple #[.int .i64 sn, .int .i64 se]) ∧ Below W.heap.size W w')
    (hf : ce = 0) (he : we = 0) (h0 : 0 ≤ cn) (h1 : cn ≤ wn) (hg : de = 0) (hl : q ≤ m) (h2 : cn ≤ dn) (kh : se = 0) (ka : a ≤ 0) (ks : sn = 0) :
    Calls Try.prog 7 #[.agg #[.int .i64 x.id, .int .i64 x.price, .int .i64 x.hair], .int .i64 q, .int .i64 m, .int .i64 a] w fun e w' => e = .returned (.bool true) ∧ Below w.heap.size w w' := by
  have hu := And.intro ha (And.intro hs hp)
  clear hu
  subst hf he hg
  have g2 : decide (cn < 0) = false := (by simp; omega)
  have g3 : decide (wn < cn) = false := (by simp; omega)
  have g4 : decide (q ≤ m) = true := (by simp; omega)
  have g5 : decide (dn < cn) = false := (by simp; omega)
  subst ks kh
  have k0 : decide (a ≤ 0) = true := (by simp; omega)
  have C1 := Lib.hid c1
  have C2 := Lib.hid c2
  have C3 := Lib.hid c3
  have C4 := Lib.hid c4
  clear c1 c2 c3 c4
  go_enter Try.func7, Try.ntmps7
  go_wp2_with (first | (go_at_call 25; (with_reducible refine (C1.out _).mono ?_); rintro e w1 ⟨rfl, hb1⟩; obtain ⟨fc1, fg1, hc1, hf1, hz1⟩ := bget hb1; (try simp at hz1)) | (go_at_call 26; (with_reducible refine (C2.out _).mono ?_); rintro e w2 ⟨rfl, hb2⟩; obtain ⟨fc2, fg2, hc2, hf2, hz2⟩ := bget hb2; (try simp at hz2)) | (go_at_call 26; (with_reducible refine (C3.out _).mono ?_); rintro e w3 ⟨rfl, hb3⟩; obtain ⟨fc3, fg3, hc3, hf3, hz3⟩ := bget hb3; (try simp at hz3)) | (go_at_call 27; (with_reducible refine (C4.out _).mono ?_); rintro e w4 ⟨rfl, hb4⟩; obtain ⟨fc4, fg4, hc4, hf4, hz4⟩ := bget hb4; (try simp at hz4)) | (go_at_call 29; (with_reducible refine (law12lives _).mono ?_); rintro e w5 ⟨rfl, hb5⟩; obtain ⟨fc5, fg5, hc5, hf5, hz5⟩ := bget hb5; (try simp at hz5))  | fail)
  all_goals
    go_ret
    exact ⟨rfl, by (repeat' (first | (with_reducible exact Below.refl _ _) | (with_reducible assumption) | (with_reducible refine Below.alloc ?_ ?_ _) | (with_reducible refine Below.setCell ?_ ?_ _) | (with_reducible refine Below.drew ?_) | (with_reducible refine below_drewN ?_ _) | (with_reducible refine below_via ?_ (by with_reducible assumption) ?_) | omega | (simp; done) | (simp; omega)))⟩
set_option maxRecDepth 100000 in
set_option maxHeartbeats 8000000 in
theorem assetCounts13 (x : Asset) (q m a wn we cn ce dn de sn se : Int) (w : World) (ha : In64 a) (hs : In64 sn) (hp : In64 x.price)
    (c1 : ∀ W, Calls Try.prog 25 #[.agg #[.int .i64 x.id, .int .i64 x.price, .int .i64 x.hair], .int .i64 q] W fun e w' => e = .returned (.tuple #[.int .i64 wn, .int .i64 we]) ∧ Below W.heap.size W w')
    (c2 : ∀ W, Calls Try.prog 26 #[.agg #[.int .i64 x.id, .int .i64 x.price, .int .i64 x.hair], .int .i64 q] W fun e w' => e = .returned (.tuple #[.int .i64 cn, .int .i64 ce]) ∧ Below W.heap.size W w')
    (c3 : ∀ W, Calls Try.prog 26 #[.agg #[.int .i64 x.id, .int .i64 x.price, .int .i64 x.hair], .int .i64 m] W fun e w' => e = .returned (.tuple #[.int .i64 dn, .int .i64 de]) ∧ Below W.heap.size W w')
    (c4 : ∀ W, Calls Try.prog 27 #[.agg #[.int .i64 x.id, .int .i64 x.price, .int .i64 x.hair], .int .i64 a] W fun e w' => e = .returned (.tuple #[.int .i64 sn, .int .i64 se]) ∧ Below W.heap.size W w')
    (hf : ce ≠ 0) (kh : se = 0) (ka : 0 < a) (k3 : a ≤ sn * x.price) (k4 : sn * x.price - x.price < a) :
    Calls Try.prog 7 #[.agg #[.int .i64 x.id, .int .i64 x.price, .int .i64 x.hair], .int .i64 q, .int .i64 m, .int .i64 a] w fun e w' => e = .returned (.bool true) ∧ Below w.heap.size w w' := by
  have hu := And.intro ha (And.intro hs hp)
  clear hu
  have g0 := (eqF hf).1
  have g1 := (eqF hf).2
  subst kh
  have k0 : decide (a ≤ 0) = false := (by simp; omega)
  have c5 := fun s1 s2 l1 l2 A1 A2 d1 d2 W h1 h2 hB1 hB2 => bigCmp (sn * x.price) a s1 s2 l1 l2 A1 A2 d1 d2 200 W (by omega) h1 h2 hB1 hB2
  have c6 := fun s1 s2 l1 l2 A1 A2 d1 d2 W h1 h2 hB1 hB2 => bigCmp (sn * x.price - x.price) a s1 s2 l1 l2 A1 A2 d1 d2 200 W (by omega) h1 h2 hB1 hB2
  have ho1 : 0 ≤ ord (sn * x.price) a := (by unfold ord; split; omega; split <;> omega)
  rw [show ord (sn * x.price - x.price) a = -1 from by unfold ord; rw [if_pos (by omega)]] at c6
  generalize ord (sn * x.price) a = o1 at c5 ho1
  have do1 : decide (0 ≤ o1) = true := (by simpa using ho1)
  have C5 := Lib.hid c5
  have C6 := Lib.hid c6
  clear k3 k4 ka ho1 c5 c6
  have C1 := Lib.hid c1
  have C2 := Lib.hid c2
  have C3 := Lib.hid c3
  have C4 := Lib.hid c4
  clear c1 c2 c3 c4
  go_enter Try.func7, Try.ntmps7
  go_wp2_with (first | (go_at_call 25; (with_reducible refine (C1.out _).mono ?_); rintro e w1 ⟨rfl, hb1⟩; obtain ⟨fc1, fg1, hc1, hf1, hz1⟩ := bget hb1; (try simp at hz1)) | (go_at_call 26; (with_reducible refine (C2.out _).mono ?_); rintro e w2 ⟨rfl, hb2⟩; obtain ⟨fc2, fg2, hc2, hf2, hz2⟩ := bget hb2; (try simp at hz2)) | (go_at_call 26; (with_reducible refine (C3.out _).mono ?_); rintro e w3 ⟨rfl, hb3⟩; obtain ⟨fc3, fg3, hc3, hf3, hz3⟩ := bget hb3; (try simp at hz3)) | (go_at_call 27; (with_reducible refine (C4.out _).mono ?_); rintro e w4 ⟨rfl, hb4⟩; obtain ⟨fc4, fg4, hc4, hf4, hz4⟩ := bget hb4; (try simp at hz4)) | (go_at_call 29; (with_reducible refine (law12lives _).mono ?_); rintro e w5 ⟨rfl, hb5⟩; obtain ⟨fc5, fg5, hc5, hf5, hz5⟩ := bget hb5; (try simp at hz5)) | (go_at_call 22; (with_reducible refine (bigOf a _ ha).mono ?_); rintro e w6 ⟨s6, A6, l6, c6, rfl, hB6, hl6, hb6⟩; have HB6 := Lib.hid hB6; clear hB6; obtain ⟨fc6, fg6, hc6, hf6, hz6⟩ := bget hb6; (try simp at hz6)) | fail)
  go_region_held3 (fun w' => (w'.cell? ⟨w.heap.size, 0, none⟩ = some (.int .i64 x.id) ∧ w'.cell? ⟨w.heap.size, 1, none⟩ = some (.int .i64 x.price) ∧ w'.cell? ⟨w.heap.size, 2, none⟩ = some (.int .i64 x.hair)) ∧ w'.cell? ⟨w6.heap.size, 0, none⟩ = some (.bool s6) ∧ w'.cell? ⟨w6.heap.size, 1, none⟩ = some (.slice A6 l6.length c6)) (first | (simp [go_sem]; done) | (repeat' (first | (with_reducible assumption) | (with_reducible refine And.intro ?_ ?_) | (with_reducible refine cell_drew ?_) | (with_reducible refine cell_via (by with_reducible assumption) ?_ ?_) | (simp [*]; done) | (simp [go_sem]; done) | (with_reducible refine cell_alloc ?_ ?_) | (with_reducible refine cell_set_far ?_ ?_) | omega | (simp; omega)))) (first | (go_at_call 30; (with_reducible refine (ref12Worth x sn _ hs hp).mono ?_); rintro e w7 ⟨s7, A7, l7, c7, rfl, hB7, hl7, hb7⟩; have HB7 := Lib.hid hB7; clear hB7; obtain ⟨fc7, fg7, hc7, hf7, hz7⟩ := bget hb7; (try simp at hz7)) | (go_at_call 13; (with_reducible refine (C5.out s7 s6 l7 l6 A7 A6 c7 c6 _ (by omega) (by omega) (HB7.out.keep (by (repeat' (first | (with_reducible exact Below.refl _ _) | (with_reducible assumption) | (with_reducible refine Below.alloc ?_ ?_ _) | (with_reducible refine Below.setCell ?_ ?_ _) | (with_reducible refine Below.drew ?_) | (with_reducible refine below_drewN ?_ _) | (with_reducible refine below_via ?_ (by with_reducible assumption) ?_) | omega | (simp; done) | (simp; omega))))) (HB6.out.keep (by (repeat' (first | (with_reducible exact Below.refl _ _) | (with_reducible assumption) | (with_reducible refine Below.alloc ?_ ?_ _) | (with_reducible refine Below.setCell ?_ ?_ _) | (with_reducible refine Below.drew ?_) | (with_reducible refine below_drewN ?_ _) | (with_reducible refine below_via ?_ (by with_reducible assumption) ?_) | omega | (simp; done) | (simp; omega)))))).mono ?_); rintro e w8 ⟨rfl, hb8⟩; obtain ⟨fc8, fg8, hc8, hf8, hz8⟩ := bget hb8; (try simp at hz8)) | (go_at_call 22; (with_reducible refine (bigOf x.price _ hp).mono ?_); rintro e w9 ⟨s9, A9, l9, c9, rfl, hB9, hl9, hb9⟩; have HB9 := Lib.hid hB9; clear hB9; obtain ⟨fc9, fg9, hc9, hf9, hz9⟩ := bget hb9; (try simp at hz9)) | (go_at_call 33; (with_reducible refine (bigSub (sn * x.price) x.price s7 s9 l7 l9 A7 A9 c7 c9 130 _ (by omega) (by omega) (by omega) (HB7.out.keep (by (repeat' (first | (with_reducible exact Below.refl _ _) | (with_reducible assumption) | (with_reducible refine Below.alloc ?_ ?_ _) | (with_reducible refine Below.setCell ?_ ?_ _) | (with_reducible refine Below.drew ?_) | (with_reducible refine below_drewN ?_ _) | (with_reducible refine below_via ?_ (by with_reducible assumption) ?_) | omega | (simp; done) | (simp; omega))))) (HB9.out.keep (by (repeat' (first | (with_reducible exact Below.refl _ _) | (with_reducible assumption) | (with_reducible refine Below.alloc ?_ ?_ _) | (with_reducible refine Below.setCell ?_ ?_ _) | (with_reducible refine Below.drew ?_) | (with_reducible refine below_drewN ?_ _) | (with_reducible refine below_via ?_ (by with_reducible assumption) ?_) | omega | (simp; done) | (simp; omega)))))).mono ?_); rintro e w10 ⟨s10, A10, l10, c10, rfl, hB10, hl10, hb10⟩; have HB10 := Lib.hid hB10; clear hB10; obtain ⟨fc10, fg10, hc10, hf10, hz10⟩ := bget hb10; (try simp at hz10)) | (go_at_call 13; (with_reducible refine (C6.out s10 s6 l10 l6 A10 A6 c10 c6 _ (by omega) (by omega) (HB10.out.keep (by (repeat' (first | (with_reducible exact Below.refl _ _) | (with_reducible assumption) | (with_reducible refine Below.alloc ?_ ?_ _) | (with_reducible refine Below.setCell ?_ ?_ _) | (with_reducible refine Below.drew ?_) | (with_reducible refine below_drewN ?_ _) | (with_reducible refine below_via ?_ (by with_reducible assumption) ?_) | omega | (simp; done) | (simp; omega))))) (HB6.out.keep (by (repeat' (first | (with_reducible exact Below.refl _ _) | (with_reducible assumption) | (with_reducible refine Below.alloc ?_ ?_ _) | (with_reducible refine Below.setCell ?_ ?_ _) | (with_reducible refine Below.drew ?_) | (with_reducible refine below_drewN ?_ _) | (with_reducible refine below_via ?_ (by with_reducible assumption) ?_) | omega | (simp; done) | (simp; omega)))))).mono ?_); rintro e w11 ⟨rfl, hb11⟩; obtain ⟨fc11, fg11, hc11, hf11, hz11⟩ := bget hb11; (try simp at hz11)) | (go_at_call 29; (with_reducible refine (law12lives _).mono ?_); rintro e w12 ⟨rfl, hb12⟩; obtain ⟨fc12, fg12, hc12, hf12, hz12⟩ := bget hb12; (try simp at hz12)) | fail)
  all_goals
    go_wp2_with fail
    go_ret
    exact ⟨rfl, by (repeat' (first | (with_reducible exact Below.refl _ _) | (with_reducible assumption) | (with_reducible refine Below.alloc ?_ ?_ _) | (with_reducible refine Below.setCell ?_ ?_ _) | (with_reducible refine Below.drew ?_) | (with_reducible refine below_drewN ?_ _) | (with_reducible refine below_via ?_ (by with_reducible assumption) ?_) | omega | (simp; done) | (simp; omega)))⟩
set_option maxRecDepth 100000 in
set_option maxHeartbeats 8000000 in
theorem assetCounts23 (x : Asset) (q m a wn we cn ce dn de sn se : Int) (w : World) (ha : In64 a) (hs : In64 sn) (hp : In64 x.price)
    (c1 : ∀ W, Calls Try.prog 25 #[.agg #[.int .i64 x.id, .int .i64 x.price, .int .i64 x.hair], .int .i64 q] W fun e w' => e = .returned (.tuple #[.int .i64 wn, .int .i64 we]) ∧ Below W.heap.size W w')
    (c2 : ∀ W, Calls Try.prog 26 #[.agg #[.int .i64 x.id, .int .i64 x.price, .int .i64 x.hair], .int .i64 q] W fun e w' => e = .returned (.tuple #[.int .i64 cn, .int .i64 ce]) ∧ Below W.heap.size W w')
    (c3 : ∀ W, Calls Try.prog 26 #[.agg #[.int .i64 x.id, .int .i64 x.price, .int .i64 x.hair], .int .i64 m] W fun e w' => e = .returned (.tuple #[.int .i64 dn, .int .i64 de]) ∧ Below W.heap.size W w')
    (c4 : ∀ W, Calls Try.prog 27 #[.agg #[.int .i64 x.id, .int .i64 x.price, .int .i64 x.hair], .int .i64 a] W fun e w' => e = .returned (.tuple #[.int .i64 sn, .int .i64 se]) ∧ Below W.heap.size W w')
    (hf : ce = 0) (he : we = 0) (h0 : 0 ≤ cn) (h1 : cn ≤ wn) (hg : de ≠ 0) (kh : se = 0) (ka : 0 < a) (k3 : a ≤ sn * x.price) (k4 : sn * x.price - x.price < a) :
    Calls Try.prog 7 #[.agg #[.int .i64 x.id, .int .i64 x.price, .int .i64 x.hair], .int .i64 q, .int .i64 m, .int .i64 a] w fun e w' => e = .returned (.bool true) ∧ Below w.heap.size w w' := by
  have hu := And.intro ha (And.intro hs hp)
  clear hu
  subst hf he
  have g0 := (eqF hg).1
  have g1 := (eqF hg).2
  have g2 : decide (cn < 0) = false := (by simp; omega)
  have g3 : decide (wn < cn) = false := (by simp; omega)
  subst kh
  have k0 : decide (a ≤ 0) = false := (by simp; omega)
  have c5 := fun s1 s2 l1 l2 A1 A2 d1 d2 W h1 h2 hB1 hB2 => bigCmp (sn * x.price) a s1 s2 l1 l2 A1 A2 d1 d2 200 W (by omega) h1 h2 hB1 hB2
  have c6 := fun s1 s2 l1 l2 A1 A2 d1 d2 W h1 h2 hB1 hB2 => bigCmp (sn * x.price - x.price) a s1 s2 l1 l2 A1 A2 d1 d2 200 W (by omega) h1 h2 hB1 hB2
  have ho1 : 0 ≤ ord (sn * x.price) a := (by unfold ord; split; omega; split <;> omega)
  rw [show ord (sn * x.price - x.price) a = -1 from by unfold ord; rw [if_pos (by omega)]] at c6
  generalize ord (sn * x.price) a = o1 at c5 ho1
  have do1 : decide (0 ≤ o1) = true := (by simpa using ho1)
  have C5 := Lib.hid c5
  have C6 := Lib.hid c6
  clear k3 k4 ka ho1 c5 c6
  have C1 := Lib.hid c1
  have C2 := Lib.hid c2
  have C3 := Lib.hid c3
  have C4 := Lib.hid c4
  clear c1 c2 c3 c4
  go_enter Try.func7, Try.ntmps7
  go_wp2_with (first | (go_at_call 25; (with_reducible refine (C1.out _).mono ?_); rintro e w1 ⟨rfl, hb1⟩; obtain ⟨fc1, fg1, hc1, hf1, hz1⟩ := bget hb1; (try simp at hz1)) | (go_at_call 26; (with_reducible refine (C2.out _).mono ?_); rintro e w2 ⟨rfl, hb2⟩; obtain ⟨fc2, fg2, hc2, hf2, hz2⟩ := bget hb2; (try simp at hz2)) | (go_at_call 26; (with_reducible refine (C3.out _).mono ?_); rintro e w3 ⟨rfl, hb3⟩; obtain ⟨fc3, fg3, hc3, hf3, hz3⟩ := bget hb3; (try simp at hz3)) | (go_at_call 27; (with_reducible refine (C4.out _).mono ?_); rintro e w4 ⟨rfl, hb4⟩; obtain ⟨fc4, fg4, hc4, hf4, hz4⟩ := bget hb4; (try simp at hz4)) | (go_at_call 29; (with_reducible refine (law12lives _).mono ?_); rintro e w5 ⟨rfl, hb5⟩; obtain ⟨fc5, fg5, hc5, hf5, hz5⟩ := bget hb5; (try simp at hz5)) | (go_at_call 22; (with_reducible refine (bigOf a _ ha).mono ?_); rintro e w6 ⟨s6, A6, l6, c6, rfl, hB6, hl6, hb6⟩; have HB6 := Lib.hid hB6; clear hB6; obtain ⟨fc6, fg6, hc6, hf6, hz6⟩ := bget hb6; (try simp at hz6)) | fail)
  go_region_held3 (fun w' => (w'.cell? ⟨w.heap.size, 0, none⟩ = some (.int .i64 x.id) ∧ w'.cell? ⟨w.heap.size, 1, none⟩ = some (.int .i64 x.price) ∧ w'.cell? ⟨w.heap.size, 2, none⟩ = some (.int .i64 x.hair)) ∧ w'.cell? ⟨w6.heap.size, 0, none⟩ = some (.bool s6) ∧ w'.cell? ⟨w6.heap.size, 1, none⟩ = some (.slice A6 l6.length c6)) (first | (simp [go_sem]; done) | (repeat' (first | (with_reducible assumption) | (with_reducible refine And.intro ?_ ?_) | (with_reducible refine cell_drew ?_) | (with_reducible refine cell_via (by with_reducible assumption) ?_ ?_) | (simp [*]; done) | (simp [go_sem]; done) | (with_reducible refine cell_alloc ?_ ?_) | (with_reducible refine cell_set_far ?_ ?_) | omega | (simp; omega)))) (first | (go_at_call 30; (with_reducible refine (ref12Worth x sn _ hs hp).mono ?_); rintro e w7 ⟨s7, A7, l7, c7, rfl, hB7, hl7, hb7⟩; have HB7 := Lib.hid hB7; clear hB7; obtain ⟨fc7, fg7, hc7, hf7, hz7⟩ := bget hb7; (try simp at hz7)) | (go_at_call 13; (with_reducible refine (C5.out s7 s6 l7 l6 A7 A6 c7 c6 _ (by omega) (by omega) (HB7.out.keep (by (repeat' (first | (with_reducible exact Below.refl _ _) | (with_reducible assumption) | (with_reducible refine Below.alloc ?_ ?_ _) | (with_reducible refine Below.setCell ?_ ?_ _) | (with_reducible refine Below.drew ?_) | (with_reducible refine below_drewN ?_ _) | (with_reducible refine below_via ?_ (by with_reducible assumption) ?_) | omega | (simp; done) | (simp; omega))))) (HB6.out.keep (by (repeat' (first | (with_reducible exact Below.refl _ _) | (with_reducible assumption) | (with_reducible refine Below.alloc ?_ ?_ _) | (with_reducible refine Below.setCell ?_ ?_ _) | (with_reducible refine Below.drew ?_) | (with_reducible refine below_drewN ?_ _) | (with_reducible refine below_via ?_ (by with_reducible assumption) ?_) | omega | (simp; done) | (simp; omega)))))).mono ?_); rintro e w8 ⟨rfl, hb8⟩; obtain ⟨fc8, fg8, hc8, hf8, hz8⟩ := bget hb8; (try simp at hz8)) | (go_at_call 22; (with_reducible refine (bigOf x.price _ hp).mono ?_); rintro e w9 ⟨s9, A9, l9, c9, rfl, hB9, hl9, hb9⟩; have HB9 := Lib.hid hB9; clear hB9; obtain ⟨fc9, fg9, hc9, hf9, hz9⟩ := bget hb9; (try simp at hz9)) | (go_at_call 33; (with_reducible refine (bigSub (sn * x.price) x.price s7 s9 l7 l9 A7 A9 c7 c9 130 _ (by omega) (by omega) (by omega) (HB7.out.keep (by (repeat' (first | (with_reducible exact Below.refl _ _) | (with_reducible assumption) | (with_reducible refine Below.alloc ?_ ?_ _) | (with_reducible refine Below.setCell ?_ ?_ _) | (with_reducible refine Below.drew ?_) | (with_reducible refine below_drewN ?_ _) | (with_reducible refine below_via ?_ (by with_reducible assumption) ?_) | omega | (simp; done) | (simp; omega))))) (HB9.out.keep (by (repeat' (first | (with_reducible exact Below.refl _ _) | (with_reducible assumption) | (with_reducible refine Below.alloc ?_ ?_ _) | (with_reducible refine Below.setCell ?_ ?_ _) | (with_reducible refine Below.drew ?_) | (with_reducible refine below_drewN ?_ _) | (with_reducible refine below_via ?_ (by with_reducible assumption) ?_) | omega | (simp; done) | (simp; omega)))))).mono ?_); rintro e w10 ⟨s10, A10, l10, c10, rfl, hB10, hl10, hb10⟩; have HB10 := Lib.hid hB10; clear hB10; obtain ⟨fc10, fg10, hc10, hf10, hz10⟩ := bget hb10; (try simp at hz10)) | (go_at_call 13; (with_reducible refine (C6.out s10 s6 l10 l6 A10 A6 c10 c6 _ (by omega) (by omega) (HB10.out.keep (by (repeat' (first | (with_reducible exact Below.refl _ _) | (with_reducible assumption) | (with_reducible refine Below.alloc ?_ ?_ _) | (with_reducible refine Below.setCell ?_ ?_ _) | (with_reducible refine Below.drew ?_) | (with_reducible refine below_drewN ?_ _) | (with_reducible refine below_via ?_ (by with_reducible assumption) ?_) | omega | (simp; done) | (simp; omega))))) (HB6.out.keep (by (repeat' (first | (with_reducible exact Below.refl _ _) | (with_reducible assumption) | (with_reducible refine Below.alloc ?_ ?_ _) | (with_reducible refine Below.setCell ?_ ?_ _) | (with_reducible refine Below.drew ?_) | (with_reducible refine below_drewN ?_ _) | (with_reducible refine below_via ?_ (by with_reducible assumption) ?_) | omega | (simp; done) | (simp; omega)))))).mono ?_); rintro e w11 ⟨rfl, hb11⟩; obtain ⟨fc11, fg11, hc11, hf11, hz11⟩ := bget hb11; (try simp at hz11)) | (go_at_call 29; (with_reducible refine (law12lives _).mono ?_); rintro e w12 ⟨rfl, hb12⟩; obtain ⟨fc12, fg12, hc12, hf12, hz12⟩ := bget hb12; (try simp at hz12)) | fail)
  all_goals
    go_wp2_with fail
    go_ret
    exact ⟨rfl, by (repeat' (first | (with_reducible exact Below.refl _ _) | (with_reducible assumption) | (with_reducible refine Below.alloc ?_ ?_ _) | (with_reducible refine Below.setCell ?_ ?_ _) | (with_reducible refine Below.drew ?_) | (with_reducible refine below_drewN ?_ _) | (with_reducible refine below_via ?_ (by with_reducible assumption) ?_) | omega | (simp; done) | (simp; omega)))⟩
set_option maxRecDepth 100000 in
set_option maxHeartbeats 8000000 in
theorem assetCounts33 (x : Asset) (q m a wn we cn ce dn de sn se : Int) (w : World) (ha : In64 a) (hs : In64 sn) (hp : In64 x.price)
    (c1 : ∀ W, Calls Try.prog 25 #[.agg #[.int .i64 x.id, .int .i64 x.price, .int .i64 x.hair], .int .i64 q] W fun e w' => e = .returned (.tuple #[.int .i64 wn, .int .i64 we]) ∧ Below W.heap.size W w')
    (c2 : ∀ W, Calls Try.prog 26 #[.agg #[.int .i64 x.id, .int .i64 x.price, .int .i64 x.hair], .int .i64 q] W fun e w' => e = .returned (.tuple #[.int .i64 cn, .int .i64 ce]) ∧ Below W.heap.size W w')
    (c3 : ∀ W, Calls Try.prog 26 #[.agg #[.int .i64 x.id, .int .i64 x.price, .int .i64 x.hair], .int .i64 m] W fun e w' => e = .returned (.tuple #[.int .i64 dn, .int .i64 de]) ∧ Below W.heap.size W w')
    (c4 : ∀ W, Calls Try.prog 27 #[.agg #[.int .i64 x.id, .int .i64 x.price, .int .i64 x.hair], .int .i64 a] W fun e w' => e = .returned (.tuple #[.int .i64 sn, .int .i64 se]) ∧ Below W.heap.size W w')
    (hf : ce = 0) (he : we = 0) (h0 : 0 ≤ cn) (h1 : cn ≤ wn) (hg : de = 0) (hl : m < q) (kh : se = 0) (ka : 0 < a) (k3 : a ≤ sn * x.price) (k4 : sn * x.price - x.price < a) :
    Calls Try.prog 7 #[.agg #[.int .i64 x.id, .int .i64 x.price, .int .i64 x.hair], .int .i64 q, .int .i64 m, .int .i64 a] w fun e w' => e = .returned (.bool true) ∧ Below w.heap.size w w' := by
  have hu := And.intro ha (And.intro hs hp)
  clear hu
  subst hf he hg
  have g2 : decide (cn < 0) = false := (by simp; omega)
  have g3 : decide (wn < cn) = false := (by simp; omega)
  have g4 : decide (q ≤ m) = false := (by simp; omega)
  subst kh
  have k0 : decide (a ≤ 0) = false := (by simp; omega)
  have c5 := fun s1 s2 l1 l2 A1 A2 d1 d2 W h1 h2 hB1 hB2 => bigCmp (sn * x.price) a s1 s2 l1 l2 A1 A2 d1 d2 200 W (by omega) h1 h2 hB1 hB2
  have c6 := fun s1 s2 l1 l2 A1 A2 d1 d2 W h1 h2 hB1 hB2 => bigCmp (sn * x.price - x.price) a s1 s2 l1 l2 A1 A2 d1 d2 200 W (by omega) h1 h2 hB1 hB2
  have ho1 : 0 ≤ ord (sn * x.price) a := (by unfold ord; split; omega; split <;> omega)
  rw [show ord (sn * x.price - x.price) a = -1 from by unfold ord; rw [if_pos (by omega)]] at c6
  generalize ord (sn * x.price) a = o1 at c5 ho1
  have do1 : decide (0 ≤ o1) = true := (by simpa using ho1)
  have C5 := Lib.hid c5
  have C6 := Lib.hid c6
  clear k3 k4 ka ho1 c5 c6
  have C1 := Lib.hid c1
  have C2 := Lib.hid c2
  have C3 := Lib.hid c3
  have C4 := Lib.hid c4
  clear c1 c2 c3 c4
  go_enter Try.func7, Try.ntmps7
  go_wp2_with (first | (go_at_call 25; (with_reducible refine (C1.out _).mono ?_); rintro e w1 ⟨rfl, hb1⟩; obtain ⟨fc1, fg1, hc1, hf1, hz1⟩ := bget hb1; (try simp at hz1)) | (go_at_call 26; (with_reducible refine (C2.out _).mono ?_); rintro e w2 ⟨rfl, hb2⟩; obtain ⟨fc2, fg2, hc2, hf2, hz2⟩ := bget hb2; (try simp at hz2)) | (go_at_call 26; (with_reducible refine (C3.out _).mono ?_); rintro e w3 ⟨rfl, hb3⟩; obtain ⟨fc3, fg3, hc3, hf3, hz3⟩ := bget hb3; (try simp at hz3)) | (go_at_call 27; (with_reducible refine (C4.out _).mono ?_); rintro e w4 ⟨rfl, hb4⟩; obtain ⟨fc4, fg4, hc4, hf4, hz4⟩ := bget hb4; (try simp at hz4)) | (go_at_call 29; (with_reducible refine (law12lives _).mono ?_); rintro e w5 ⟨rfl, hb5⟩; obtain ⟨fc5, fg5, hc5, hf5, hz5⟩ := bget hb5; (try simp at hz5)) | (go_at_call 22; (with_reducible refine (bigOf a _ ha).mono ?_); rintro e w6 ⟨s6, A6, l6, c6, rfl, hB6, hl6, hb6⟩; have HB6 := Lib.hid hB6; clear hB6; obtain ⟨fc6, fg6, hc6, hf6, hz6⟩ := bget hb6; (try simp at hz6)) | fail)
  go_region_held3 (fun w' => (w'.cell? ⟨w.heap.size, 0, none⟩ = some (.int .i64 x.id) ∧ w'.cell? ⟨w.heap.size, 1, none⟩ = some (.int .i64 x.price) ∧ w'.cell? ⟨w.heap.size, 2, none⟩ = some (.int .i64 x.hair)) ∧ w'.cell? ⟨w6.heap.size, 0, none⟩ = some (.bool s6) ∧ w'.cell? ⟨w6.heap.size, 1, none⟩ = some (.slice A6 l6.length c6)) (first | (simp [go_sem]; done) | (repeat' (first | (with_reducible assumption) | (with_reducible refine And.intro ?_ ?_) | (with_reducible refine cell_drew ?_) | (with_reducible refine cell_via (by with_reducible assumption) ?_ ?_) | (simp [*]; done) | (simp [go_sem]; done) | (with_reducible refine cell_alloc ?_ ?_) | (with_reducible refine cell_set_far ?_ ?_) | omega | (simp; omega)))) (first | (go_at_call 30; (with_reducible refine (ref12Worth x sn _ hs hp).mono ?_); rintro e w7 ⟨s7, A7, l7, c7, rfl, hB7, hl7, hb7⟩; have HB7 := Lib.hid hB7; clear hB7; obtain ⟨fc7, fg7, hc7, hf7, hz7⟩ := bget hb7; (try simp at hz7)) | (go_at_call 13; (with_reducible refine (C5.out s7 s6 l7 l6 A7 A6 c7 c6 _ (by omega) (by omega) (HB7.out.keep (by (repeat' (first | (with_reducible exact Below.refl _ _) | (with_reducible assumption) | (with_reducible refine Below.alloc ?_ ?_ _) | (with_reducible refine Below.setCell ?_ ?_ _) | (with_reducible refine Below.drew ?_) | (with_reducible refine below_drewN ?_ _) | (with_reducible refine below_via ?_ (by with_reducible assumption) ?_) | omega | (simp; done) | (simp; omega))))) (HB6.out.keep (by (repeat' (first | (with_reducible exact Below.refl _ _) | (with_reducible assumption) | (with_reducible refine Below.alloc ?_ ?_ _) | (with_reducible refine Below.setCell ?_ ?_ _) | (with_reducible refine Below.drew ?_) | (with_reducible refine below_drewN ?_ _) | (with_reducible refine below_via ?_ (by with_reducible assumption) ?_) | omega | (simp; done) | (simp; omega)))))).mono ?_); rintro e w8 ⟨rfl, hb8⟩; obtain ⟨fc8, fg8, hc8, hf8, hz8⟩ := bget hb8; (try simp at hz8)) | (go_at_call 22; (with_reducible refine (bigOf x.price _ hp).mono ?_); rintro e w9 ⟨s9, A9, l9, c9, rfl, hB9, hl9, hb9⟩; have HB9 := Lib.hid hB9; clear hB9; obtain ⟨fc9, fg9, hc9, hf9, hz9⟩ := bget hb9; (try simp at hz9)) | (go_at_call 33; (with_reducible refine (bigSub (sn * x.price) x.price s7 s9 l7 l9 A7 A9 c7 c9 130 _ (by omega) (by omega) (by omega) (HB7.out.keep (by (repeat' (first | (with_reducible exact Below.refl _ _) | (with_reducible assumption) | (with_reducible refine Below.alloc ?_ ?_ _) | (with_reducible refine Below.setCell ?_ ?_ _) | (with_reducible refine Below.drew ?_) | (with_reducible refine below_drewN ?_ _) | (with_reducible refine below_via ?_ (by with_reducible assumption) ?_) | omega | (simp; done) | (simp; omega))))) (HB9.out.keep (by (repeat' (first | (with_reducible exact Below.refl _ _) | (with_reducible assumption) | (with_reducible refine Below.alloc ?_ ?_ _) | (with_reducible refine Below.setCell ?_ ?_ _) | (with_reducible refine Below.drew ?_) | (with_reducible refine below_drewN ?_ _) | (with_reducible refine below_via ?_ (by with_reducible assumption) ?_) | omega | (simp; done) | (simp; omega)))))).mono ?_); rintro e w10 ⟨s10, A10, l10, c10, rfl, hB10, hl10, hb10⟩; have HB10 := Lib.hid hB10; clear hB10; obtain ⟨fc10, fg10, hc10, hf10, hz10⟩ := bget hb10; (try simp at hz10)) | (go_at_call 13; (with_reducible refine (C6.out s10 s6 l10 l6 A10 A6 c10 c6 _ (by omega) (by omega) (HB10.out.keep (by (repeat' (first | (with_reducible exact Below.refl _ _) | (with_reducible assumption) | (with_reducible refine Below.alloc ?_ ?_ _) | (with_reducible refine Below.setCell ?_ ?_ _) | (with_reducible refine Below.drew ?_) | (with_reducible refine below_drewN ?_ _) | (with_reducible refine below_via ?_ (by with_reducible assumption) ?_) | omega | (simp; done) | (simp; omega))))) (HB6.out.keep (by (repeat' (first | (with_reducible exact Below.refl _ _) | (with_reducible assumption) | (with_reducible refine Below.alloc ?_ ?_ _) | (with_reducible refine Below.setCell ?_ ?_ _) | (with_reducible refine Below.drew ?_) | (with_reducible refine below_drewN ?_ _) | (with_reducible refine below_via ?_ (by with_reducible assumption) ?_) | omega | (simp; done) | (simp; omega)))))).mono ?_); rintro e w11 ⟨rfl, hb11⟩; obtain ⟨fc11, fg11, hc11, hf11, hz11⟩ := bget hb11; (try simp at hz11)) | (go_at_call 29; (with_reducible refine (law12lives _).mono ?_); rintro e w12 ⟨rfl, hb12⟩; obtain ⟨fc12, fg12, hc12, hf12, hz12⟩ := bget hb12; (try simp at hz12)) | fail)
  all_goals
    go_wp2_with fail
    go_ret
    exact ⟨rfl, by (repeat' (first | (with_reducible exact Below.refl _ _) | (with_reducible assumption) | (with_reducible refine Below.alloc ?_ ?_ _) | (with_reducible refine Below.setCell ?_ ?_ _) | (with_reducible refine Below.drew ?_) | (with_reducible refine below_drewN ?_ _) | (with_reducible refine below_via ?_ (by with_reducible assumption) ?_) | omega | (simp; done) | (simp; omega)))⟩
set_option maxRecDepth 100000 in
set_option maxHeartbeats 8000000 in
theorem assetCounts43 (x : Asset) (q m a wn we cn ce dn de sn se : Int) (w : World) (ha : In64 a) (hs : In64 sn) (hp : In64 x.price)
    (c1 : ∀ W, Calls Try.prog 25 #[.agg #[.int .i64 x.id, .int .i64 x.price, .int .i64 x.hair], .int .i64 q] W fun e w' => e = .returned (.tuple #[.int .i64 wn, .int .i64 we]) ∧ Below W.heap.size W w')
    (c2 : ∀ W, Calls Try.prog 26 #[.agg #[.int .i64 x.id, .int .i64 x.price, .int .i64 x.hair], .int .i64 q] W fun e w' => e = .returned (.tuple #[.int .i64 cn, .int .i64 ce]) ∧ Below W.heap.size W w')
    (c3 : ∀ W, Calls Try.prog 26 #[.agg #[.int .i64 x.id, .int .i64 x.price, .int .i64 x.hair], .int .i64 m] W fun e w' => e = .returned (.tuple #[.int .i64 dn, .int .i64 de]) ∧ Below W.heap.size W w')
    (c4 : ∀ W, Calls Try.prog 27 #[.agg #[.int .i64 x.id, .int .i64 x.price, .int .i64 x.hair], .int .i64 a] W fun e w' => e = .returned (.tuple #[.int .i64 sn, .int .i64 se]) ∧ Below W.heap.size W w')
    (hf : ce = 0) (he : we = 0) (h0 : 0 ≤ cn) (h1 : cn ≤ wn) (hg : de = 0) (hl : q ≤ m) (h2 : cn ≤ dn) (kh : se = 0) (ka : 0 < a) (k3 : a ≤ sn * x.price) (k4 : sn * x.price - x.price < a) :
    Calls Try.prog 7 #[.agg #[.int .i64 x.id, .int .i64 x.price, .int .i64 x.hair], .int .i64 q, .int .i64 m, .int .i64 a] w fun e w' => e = .returned (.bool true) ∧ Below w.heap.size w w' := by
  have hu := And.intro ha (And.intro hs hp)
  clear hu
  subst hf he hg
  have g2 : decide (cn < 0) = false := (by simp; omega)
  have g3 : decide (wn < cn) = false := (by simp; omega)
  have g4 : decide (q ≤ m) = true := (by simp; omega)
  have g5 : decide (dn < cn) = false := (by simp; omega)
  subst kh
  have k0 : decide (a ≤ 0) = false := (by simp; omega)
  have c5 := fun s1 s2 l1 l2 A1 A2 d1 d2 W h1 h2 hB1 hB2 => bigCmp (sn * x.price) a s1 s2 l1 l2 A1 A2 d1 d2 200 W (by omega) h1 h2 hB1 hB2
  have c6 := fun s1 s2 l1 l2 A1 A2 d1 d2 W h1 h2 hB1 hB2 => bigCmp (sn * x.price - x.price) a s1 s2 l1 l2 A1 A2 d1 d2 200 W (by omega) h1 h2 hB1 hB2
  have ho1 : 0 ≤ ord (sn * x.price) a := (by unfold ord; split; omega; split <;> omega)
  rw [show ord (sn * x.price - x.price) a = -1 from by unfold ord; rw [if_pos (by omega)]] at c6
  generalize ord (sn * x.price) a = o1 at c5 ho1
  have do1 : decide (0 ≤ o1) = true := (by simpa using ho1)
  have C5 := Lib.hid c5
  have C6 := Lib.hid c6
  clear k3 k4 ka ho1 c5 c6
  have C1 := Lib.hid c1
  have C2 := Lib.hid c2
  have C3 := Lib.hid c3
  have C4 := Lib.hid c4
  clear c1 c2 c3 c4
  go_enter Try.func7, Try.ntmps7
  go_wp2_with (first | (go_at_call 25; (with_reducible refine (C1.out _).mono ?_); rintro e w1 ⟨rfl, hb1⟩; obtain ⟨fc1, fg1, hc1, hf1, hz1⟩ := bget hb1; (try simp at hz1)) | (go_at_call 26; (with_reducible refine (C2.out _).mono ?_); rintro e w2 ⟨rfl, hb2⟩; obtain ⟨fc2, fg2, hc2, hf2, hz2⟩ := bget hb2; (try simp at hz2)) | (go_at_call 26; (with_reducible refine (C3.out _).mono ?_); rintro e w3 ⟨rfl, hb3⟩; obtain ⟨fc3, fg3, hc3, hf3, hz3⟩ := bget hb3; (try simp at hz3)) | (go_at_call 27; (with_reducible refine (C4.out _).mono ?_); rintro e w4 ⟨rfl, hb4⟩; obtain ⟨fc4, fg4, hc4, hf4, hz4⟩ := bget hb4; (try simp at hz4)) | (go_at_call 29; (with_reducible refine (law12lives _).mono ?_); rintro e w5 ⟨rfl, hb5⟩; obtain ⟨fc5, fg5, hc5, hf5, hz5⟩ := bget hb5; (try simp at hz5)) | (go_at_call 22; (with_reducible refine (bigOf a _ ha).mono ?_); rintro e w6 ⟨s6, A6, l6, c6, rfl, hB6, hl6, hb6⟩; have HB6 := Lib.hid hB6; clear hB6; obtain ⟨fc6, fg6, hc6, hf6, hz6⟩ := bget hb6; (try simp at hz6)) | fail)
  go_region_held3 (fun w' => (w'.cell? ⟨w.heap.size, 0, none⟩ = some (.int .i64 x.id) ∧ w'.cell? ⟨w.heap.size, 1, none⟩ = some (.int .i64 x.price) ∧ w'.cell? ⟨w.heap.size, 2, none⟩ = some (.int .i64 x.hair)) ∧ w'.cell? ⟨w6.heap.size, 0, none⟩ = some (.bool s6) ∧ w'.cell? ⟨w6.heap.size, 1, none⟩ = some (.slice A6 l6.length c6)) (first | (simp [go_sem]; done) | (repeat' (first | (with_reducible assumption) | (with_reducible refine And.intro ?_ ?_) | (with_reducible refine cell_drew ?_) | (with_reducible refine cell_via (by with_reducible assumption) ?_ ?_) | (simp [*]; done) | (simp [go_sem]; done) | (with_reducible refine cell_alloc ?_ ?_) | (with_reducible refine cell_set_far ?_ ?_) | omega | (simp; omega)))) (first | (go_at_call 30; (with_reducible refine (ref12Worth x sn _ hs hp).mono ?_); rintro e w7 ⟨s7, A7, l7, c7, rfl, hB7, hl7, hb7⟩; have HB7 := Lib.hid hB7; clear hB7; obtain ⟨fc7, fg7, hc7, hf7, hz7⟩ := bget hb7; (try simp at hz7)) | (go_at_call 13; (with_reducible refine (C5.out s7 s6 l7 l6 A7 A6 c7 c6 _ (by omega) (by omega) (HB7.out.keep (by (repeat' (first | (with_reducible exact Below.refl _ _) | (with_reducible assumption) | (with_reducible refine Below.alloc ?_ ?_ _) | (with_reducible refine Below.setCell ?_ ?_ _) | (with_reducible refine Below.drew ?_) | (with_reducible refine below_drewN ?_ _) | (with_reducible refine below_via ?_ (by with_reducible assumption) ?_) | omega | (simp; done) | (simp; omega))))) (HB6.out.keep (by (repeat' (first | (with_reducible exact Below.refl _ _) | (with_reducible assumption) | (with_reducible refine Below.alloc ?_ ?_ _) | (with_reducible refine Below.setCell ?_ ?_ _) | (with_reducible refine Below.drew ?_) | (with_reducible refine below_drewN ?_ _) | (with_reducible refine below_via ?_ (by with_reducible assumption) ?_) | omega | (simp; done) | (simp; omega)))))).mono ?_); rintro e w8 ⟨rfl, hb8⟩; obtain ⟨fc8, fg8, hc8, hf8, hz8⟩ := bget hb8; (try simp at hz8)) | (go_at_call 22; (with_reducible refine (bigOf x.price _ hp).mono ?_); rintro e w9 ⟨s9, A9, l9, c9, rfl, hB9, hl9, hb9⟩; have HB9 := Lib.hid hB9; clear hB9; obtain ⟨fc9, fg9, hc9, hf9, hz9⟩ := bget hb9; (try simp at hz9)) | (go_at_call 33; (with_reducible refine (bigSub (sn * x.price) x.price s7 s9 l7 l9 A7 A9 c7 c9 130 _ (by omega) (by omega) (by omega) (HB7.out.keep (by (repeat' (first | (with_reducible exact Below.refl _ _) | (with_reducible assumption) | (with_reducible refine Below.alloc ?_ ?_ _) | (with_reducible refine Below.setCell ?_ ?_ _) | (with_reducible refine Below.drew ?_) | (with_reducible refine below_drewN ?_ _) | (with_reducible refine below_via ?_ (by with_reducible assumption) ?_) | omega | (simp; done) | (simp; omega))))) (HB9.out.keep (by (repeat' (first | (with_reducible exact Below.refl _ _) | (with_reducible assumption) | (with_reducible refine Below.alloc ?_ ?_ _) | (with_reducible refine Below.setCell ?_ ?_ _) | (with_reducible refine Below.drew ?_) | (with_reducible refine below_drewN ?_ _) | (with_reducible refine below_via ?_ (by with_reducible assumption) ?_) | omega | (simp; done) | (simp; omega)))))).mono ?_); rintro e w10 ⟨s10, A10, l10, c10, rfl, hB10, hl10, hb10⟩; have HB10 := Lib.hid hB10; clear hB10; obtain ⟨fc10, fg10, hc10, hf10, hz10⟩ := bget hb10; (try simp at hz10)) | (go_at_call 13; (with_reducible refine (C6.out s10 s6 l10 l6 A10 A6 c10 c6 _ (by omega) (by omega) (HB10.out.keep (by (repeat' (first | (with_reducible exact Below.refl _ _) | (with_reducible assumption) | (with_reducible refine Below.alloc ?_ ?_ _) | (with_reducible refine Below.setCell ?_ ?_ _) | (with_reducible refine Below.drew ?_) | (with_reducible refine below_drewN ?_ _) | (with_reducible refine below_via ?_ (by with_reducible assumption) ?_) | omega | (simp; done) | (simp; omega))))) (HB6.out.keep (by (repeat' (first | (with_reducible exact Below.refl _ _) | (with_reducible assumption) | (with_reducible refine Below.alloc ?_ ?_ _) | (with_reducible refine Below.setCell ?_ ?_ _) | (with_reducible refine Below.drew ?_) | (with_reducible refine below_drewN ?_ _) | (with_reducible refine below_via ?_ (by with_reducible assumption) ?_) | omega | (simp; done) | (simp; omega)))))).mono ?_); rintro e w11 ⟨rfl, hb11⟩; obtain ⟨fc11, fg11, hc11, hf11, hz11⟩ := bget hb11; (try simp at hz11)) | (go_at_call 29; (with_reducible refine (law12lives _).mono ?_); rintro e w12 ⟨rfl, hb12⟩; obtain ⟨fc12, fg12, hc12, hf12, hz12⟩ := bget hb12; (try simp at hz12)) | fail)
  all_goals
    go_wp2_with fail
    go_ret
    exact ⟨rfl, by (repeat' (first | (with_reducible exact Below.refl _ _) | (with_reducible assumption) | (with_reducible refine Below.alloc ?_ ?_ _) | (with_reducible refine Below.setCell ?_ ?_ _) | (with_reducible refine Below.drew ?_) | (with_reducible refine below_drewN ?_ _) | (with_reducible refine below_via ?_ (by with_reducible assumption) ?_) | omega | (simp; done) | (simp; omega)))⟩
theorem sell_form {x : Asset} {a : Int} : (sellE x a ≠ 0 ∧ sellN x a = 0) ∨ (sellE x a = 0 ∧ a ≤ 0 ∧ sellN x a = 0) ∨ (sellE x a = 0 ∧ 0 < a ∧ a ≤ sellN x a * x.price ∧ sellN x a * x.price - x.price < a) := by
  unfold sellE sellN
  by_cases h : okA x
  · by_cases h0 : 0 < a
    · by_cases hp : 0 < x.price
      · right; right
        rw [if_pos h, if_pos h0, if_pos hp, if_pos ⟨h, h0, hp⟩]
        have := up_worth (a := a) hp
        exact ⟨rfl, h0, this.1, this.2⟩
      · left
        rw [if_pos h, if_pos h0, if_neg hp, if_neg (fun k => hp k.2.2)]
        exact ⟨by omega, rfl⟩
    · right; left
      rw [if_pos h, if_neg h0, if_neg (fun k => h0 k.2.1)]
      exact ⟨rfl, by omega, rfl⟩
  · left
    rw [if_neg h, if_neg (fun k => h k.1)]
    exact ⟨by omega, rfl⟩
theorem count_form {x : Asset} {q : Int} (hf : countE x q = 0) : worthE x q = 0 ∧ 0 ≤ countN x q ∧ countN x q ≤ worthN x q ∧ countN x q = countA x q ∧ okA x := by
  unfold countE at hf
  by_cases h : okA x
  · rw [if_pos h] at hf
    by_cases h0 : q < 0
    · rw [if_pos h0] at hf; omega
    · rw [if_neg h0] at hf
      have h64 : In64 (q * x.price) := by
        cases e : in64 (q * x.price) with
        | true => exact in64_iff.1 e
        | false => unfold okE at hf; rw [e] at hf; simp at hf
      have hc := count_le h (show 0 ≤ q by omega)
      unfold worthE worthN countN
      rw [if_pos h, if_pos h, if_pos ⟨h, by omega, in64_iff.2 h64⟩, (okN_yes h64).1, (okN_yes h64).2]
      exact ⟨rfl, hc.1, hc.2, rfl, h⟩
  · rw [if_neg h] at hf; omega
theorem sell_in {x : Asset} {a : Int} (ha : In64 a) : In64 (sellN x a) := by
  unfold sellN
  split
  · rename_i h; exact upOf_in ha h.2.1 h.2.2
  · unfold In64; omega
theorem assetCounts (x : Asset) (q m a : Int) (w : World) (hp : In64 x.price) (hq : In64 q) (hm : In64 m) (ha : In64 a) :
    Calls Try.prog 7 #[.agg #[.int .i64 x.id, .int .i64 x.price, .int .i64 x.hair], .int .i64 q, .int .i64 m, .int .i64 a] w fun e w' => e = .returned (.bool true) ∧ Below w.heap.size w w' := by
  have c1 := fun W => assetWorth x q W hq
  have c2 := fun W => assetCount x q W hq
  have c3 := fun W => assetCount x m W hm
  have c4 := fun W => assetSell x a W ha
  have hs := sell_in (x := x) ha
  by_cases hf : countE x q = 0
  · obtain ⟨he, h0, h1, hcc, hk⟩ := count_form hf
    by_cases hg : countE x m = 0
    · by_cases hl : q ≤ m
      · have h2 : countN x q ≤ countN x m := by
          rw [hcc, (count_form hg).2.2.2.1]
          exact count_mono hk hl
        rcases sell_form (x := x) (a := a) with ⟨kh, ks⟩ | ⟨kh, ka, ks⟩ | ⟨kh, ka, k3, k4⟩
        · exact assetCounts41 x q m a _ _ _ _ _ _ _ _ w ha hs hp c1 c2 c3 c4 hf he h0 h1 hg hl h2 kh ks
        · exact assetCounts42 x q m a _ _ _ _ _ _ _ _ w ha hs hp c1 c2 c3 c4 hf he h0 h1 hg hl h2 kh ka ks
        · exact assetCounts43 x q m a _ _ _ _ _ _ _ _ w ha hs hp c1 c2 c3 c4 hf he h0 h1 hg hl h2 kh ka k3 k4
      · rcases sell_form (x := x) (a := a) with ⟨kh, ks⟩ | ⟨kh, ka, ks⟩ | ⟨kh, ka, k3, k4⟩
        · exact assetCounts31 x q m a _ _ _ _ _ _ _ _ w ha hs hp c1 c2 c3 c4 hf he h0 h1 hg (by omega) kh ks
        · exact assetCounts32 x q m a _ _ _ _ _ _ _ _ w ha hs hp c1 c2 c3 c4 hf he h0 h1 hg (by omega) kh ka ks
        · exact assetCounts33 x q m a _ _ _ _ _ _ _ _ w ha hs hp c1 c2 c3 c4 hf he h0 h1 hg (by omega) kh ka k3 k4
    · rcases sell_form (x := x) (a := a) with ⟨kh, ks⟩ | ⟨kh, ka, ks⟩ | ⟨kh, ka, k3, k4⟩
      · exact assetCounts21 x q m a _ _ _ _ _ _ _ _ w ha hs hp c1 c2 c3 c4 hf he h0 h1 hg kh ks
      · exact assetCounts22 x q m a _ _ _ _ _ _ _ _ w ha hs hp c1 c2 c3 c4 hf he h0 h1 hg kh ka ks
      · exact assetCounts23 x q m a _ _ _ _ _ _ _ _ w ha hs hp c1 c2 c3 c4 hf he h0 h1 hg kh ka k3 k4
  · rcases sell_form (x := x) (a := a) with ⟨kh, ks⟩ | ⟨kh, ka, ks⟩ | ⟨kh, ka, k3, k4⟩
    · exact assetCounts11 x q m a _ _ _ _ _ _ _ _ w ha hs hp c1 c2 c3 c4 hf kh ks
    · exact assetCounts12 x q m a _ _ _ _ _ _ _ _ w ha hs hp c1 c2 c3 c4 hf kh ka ks
    · exact assetCounts13 x q m a _ _ _ _ _ _ _ _ w ha hs hp c1 c2 c3 c4 hf kh ka k3 k4
end Go.Proofs.Ytpjehhkmdndcmaa
