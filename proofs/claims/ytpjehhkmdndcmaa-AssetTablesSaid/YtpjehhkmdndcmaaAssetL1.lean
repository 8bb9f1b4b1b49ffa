/- Layer 12's laws: lives; AssetWorths' walk. -/
import Derived.Test.YtpjehhkmdndcmaaAsset3
namespace Go.Proofs.Ytpjehhkmdndcmaa
open Go.RowKit
set_option maxRecDepth 100000 in
set_option maxHeartbeats 4000000 in
theorem law12lives (w : World) : Calls Try.prog 29 #[] w fun e w' => e = .returned (.bool true) ∧ Below w.heap.size w w' := by
  have c1 := fun W => assetWorth ⟨1, 3, 1000⟩ 10 W (by unfold In64; omega)
  have c2 := fun W => assetCount ⟨1, 3, 1000⟩ 10 W (by unfold In64; omega)
  have c3 := fun W => assetSell ⟨1, 3, 1000⟩ 31 W (by unfold In64; omega)
  have hk : okA ⟨1, 3, 1000⟩ := by decide
  rw [show worthN ⟨1, 3, 1000⟩ 10 = 30 from by decide +kernel, show worthE ⟨1, 3, 1000⟩ 10 = 0 from by decide +kernel] at c1
  rw [show countN ⟨1, 3, 1000⟩ 10 = 27 from by decide +kernel, show countE ⟨1, 3, 1000⟩ 10 = 0 from by decide +kernel] at c2
  rw [show sellN ⟨1, 3, 1000⟩ 31 = 11 from by decide +kernel, show sellE ⟨1, 3, 1000⟩ 31 = 0 from by decide +kernel] at c3
  have C1 := Lib.hid c1
  have C2 := Lib.hid c2
  have C3 := Lib.hid c3
  clear c1 c2 c3
  go_enter Try.func29, Try.ntmps29
  go_wp2_with (first | (go_at_call 25; (with_reducible refine (C1.out _).mono ?_); rintro e w1 ⟨rfl, hb1⟩; obtain ⟨fc1, fg1, hc1, hf1, hz1⟩ := bget hb1; (try simp at hz1)) | (go_at_call 26; (with_reducible refine (C2.out _).mono ?_); rintro e w2 ⟨rfl, hb2⟩; obtain ⟨fc2, fg2, hc2, hf2, hz2⟩ := bget hb2; (try simp at hz2)) | (go_at_call 27; (with_reducible refine (C3.out _).mono ?_); rintro e w3 ⟨rfl, hb3⟩; obtain ⟨fc3, fg3, hc3, hf3, hz3⟩ := bget hb3; (try simp at hz3)) | fail)
  all_goals
    go_ret
    exact ⟨rfl, by (repeat' (first | (with_reducible exact Below.refl _ _) | (with_reducible assumption) | (with_reducible refine Below.alloc ?_ ?_ _) | (with_reducible refine Below.setCell ?_ ?_ _) | (with_reducible refine Below.drew ?_) | (with_reducible refine below_drewN ?_ _) | (with_reducible refine below_via ?_ (by with_reducible assumption) ?_) | omega | (simp; done) | (simp; omega)))⟩
set_option maxRecDepth 100000 in
set_option maxHeartbeats 8000000 in
theorem assetWorthsNot (x : Asset) (q a : Int) (w : World) (hq : In64 q) (ha : In64 a) (h : ¬ okA x) :
    Calls Try.prog 6 #[.agg #[.int .i64 x.id, .int .i64 x.price, .int .i64 x.hair], .int .i64 q, .int .i64 a] w fun e w' => e = .returned (.bool true) ∧ Below w.heap.size w w' := by
  have c1 := fun W => assetWorth x q W hq
  have c2 := fun W => assetCount x q W hq
  have c3 := fun W => assetSell x a W ha
  have c4 := fun W => ref12Is x W
  rw [show worthN x q = 0 from if_neg h, show worthE x q = 2 from if_neg h] at c1
  rw [show countN x q = 0 from if_neg (fun k => h k.1), show countE x q = 2 from if_neg h] at c2
  rw [show sellN x a = 0 from if_neg (fun k => h k.1), show sellE x a = 2 from if_neg h] at c3
  rw [decide_eq_false h] at c4
  have C1 := Lib.hid c1
  have C2 := Lib.hid c2
  have C3 := Lib.hid c3
  have C4 := Lib.hid c4
  clear c1 c2 c3 c4
  clear h
  go_enter Try.func6, Try.ntmps6
  go_wp2_with (first | (go_at_call 25; (with_reducible refine (C1.out _).mono ?_); rintro e w1 ⟨rfl, hb1⟩; obtain ⟨fc1, fg1, hc1, hf1, hz1⟩ := bget hb1; (try simp at hz1)) | (go_at_call 26; (with_reducible refine (C2.out _).mono ?_); rintro e w2 ⟨rfl, hb2⟩; obtain ⟨fc2, fg2, hc2, hf2, hz2⟩ := bget hb2; (try simp at hz2)) | (go_at_call 27; (with_reducible refine (C3.out _).mono ?_); rintro e w3 ⟨rfl, hb3⟩; obtain ⟨fc3, fg3, hc3, hf3, hz3⟩ := bget hb3; (try simp at hz3)) | (go_at_call 28; (with_reducible refine (C4.out _).mono ?_); rintro e w4 ⟨rfl, hb4⟩; obtain ⟨fc4, fg4, hc4, hf4, hz4⟩ := bget hb4; (try simp at hz4)) | (go_at_call 29; (with_reducible refine (law12lives _).mono ?_); rintro e w5 ⟨rfl, hb5⟩; obtain ⟨fc5, fg5, hc5, hf5, hz5⟩ := bget hb5; (try simp at hz5)) | fail)
  all_goals
    go_ret
    exact ⟨rfl, by (repeat' (first | (with_reducible exact Below.refl _ _) | (with_reducible assumption) | (with_reducible refine Below.alloc ?_ ?_ _) | (with_reducible refine Below.setCell ?_ ?_ _) | (with_reducible refine Below.drew ?_) | (with_reducible refine below_drewN ?_ _) | (with_reducible refine below_via ?_ (by with_reducible assumption) ?_) | omega | (simp; done) | (simp; omega)))⟩
set_option maxRecDepth 100000 in
set_option maxHeartbeats 8000000 in
theorem assetWorths11 (x : Asset) (q a : Int) (w : World) (hq : In64 q) (ha : In64 a) (h : okA x) (hq0 : q < 0) (ha0 : a ≤ 0) :
    Calls Try.prog 6 #[.agg #[.int .i64 x.id, .int .i64 x.price, .int .i64 x.hair], .int .i64 q, .int .i64 a] w fun e w' => e = .returned (.bool true) ∧ Below w.heap.size w w' := by
  have c1 := fun W => assetWorth x q W hq
  have c2 := fun W => assetCount x q W hq
  have c3 := fun W => assetSell x a W ha
  have c4 := fun W => ref12Is x W
  rw [show worthN x q = okN (q * x.price) from if_pos h, show worthE x q = okE (q * x.price) from if_pos h] at c1
  rw [decide_eq_true h] at c4
  have hok := okA_in h
  have c5 := fun W => ref12Worth x q W hq hok.1
  have c6 := fun s l A c W h hB => law02Is (q * x.price) s l A c 500 W (by omega) h hB
  have c7 := fun s l A c W h hB => bigFits (q * x.price) s l A c 500 W (by omega) h hB
  have c8 := fun W => ref12Count x q W hq h
  have c9 := fun s l A c W h hB => law02Is (countA x q) s l A c 500 W (by omega) h hB
  have c10 := fun s l A c W h hB => law02Is (upOf a x.price) s l A c 500 W (by omega) h hB
  rw [show countN x q = 0 from if_neg (fun k => absurd k.2.1 (by omega)), show countE x q = 2 from (if_pos h).trans (if_pos hq0)] at c2
  have dq0 : decide (q < 0) = true := (by simpa using hq0)
  rw [show sellN x a = 0 from if_neg (fun k => absurd k.2.1 (by omega)), show sellE x a = 0 from (if_pos h).trans (if_neg (by omega))] at c3
  have C11 := 0
  have da0 : decide (a ≤ 0) = true := (by simp; omega)
  generalize okN (q * x.price) = wn at c1 c6
  generalize okE (q * x.price) = we at c1 c6
  generalize q * x.price = wo at c5 c6 c7
  generalize countA x q = co at c2 c8 c9
  clear hok
  have C5 := Lib.hid c5
  have C6 := Lib.hid c6
  have C7 := Lib.hid c7
  have C8 := Lib.hid c8
  have C9 := Lib.hid c9
  have C10 := Lib.hid c10
  clear c5 c6 c7 c8 c9 c10
  have C1 := Lib.hid c1
  have C2 := Lib.hid c2
  have C3 := Lib.hid c3
  have C4 := Lib.hid c4
  clear c1 c2 c3 c4
  go_enter Try.func6, Try.ntmps6
  go_wp2_with (first | (go_at_call 25; (with_reducible refine (C1.out _).mono ?_); rintro e w1 ⟨rfl, hb1⟩; obtain ⟨fc1, fg1, hc1, hf1, hz1⟩ := bget hb1; (try simp at hz1)) | (go_at_call 26; (with_reducible refine (C2.out _).mono ?_); rintro e w2 ⟨rfl, hb2⟩; obtain ⟨fc2, fg2, hc2, hf2, hz2⟩ := bget hb2; (try simp at hz2)) | (go_at_call 27; (with_reducible refine (C3.out _).mono ?_); rintro e w3 ⟨rfl, hb3⟩; obtain ⟨fc3, fg3, hc3, hf3, hz3⟩ := bget hb3; (try simp at hz3)) | (go_at_call 28; (with_reducible refine (C4.out _).mono ?_); rintro e w4 ⟨rfl, hb4⟩; obtain ⟨fc4, fg4, hc4, hf4, hz4⟩ := bget hb4; (try simp at hz4)) | (go_at_call 29; (with_reducible refine (law12lives _).mono ?_); rintro e w14 ⟨rfl, hb14⟩; obtain ⟨fc14, fg14, hc14, hf14, hz14⟩ := bget hb14; (try simp at hz14)) | (go_at_call 30; (with_reducible refine (C5.out _).mono ?_); rintro e w5 ⟨s5, A5, l5, c5, rfl, hB5, hl5, hb5⟩; have HB5 := Lib.hid hB5; clear hB5; obtain ⟨fc5, fg5, hc5, hf5, hz5⟩ := bget hb5; (try simp at hz5)) | (go_at_call 19; (with_reducible refine (C6.out s5 l5 A5 c5 _ (by omega) (HB5.out.keep (by (repeat' (first | (with_reducible exact Below.refl _ _) | (with_reducible assumption) | (with_reducible refine Below.alloc ?_ ?_ _) | (with_reducible refine Below.setCell ?_ ?_ _) | (with_reducible refine Below.drew ?_) | (with_reducible refine below_drewN ?_ _) | (with_reducible refine below_via ?_ (by with_reducible assumption) ?_) | omega | (simp; done) | (simp; omega)))))).mono ?_); rintro e w6 ⟨rfl, hb6⟩; obtain ⟨fc6, fg6, hc6, hf6, hz6⟩ := bget hb6; (try simp at hz6)) | (go_at_call 23; (with_reducible refine (C7.out s5 l5 A5 c5 _ (by omega) (HB5.out.keep (by (repeat' (first | (with_reducible exact Below.refl _ _) | (with_reducible assumption) | (with_reducible refine Below.alloc ?_ ?_ _) | (with_reducible refine Below.setCell ?_ ?_ _) | (with_reducible refine Below.drew ?_) | (with_reducible refine below_drewN ?_ _) | (with_reducible refine below_via ?_ (by with_reducible assumption) ?_) | omega | (simp; done) | (simp; omega)))))).mono ?_); rintro e w8 ⟨rfl, hb8⟩; obtain ⟨fc8, fg8, hc8, hf8, hz8⟩ := bget hb8; (try simp at hz8)) | (go_at_call 31; (with_reducible refine (C8.out _).mono ?_); rintro e w9 ⟨s9, A9, l9, c9, rfl, hB9, hl9, hb9⟩; have HB9 := Lib.hid hB9; clear hB9; obtain ⟨fc9, fg9, hc9, hf9, hz9⟩ := bget hb9; (try simp at hz9)) | (go_at_call 19; (with_reducible refine (C9.out s9 l9 A9 c9 _ (by omega) (HB9.out.keep (by (repeat' (first | (with_reducible exact Below.refl _ _) | (with_reducible assumption) | (with_reducible refine Below.alloc ?_ ?_ _) | (with_reducible refine Below.setCell ?_ ?_ _) | (with_reducible refine Below.drew ?_) | (with_reducible refine below_drewN ?_ _) | (with_reducible refine below_via ?_ (by with_reducible assumption) ?_) | omega | (simp; done) | (simp; omega)))))).mono ?_); rintro e w10 ⟨rfl, hb10⟩; obtain ⟨fc10, fg10, hc10, hf10, hz10⟩ := bget hb10; (try simp at hz10)) | (go_at_call 32; (with_reducible refine (C11.out _).mono ?_); rintro e w11 ⟨s11, A11, l11, c11, rfl, hB11, hl11, hb11⟩; have HB11 := Lib.hid hB11; clear hB11; obtain ⟨fc11, fg11, hc11, hf11, hz11⟩ := bget hb11; (try simp at hz11)) | (go_at_call 19; (with_reducible refine (C10.out s11 l11 A11 c11 _ (by omega) (HB11.out.keep (by (repeat' (first | (with_reducible exact Below.refl _ _) | (with_reducible assumption) | (with_reducible refine Below.alloc ?_ ?_ _) | (with_reducible refine Below.setCell ?_ ?_ _) | (with_reducible refine Below.drew ?_) | (with_reducible refine below_drewN ?_ _) | (with_reducible refine below_via ?_ (by with_reducible assumption) ?_) | omega | (simp; done) | (simp; omega)))))).mono ?_); rintro e w12 ⟨rfl, hb12⟩; obtain ⟨fc12, fg12, hc12, hf12, hz12⟩ := bget hb12; (try simp at hz12)) | fail)
  all_goals
    go_ret
    exact ⟨rfl, by (repeat' (first | (with_reducible exact Below.refl _ _) | (with_reducible assumption) | (with_reducible refine Below.alloc ?_ ?_ _) | (with_reducible refine Below.setCell ?_ ?_ _) | (with_reducible refine Below.drew ?_) | (with_reducible refine below_drewN ?_ _) | (with_reducible refine below_via ?_ (by with_reducible assumption) ?_) | omega | (simp; done) | (simp; omega)))⟩
set_option maxRecDepth 100000 in
set_option maxHeartbeats 8000000 in
theorem assetWorths12 (x : Asset) (q a : Int) (w : World) (hq : In64 q) (ha : In64 a) (h : okA x) (hq0 : q < 0) (ha0 : 0 < a) (hp0 : x.price = 0) :
    Calls Try.prog 6 #[.agg #[.int .i64 x.id, .int .i64 x.price, .int .i64 x.hair], .int .i64 q, .int .i64 a] w fun e w' => e = .returned (.bool true) ∧ Below w.heap.size w w' := by
  have c1 := fun W => assetWorth x q W hq
  have c2 := fun W => assetCount x q W hq
  have c3 := fun W => assetSell x a W ha
  have c4 := fun W => ref12Is x W
  rw [show worthN x q = okN (q * x.price) from if_pos h, show worthE x q = okE (q * x.price) from if_pos h] at c1
  rw [decide_eq_true h] at c4
  have hok := okA_in h
  have c5 := fun W => ref12Worth x q W hq hok.1
  have c6 := fun s l A c W h hB => law02Is (q * x.price) s l A c 500 W (by omega) h hB
  have c7 := fun s l A c W h hB => bigFits (q * x.price) s l A c 500 W (by omega) h hB
  have c8 := fun W => ref12Count x q W hq h
  have c9 := fun s l A c W h hB => law02Is (countA x q) s l A c 500 W (by omega) h hB
  have c10 := fun s l A c W h hB => law02Is (upOf a x.price) s l A c 500 W (by omega) h hB
  rw [show countN x q = 0 from if_neg (fun k => absurd k.2.1 (by omega)), show countE x q = 2 from (if_pos h).trans (if_pos hq0)] at c2
  have dq0 : decide (q < 0) = true := (by simpa using hq0)
  rw [show sellN x a = 0 from if_neg (fun k => absurd k.2.2 (by omega)), show sellE x a = 8 from (if_pos h).trans ((if_pos ha0).trans (if_neg (by omega)))] at c3
  have C11 := 0
  have da0 : decide (a ≤ 0) = false := (by simp; omega)
  have dp0 : (x.price == 0) = true := (by simp; omega)
  clear hp0
  generalize okN (q * x.price) = wn at c1 c6
  generalize okE (q * x.price) = we at c1 c6
  generalize q * x.price = wo at c5 c6 c7
  generalize countA x q = co at c2 c8 c9
  clear hok
  have C5 := Lib.hid c5
  have C6 := Lib.hid c6
  have C7 := Lib.hid c7
  have C8 := Lib.hid c8
  have C9 := Lib.hid c9
  have C10 := Lib.hid c10
  clear c5 c6 c7 c8 c9 c10
  have C1 := Lib.hid c1
  have C2 := Lib.hid c2
  have C3 := Lib.hid c3
  have C4 := Lib.hid c4
  clear c1 c2 c3 c4
  go_enter Try.func6, Try.ntmps6
  go_wp2_with (first | (go_at_call 25; (with_reducible refine (C1.out _).mono ?_); rintro e w1 ⟨rfl, hb1⟩; obtain ⟨fc1, fg1, hc1, hf1, hz1⟩ := bget hb1; (try simp at hz1)) | (go_at_call 26; (with_reducible refine (C2.out _).mono ?_); rintro e w2 ⟨rfl, hb2⟩; obtain ⟨fc2, fg2, hc2, hf2, hz2⟩ := bget hb2; (try simp at hz2)) | (go_at_call 27; (with_reducible refine (C3.out _).mono ?_); rintro e w3 ⟨rfl, hb3⟩; obtain ⟨fc3, fg3, hc3, hf3, hz3⟩ := bget hb3; (try simp at hz3)) | (go_at_call 28; (with_reducible refine (C4.out _).mono ?_); rintro e w4 ⟨rfl, hb4⟩; obtain ⟨fc4, fg4, hc4, hf4, hz4⟩ := bget hb4; (try simp at hz4)) | (go_at_call 29; (with_reducible refine (law12lives _).mono ?_); rintro e w14 ⟨rfl, hb14⟩; obtain ⟨fc14, fg14, hc14, hf14, hz14⟩ := bget hb14; (try simp at hz14)) | (go_at_call 30; (with_reducible refine (C5.out _).mono ?_); rintro e w5 ⟨s5, A5, l5, c5, rfl, hB5, hl5, hb5⟩; have HB5 := Lib.hid hB5; clear hB5; obtain ⟨fc5, fg5, hc5, hf5, hz5⟩ := bget hb5; (try simp at hz5)) | (go_at_call 19; (with_reducible refine (C6.out s5 l5 A5 c5 _ (by omega) (HB5.out.keep (by (repeat' (first | (with_reducible exact Below.refl _ _) | (with_reducible assumption) | (with_reducible refine Below.alloc ?_ ?_ _) | (with_reducible refine Below.setCell ?_ ?_ _) | (with_reducible refine Below.drew ?_) | (with_reducible refine below_drewN ?_ _) | (with_reducible refine below_via ?_ (by with_reducible assumption) ?_) | omega | (simp; done) | (simp; omega)))))).mono ?_); rintro e w6 ⟨rfl, hb6⟩; obtain ⟨fc6, fg6, hc6, hf6, hz6⟩ := bget hb6; (try simp at hz6)) | (go_at_call 23; (with_reducible refine (C7.out s5 l5 A5 c5 _ (by omega) (HB5.out.keep (by (repeat' (first | (with_reducible exact Below.refl _ _) | (with_reducible assumption) | (with_reducible refine Below.alloc ?_ ?_ _) | (with_reducible refine Below.setCell ?_ ?_ _) | (with_reducible refine Below.drew ?_) | (with_reducible refine below_drewN ?_ _) | (with_reducible refine below_via ?_ (by with_reducible assumption) ?_) | omega | (simp; done) | (simp; omega)))))).mono ?_); rintro e w8 ⟨rfl, hb8⟩; obtain ⟨fc8, fg8, hc8, hf8, hz8⟩ := bget hb8; (try simp at hz8)) | (go_at_call 31; (with_reducible refine (C8.out _).mono ?_); rintro e w9 ⟨s9, A9, l9, c9, rfl, hB9, hl9, hb9⟩; have HB9 := Lib.hid hB9; clear hB9; obtain ⟨fc9, fg9, hc9, hf9, hz9⟩ := bget hb9; (try simp at hz9)) | (go_at_call 19; (with_reducible refine (C9.out s9 l9 A9 c9 _ (by omega) (HB9.out.keep (by (repeat' (first | (with_reducible exact Below.refl _ _) | (with_reducible assumption) | (with_reducible refine Below.alloc ?_ ?_ _) | (with_reducible refine Below.setCell ?_ ?_ _) | (with_reducible refine Below.drew ?_) | (with_reducible refine below_drewN ?_ _) | (with_reducible refine below_via ?_ (by with_reducible assumption) ?_) | omega | (simp; done) | (simp; omega)))))).mono ?_); rintro e w10 ⟨rfl, hb10⟩; obtain ⟨fc10, fg10, hc10, hf10, hz10⟩ := bget hb10; (try simp at hz10)) | (go_at_call 32; (with_reducible refine (C11.out _).mono ?_); rintro e w11 ⟨s11, A11, l11, c11, rfl, hB11, hl11, hb11⟩; have HB11 := Lib.hid hB11; clear hB11; obtain ⟨fc11, fg11, hc11, hf11, hz11⟩ := bget hb11; (try simp at hz11)) | (go_at_call 19; (with_reducible refine (C10.out s11 l11 A11 c11 _ (by omega) (HB11.out.keep (by (repeat' (first | (with_reducible exact Below.refl _ _) | (with_reducible assumption) | (with_reducible refine Below.alloc ?_ ?_ _) | (with_reducible refine Below.setCell ?_ ?_ _) | (with_reducible refine Below.drew ?_) | (with_reducible refine below_drewN ?_ _) | (with_reducible refine below_via ?_ (by with_reducible assumption) ?_) | omega | (simp; done) | (simp; omega)))))).mono ?_); rintro e w12 ⟨rfl, hb12⟩; obtain ⟨fc12, fg12, hc12, hf12, hz12⟩ := bget hb12; (try simp at hz12)) | fail)
  all_goals
    go_ret
    exact ⟨rfl, by (repeat' (first | (with_reducible exact Below.refl _ _) | (with_reducible assumption) | (with_reducible refine Below.alloc ?_ ?_ _) | (with_reducible refine Below.setCell ?_ ?_ _) | (with_reducible refine Below.drew ?_) | (with_reducible refine below_drewN ?_ _) | (with_reducible refine below_via ?_ (by with_reducible assumption) ?_) | omega | (simp; done) | (simp; omega)))⟩
set_option maxRecDepth 100000 in
set_option maxHeartbeats 8000000 in
theorem assetWorths13 (x : Asset) (q a : Int) (w : World) (hq : In64 q) (ha : In64 a) (h : okA x) (hq0 : q < 0) (ha0 : 0 < a) (hp0 : 0 < x.price) :
    Calls Try.prog 6 #[.agg #[.int .i64 x.id, .int .i64 x.price, .int .i64 x.hair], .int .i64 q, .int .i64 a] w fun e w' => e = .returned (.bool true) ∧ Below w.heap.size w w' := by
  have c1 := fun W => assetWorth x q W hq
  have c2 := fun W => assetCount x q W hq
  have c3 := fun W => assetSell x a W ha
  have c4 := fun W => ref12Is x W
  rw [show worthN x q = okN (q * x.price) from if_pos h, show worthE x q = okE (q * x.price) from if_pos h] at c1
  rw [decide_eq_true h] at c4
  have hok := okA_in h
  have c5 := fun W => ref12Worth x q W hq hok.1
  have c6 := fun s l A c W h hB => law02Is (q * x.price) s l A c 500 W (by omega) h hB
  have c7 := fun s l A c W h hB => bigFits (q * x.price) s l A c 500 W (by omega) h hB
  have c8 := fun W => ref12Count x q W hq h
  have c9 := fun s l A c W h hB => law02Is (countA x q) s l A c 500 W (by omega) h hB
  have c10 := fun s l A c W h hB => law02Is (upOf a x.price) s l A c 500 W (by omega) h hB
  rw [show countN x q = 0 from if_neg (fun k => absurd k.2.1 (by omega)), show countE x q = 2 from (if_pos h).trans (if_pos hq0)] at c2
  have dq0 : decide (q < 0) = true := (by simpa using hq0)
  rw [show sellN x a = upOf a x.price from if_pos ⟨h, ha0, hp0⟩, show sellE x a = 0 from (if_pos h).trans ((if_pos ha0).trans (if_pos hp0))] at c3
  have C11 := Lib.hid (fun W => ref12Sell x a W ha h hp0)
  have hk := okN_yes (upOf_in ha ha0 hp0)
  rw [hk.1, hk.2] at c10
  clear hk
  have da0 : decide (a ≤ 0) = false := (by simp; omega)
  have dp0 : (x.price == 0) = false := (by simp; omega)
  clear hp0
  generalize okN (q * x.price) = wn at c1 c6
  generalize okE (q * x.price) = we at c1 c6
  generalize q * x.price = wo at c5 c6 c7
  generalize countA x q = co at c2 c8 c9
  clear hok
  have C5 := Lib.hid c5
  have C6 := Lib.hid c6
  have C7 := Lib.hid c7
  have C8 := Lib.hid c8
  have C9 := Lib.hid c9
  have C10 := Lib.hid c10
  clear c5 c6 c7 c8 c9 c10
  have C1 := Lib.hid c1
  have C2 := Lib.hid c2
  have C3 := Lib.hid c3
  have C4 := Lib.hid c4
  clear c1 c2 c3 c4
  go_enter Try.func6, Try.ntmps6
  go_wp2_with (first | (go_at_call 25; (with_reducible refine (C1.out _).mono ?_); rintro e w1 ⟨rfl, hb1⟩; obtain ⟨fc1, fg1, hc1, hf1, hz1⟩ := bget hb1; (try simp at hz1)) | (go_at_call 26; (with_reducible refine (C2.out _).mono ?_); rintro e w2 ⟨rfl, hb2⟩; obtain ⟨fc2, fg2, hc2, hf2, hz2⟩ := bget hb2; (try simp at hz2)) | (go_at_call 27; (with_reducible refine (C3.out _).mono ?_); rintro e w3 ⟨rfl, hb3⟩; obtain ⟨fc3, fg3, hc3, hf3, hz3⟩ := bget hb3; (try simp at hz3)) | (go_at_call 28; (with_reducible refine (C4.out _).mono ?_); rintro e w4 ⟨rfl, hb4⟩; obtain ⟨fc4, fg4, hc4, hf4, hz4⟩ := bget hb4; (try simp at hz4)) | (go_at_call 29; (with_reducible refine (law12lives _).mono ?_); rintro e w14 ⟨rfl, hb14⟩; obtain ⟨fc14, fg14, hc14, hf14, hz14⟩ := bget hb14; (try simp at hz14)) | (go_at_call 30; (with_reducible refine (C5.out _).mono ?_); rintro e w5 ⟨s5, A5, l5, c5, rfl, hB5, hl5, hb5⟩; have HB5 := Lib.hid hB5; clear hB5; obtain ⟨fc5, fg5, hc5, hf5, hz5⟩ := bget hb5; (try simp at hz5)) | (go_at_call 19; (with_reducible refine (C6.out s5 l5 A5 c5 _ (by omega) (HB5.out.keep (by (repeat' (first | (with_reducible exact Below.refl _ _) | (with_reducible assumption) | (with_reducible refine Below.alloc ?_ ?_ _) | (with_reducible refine Below.setCell ?_ ?_ _) | (with_reducible refine Below.drew ?_) | (with_reducible refine below_drewN ?_ _) | (with_reducible refine below_via ?_ (by with_reducible assumption) ?_) | omega | (simp; done) | (simp; omega)))))).mono ?_); rintro e w6 ⟨rfl, hb6⟩; obtain ⟨fc6, fg6, hc6, hf6, hz6⟩ := bget hb6; (try simp at hz6)) | (go_at_call 23; (with_reducible refine (C7.out s5 l5 A5 c5 _ (by omega) (HB5.out.keep (by (repeat' (first | (with_reducible exact Below.refl _ _) | (with_reducible assumption) | (with_reducible refine Below.alloc ?_ ?_ _) | (with_reducible refine Below.setCell ?_ ?_ _) | (with_reducible refine Below.drew ?_) | (with_reducible refine below_drewN ?_ _) | (with_reducible refine below_via ?_ (by with_reducible assumption) ?_) | omega | (simp; done) | (simp; omega)))))).mono ?_); rintro e w8 ⟨rfl, hb8⟩; obtain ⟨fc8, fg8, hc8, hf8, hz8⟩ := bget hb8; (try simp at hz8)) | (go_at_call 31; (with_reducible refine (C8.out _).mono ?_); rintro e w9 ⟨s9, A9, l9, c9, rfl, hB9, hl9, hb9⟩; have HB9 := Lib.hid hB9; clear hB9; obtain ⟨fc9, fg9, hc9, hf9, hz9⟩ := bget hb9; (try simp at hz9)) | (go_at_call 19; (with_reducible refine (C9.out s9 l9 A9 c9 _ (by omega) (HB9.out.keep (by (repeat' (first | (with_reducible exact Below.refl _ _) | (with_reducible assumption) | (with_reducible refine Below.alloc ?_ ?_ _) | (with_reducible refine Below.setCell ?_ ?_ _) | (with_reducible refine Below.drew ?_) | (with_reducible refine below_drewN ?_ _) | (with_reducible refine below_via ?_ (by with_reducible assumption) ?_) | omega | (simp; done) | (simp; omega)))))).mono ?_); rintro e w10 ⟨rfl, hb10⟩; obtain ⟨fc10, fg10, hc10, hf10, hz10⟩ := bget hb10; (try simp at hz10)) | (go_at_call 32; (with_reducible refine (C11.out _).mono ?_); rintro e w11 ⟨s11, A11, l11, c11, rfl, hB11, hl11, hb11⟩; have HB11 := Lib.hid hB11; clear hB11; obtain ⟨fc11, fg11, hc11, hf11, hz11⟩ := bget hb11; (try simp at hz11)) | (go_at_call 19; (with_reducible refine (C10.out s11 l11 A11 c11 _ (by omega) (HB11.out.keep (by (repeat' (first | (with_reducible exact Below.refl _ _) | (with_reducible assumption) | (with_reducible refine Below.alloc ?_ ?_ _) | (with_reducible refine Below.setCell ?_ ?_ _) | (with_reducible refine Below.drew ?_) | (with_reducible refine below_drewN ?_ _) | (with_reducible refine below_via ?_ (by with_reducible assumption) ?_) | omega | (simp; done) | (simp; omega)))))).mono ?_); rintro e w12 ⟨rfl, hb12⟩; obtain ⟨fc12, fg12, hc12, hf12, hz12⟩ := bget hb12; (try simp at hz12)) | fail)
  all_goals
    go_ret
    exact ⟨rfl, by (repeat' (first | (with_reducible exact Below.refl _ _) | (with_reducible assumption) | (with_reducible refine Below.alloc ?_ ?_ _) | (with_reducible refine Below.setCell ?_ ?_ _) | (with_reducible refine Below.drew ?_) | (with_reducible refine below_drewN ?_ _) | (with_reducible refine below_via ?_ (by with_reducible assumption) ?_) | omega | (simp; done) | (simp; omega)))⟩
set_option maxRecDepth 100000 in
set_option maxHeartbeats 8000000 in
theorem assetWorths21 (x : Asset) (q a : Int) (w : World) (hq : In64 q) (ha : In64 a) (h : okA x) (hq0 : ¬ q < 0) (hq64 : ¬ In64 (q * x.price)) (ha0 : a ≤ 0) :
    Calls Try.prog 6 #[.agg #[.int .i64 x.id, .int .i64 x.price, .int .i64 x.hair], .int .i64 q, .int .i64 a] w fun e w' => e = .returned (.bool true) ∧ Below w.heap.size w w' := by
  have c1 := fun W => assetWorth x q W hq
  have c2 := fun W => assetCount x q W hq
  have c3 := fun W => assetSell x a W ha
  have c4 := fun W => ref12Is x W
  rw [show worthN x q = okN (q * x.price) from if_pos h, show worthE x q = okE (q * x.price) from if_pos h] at c1
  rw [decide_eq_true h] at c4
  have hok := okA_in h
  have c5 := fun W => ref12Worth x q W hq hok.1
  have c6 := fun s l A c W h hB => law02Is (q * x.price) s l A c 500 W (by omega) h hB
  have c7 := fun s l A c W h hB => bigFits (q * x.price) s l A c 500 W (by omega) h hB
  have c8 := fun W => ref12Count x q W hq h
  have c9 := fun s l A c W h hB => law02Is (countA x q) s l A c 500 W (by omega) h hB
  have c10 := fun s l A c W h hB => law02Is (upOf a x.price) s l A c 500 W (by omega) h hB
  rw [show countN x q = 0 from if_neg (fun k => hq64 (in64_iff.1 k.2.2)), show countE x q = 7 from (if_pos h).trans ((if_neg hq0).trans (okN_no hq64).2)] at c2
  rw [in64_not' hq64] at c7
  have dq0 : decide (q < 0) = false := (by simpa using hq0)
  rw [show sellN x a = 0 from if_neg (fun k => absurd k.2.1 (by omega)), show sellE x a = 0 from (if_pos h).trans (if_neg (by omega))] at c3
  have C11 := 0
  have da0 : decide (a ≤ 0) = true := (by simp; omega)
  generalize okN (q * x.price) = wn at c1 c6
  generalize okE (q * x.price) = we at c1 c6
  generalize q * x.price = wo at c5 c6 c7
  generalize countA x q = co at c2 c8 c9
  clear hok
  have C5 := Lib.hid c5
  have C6 := Lib.hid c6
  have C7 := Lib.hid c7
  have C8 := Lib.hid c8
  have C9 := Lib.hid c9
  have C10 := Lib.hid c10
  clear c5 c6 c7 c8 c9 c10
  have C1 := Lib.hid c1
  have C2 := Lib.hid c2
  have C3 := Lib.hid c3
  have C4 := Lib.hid c4
  clear c1 c2 c3 c4
  go_enter Try.func6, Try.ntmps6
  go_wp2_with (first | (go_at_call 25; (with_reducible refine (C1.out _).mono ?_); rintro e w1 ⟨rfl, hb1⟩; obtain ⟨fc1, fg1, hc1, hf1, hz1⟩ := bget hb1; (try simp at hz1)) | (go_at_call 26; (with_reducible refine (C2.out _).mono ?_); rintro e w2 ⟨rfl, hb2⟩; obtain ⟨fc2, fg2, hc2, hf2, hz2⟩ := bget hb2; (try simp at hz2)) | (go_at_call 27; (with_reducible refine (C3.out _).mono ?_); rintro e w3 ⟨rfl, hb3⟩; obtain ⟨fc3, fg3, hc3, hf3, hz3⟩ := bget hb3; (try simp at hz3)) | (go_at_call 28; (with_reducible refine (C4.out _).mono ?_); rintro e w4 ⟨rfl, hb4⟩; obtain ⟨fc4, fg4, hc4, hf4, hz4⟩ := bget hb4; (try simp at hz4)) | (go_at_call 29; (with_reducible refine (law12lives _).mono ?_); rintro e w14 ⟨rfl, hb14⟩; obtain ⟨fc14, fg14, hc14, hf14, hz14⟩ := bget hb14; (try simp at hz14)) | (go_at_call 30; (with_reducible refine (C5.out _).mono ?_); rintro e w5 ⟨s5, A5, l5, c5, rfl, hB5, hl5, hb5⟩; have HB5 := Lib.hid hB5; clear hB5; obtain ⟨fc5, fg5, hc5, hf5, hz5⟩ := bget hb5; (try simp at hz5)) | (go_at_call 19; (with_reducible refine (C6.out s5 l5 A5 c5 _ (by omega) (HB5.out.keep (by (repeat' (first | (with_reducible exact Below.refl _ _) | (with_reducible assumption) | (with_reducible refine Below.alloc ?_ ?_ _) | (with_reducible refine Below.setCell ?_ ?_ _) | (with_reducible refine Below.drew ?_) | (with_reducible refine below_drewN ?_ _) | (with_reducible refine below_via ?_ (by with_reducible assumption) ?_) | omega | (simp; done) | (simp; omega)))))).mono ?_); rintro e w6 ⟨rfl, hb6⟩; obtain ⟨fc6, fg6, hc6, hf6, hz6⟩ := bget hb6; (try simp at hz6)) | (go_at_call 23; (with_reducible refine (C7.out s5 l5 A5 c5 _ (by omega) (HB5.out.keep (by (repeat' (first | (with_reducible exact Below.refl _ _) | (with_reducible assumption) | (with_reducible refine Below.alloc ?_ ?_ _) | (with_reducible refine Below.setCell ?_ ?_ _) | (with_reducible refine Below.drew ?_) | (with_reducible refine below_drewN ?_ _) | (with_reducible refine below_via ?_ (by with_reducible assumption) ?_) | omega | (simp; done) | (simp; omega)))))).mono ?_); rintro e w8 ⟨rfl, hb8⟩; obtain ⟨fc8, fg8, hc8, hf8, hz8⟩ := bget hb8; (try simp at hz8)) | (go_at_call 31; (with_reducible refine (C8.out _).mono ?_); rintro e w9 ⟨s9, A9, l9, c9, rfl, hB9, hl9, hb9⟩; have HB9 := Lib.hid hB9; clear hB9; obtain ⟨fc9, fg9, hc9, hf9, hz9⟩ := bget hb9; (try simp at hz9)) | (go_at_call 19; (with_reducible refine (C9.out s9 l9 A9 c9 _ (by omega) (HB9.out.keep (by (repeat' (first | (with_reducible exact Below.refl _ _) | (with_reducible assumption) | (with_reducible refine Below.alloc ?_ ?_ _) | (with_reducible refine Below.setCell ?_ ?_ _) | (with_reducible refine Below.drew ?_) | (with_reducible refine below_drewN ?_ _) | (with_reducible refine below_via ?_ (by with_reducible assumption) ?_) | omega | (simp; done) | (simp; omega)))))).mono ?_); rintro e w10 ⟨rfl, hb10⟩; obtain ⟨fc10, fg10, hc10, hf10, hz10⟩ := bget hb10; (try simp at hz10)) | (go_at_call 32; (with_reducible refine (C11.out _).mono ?_); rintro e w11 ⟨s11, A11, l11, c11, rfl, hB11, hl11, hb11⟩; have HB11 := Lib.hid hB11; clear hB11; obtain ⟨fc11, fg11, hc11, hf11, hz11⟩ := bget hb11; (try simp at hz11)) | (go_at_call 19; (with_reducible refine (C10.out s11 l11 A11 c11 _ (by omega) (HB11.out.keep (by (repeat' (first | (with_reducible exact Below.refl _ _) | (with_reducible assumption) | (with_reducible refine Below.alloc ?_ ?_ _) | (with_reducible refine Below.setCell ?_ ?_ _) | (with_reducible refine Below.drew ?_) | (with_reducible refine below_drewN ?_ _) | (with_reducible refine below_via ?_ (by with_reducible assumption) ?_) | omega | (simp; done) | (simp; omega)))))).mono ?_); rintro e w12 ⟨rfl, hb12⟩; obtain ⟨fc12, fg12, hc12, hf12, hz12⟩ := bget hb12; (try simp at hz12)) | fail)
  all_goals
    go_ret
    exact ⟨rfl, by (repeat' (first | (with_reducible exact Below.refl _ _) | (with_reducible assumption) | (with_reducible refine Below.alloc ?_ ?_ _) | (with_reducible refine Below.setCell ?_ ?_ _) | (with_reducible refine Below.drew ?_) | (with_reducible refine below_drewN ?_ _) | (with_reducible refine below_via ?_ (by with_reducible assumption) ?_) | omega | (simp; done) | (simp; omega)))⟩
set_option maxRecDepth 100000 in
set_option maxHeartbeats 8000000 in
theorem assetWorths23 (x : Asset) (q a : Int) (w : World) (hq : In64 q) (ha : In64 a) (h : okA x) (hq0 : ¬ q < 0) (hq64 : ¬ In64 (q * x.price)) (ha0 : 0 < a) (hp0 : 0 < x.price) :
    Calls Try.prog 6 #[.agg #[.int .i64 x.id, .int .i64 x.price, .int .i64 x.hair], .int .i64 q, .int .i64 a] w fun e w' => e = .returned (.bool true) ∧ Below w.heap.size w w' := by
  have c1 := fun W => assetWorth x q W hq
  have c2 := fun W => assetCount x q W hq
  have c3 := fun W => assetSell x a W ha
  have c4 := fun W => ref12Is x W
  rw [show worthN x q = okN (q * x.price) from if_pos h, show worthE x q = okE (q * x.price) from if_pos h] at c1
  rw [decide_eq_true h] at c4
  have hok := okA_in h
  have c5 := fun W => ref12Worth x q W hq hok.1
  have c6 := fun s l A c W h hB => law02Is (q * x.price) s l A c 500 W (by omega) h hB
  have c7 := fun s l A c W h hB => bigFits (q * x.price) s l A c 500 W (by omega) h hB
  have c8 := fun W => ref12Count x q W hq h
  have c9 := fun s l A c W h hB => law02Is (countA x q) s l A c 500 W (by omega) h hB
  have c10 := fun s l A c W h hB => law02Is (upOf a x.price) s l A c 500 W (by omega) h hB
  rw [show countN x q = 0 from if_neg (fun k => hq64 (in64_iff.1 k.2.2)), show countE x q = 7 from (if_pos h).trans ((if_neg hq0).trans (okN_no hq64).2)] at c2
  rw [in64_not' hq64] at c7
  have dq0 : decide (q < 0) = false := (by simpa using hq0)
  rw [show sellN x a = upOf a x.price from if_pos ⟨h, ha0, hp0⟩, show sellE x a = 0 from (if_pos h).trans ((if_pos ha0).trans (if_pos hp0))] at c3
  have C11 := Lib.hid (fun W => ref12Sell x a W ha h hp0)
  have hk := okN_yes (upOf_in ha ha0 hp0)
  rw [hk.1, hk.2] at c10
  clear hk
  have da0 : decide (a ≤ 0) = false := (by simp; omega)
  have dp0 : (x.price == 0) = false := (by simp; omega)
  clear hp0
  generalize okN (q * x.price) = wn at c1 c6
  generalize okE (q * x.price) = we at c1 c6
  generalize q * x.price = wo at c5 c6 c7
  generalize countA x q = co at c2 c8 c9
  clear hok
  have C5 := Lib.hid c5
  have C6 := Lib.hid c6
  have C7 := Lib.hid c7
  have C8 := Lib.hid c8
  have C9 := Lib.hid c9
  have C10 := Lib.hid c10
  clear c5 c6 c7 c8 c9 c10
  have C1 := Lib.hid c1
  have C2 := Lib.hid c2
  have C3 := Lib.hid c3
  have C4 := Lib.hid c4
  clear c1 c2 c3 c4
  go_enter Try.func6, Try.ntmps6
  go_wp2_with (first | (go_at_call 25; (with_reducible refine (C1.out _).mono ?_); rintro e w1 ⟨rfl, hb1⟩; obtain ⟨fc1, fg1, hc1, hf1, hz1⟩ := bget hb1; (try simp at hz1)) | (go_at_call 26; (with_reducible refine (C2.out _).mono ?_); rintro e w2 ⟨rfl, hb2⟩; obtain ⟨fc2, fg2, hc2, hf2, hz2⟩ := bget hb2; (try simp at hz2)) | (go_at_call 27; (with_reducible refine (C3.out _).mono ?_); rintro e w3 ⟨rfl, hb3⟩; obtain ⟨fc3, fg3, hc3, hf3, hz3⟩ := bget hb3; (try simp at hz3)) | (go_at_call 28; (with_reducible refine (C4.out _).mono ?_); rintro e w4 ⟨rfl, hb4⟩; obtain ⟨fc4, fg4, hc4, hf4, hz4⟩ := bget hb4; (try simp at hz4)) | (go_at_call 29; (with_reducible refine (law12lives _).mono ?_); rintro e w14 ⟨rfl, hb14⟩; obtain ⟨fc14, fg14, hc14, hf14, hz14⟩ := bget hb14; (try simp at hz14)) | (go_at_call 30; (with_reducible refine (C5.out _).mono ?_); rintro e w5 ⟨s5, A5, l5, c5, rfl, hB5, hl5, hb5⟩; have HB5 := Lib.hid hB5; clear hB5; obtain ⟨fc5, fg5, hc5, hf5, hz5⟩ := bget hb5; (try simp at hz5)) | (go_at_call 19; (with_reducible refine (C6.out s5 l5 A5 c5 _ (by omega) (HB5.out.keep (by (repeat' (first | (with_reducible exact Below.refl _ _) | (with_reducible assumption) | (with_reducible refine Below.alloc ?_ ?_ _) | (with_reducible refine Below.setCell ?_ ?_ _) | (with_reducible refine Below.drew ?_) | (with_reducible refine below_drewN ?_ _) | (with_reducible refine below_via ?_ (by with_reducible assumption) ?_) | omega | (simp; done) | (simp; omega)))))).mono ?_); rintro e w6 ⟨rfl, hb6⟩; obtain ⟨fc6, fg6, hc6, hf6, hz6⟩ := bget hb6; (try simp at hz6)) | (go_at_call 23; (with_reducible refine (C7.out s5 l5 A5 c5 _ (by omega) (HB5.out.keep (by (repeat' (first | (with_reducible exact Below.refl _ _) | (with_reducible assumption) | (with_reducible refine Below.alloc ?_ ?_ _) | (with_reducible refine Below.setCell ?_ ?_ _) | (with_reducible refine Below.drew ?_) | (with_reducible refine below_drewN ?_ _) | (with_reducible refine below_via ?_ (by with_reducible assumption) ?_) | omega | (simp; done) | (simp; omega)))))).mono ?_); rintro e w8 ⟨rfl, hb8⟩; obtain ⟨fc8, fg8, hc8, hf8, hz8⟩ := bget hb8; (try simp at hz8)) | (go_at_call 31; (with_reducible refine (C8.out _).mono ?_); rintro e w9 ⟨s9, A9, l9, c9, rfl, hB9, hl9, hb9⟩; have HB9 := Lib.hid hB9; clear hB9; obtain ⟨fc9, fg9, hc9, hf9, hz9⟩ := bget hb9; (try simp at hz9)) | (go_at_call 19; (with_reducible refine (C9.out s9 l9 A9 c9 _ (by omega) (HB9.out.keep (by (repeat' (first | (with_reducible exact Below.refl _ _) | (with_reducible assumption) | (with_reducible refine Below.alloc ?_ ?_ _) | (with_reducible refine Below.setCell ?_ ?_ _) | (with_reducible refine Below.drew ?_) | (with_reducible refine below_drewN ?_ _) | (with_reducible refine below_via ?_ (by with_reducible assumption) ?_) | omega | (simp; done) | (simp; omega)))))).mono ?_); rintro e w10 ⟨rfl, hb10⟩; obtain ⟨fc10, fg10, hc10, hf10, hz10⟩ := bget hb10; (try simp at hz10)) | (go_at_call 32; (with_reducible refine (C11.out _).mono ?_); rintro e w11 ⟨s11, A11, l11, c11, rfl, hB11, hl11, hb11⟩; have HB11 := Lib.hid hB11; clear hB11; obtain ⟨fc11, fg11, hc11, hf11, hz11⟩ := bget hb11; (try simp at hz11)) | (go_at_call 19; (with_reducible refine (C10.out s11 l11 A11 c11 _ (by omega) (HB11.out.keep (by (repeat' (first | (with_reducible exact Below.refl _ _) | (with_reducible assumption) | (with_reducible refine Below.alloc ?_ ?_ _) | (with_reducible refine Below.setCell ?_ ?_ _) | (with_reducible refine Below.drew ?_) | (with_reducible refine below_drewN ?_ _) | (with_reducible refine below_via ?_ (by with_reducible assumption) ?_) | omega | (simp; done) | (simp; omega)))))).mono ?_); rintro e w12 ⟨rfl, hb12⟩; obtain ⟨fc12, fg12, hc12, hf12, hz12⟩ := bget hb12; (try simp at hz12)) | fail)
  all_goals
    go_ret
    exact ⟨rfl, by (repeat' (first | (with_reducible exact Below.refl _ _) | (with_reducible assumption) | (with_reducible refine Below.alloc ?_ ?_ _) | (with_reducible refine Below.setCell ?_ ?_ _) | (with_reducible refine Below.drew ?_) | (with_reducible refine below_drewN ?_ _) | (with_reducible refine below_via ?_ (by with_reducible assumption) ?_) | omega | (simp; done) | (simp; omega)))⟩
set_option maxRecDepth 100000 in
set_option maxHeartbeats 8000000 in
theorem assetWorths31 (x : Asset) (q a : Int) (w : World) (hq : In64 q) (ha : In64 a) (h : okA x) (hq0 : ¬ q < 0) (hq64 : In64 (q * x.price)) (ha0 : a ≤ 0) :
    Calls Try.prog 6 #[.agg #[.int .i64 x.id, .int .i64 x.price, .int .i64 x.hair], .int .i64 q, .int .i64 a] w fun e w' => e = .returned (.bool true) ∧ Below w.heap.size w w' := by
  have c1 := fun W => assetWorth x q W hq
  have c2 := fun W => assetCount x q W hq
  have c3 := fun W => assetSell x a W ha
  have c4 := fun W => ref12Is x W
  rw [show worthN x q = okN (q * x.price) from if_pos h, show worthE x q = okE (q * x.price) from if_pos h] at c1
  rw [decide_eq_true h] at c4
  have hok := okA_in h
  have c5 := fun W => ref12Worth x q W hq hok.1
  have c6 := fun s l A c W h hB => law02Is (q * x.price) s l A c 500 W (by omega) h hB
  have c7 := fun s l A c W h hB => bigFits (q * x.price) s l A c 500 W (by omega) h hB
  have c8 := fun W => ref12Count x q W hq h
  have c9 := fun s l A c W h hB => law02Is (countA x q) s l A c 500 W (by omega) h hB
  have c10 := fun s l A c W h hB => law02Is (upOf a x.price) s l A c 500 W (by omega) h hB
  have hcl := count_le h (show 0 ≤ q by omega)
  have hc64 : In64 (countA x q) := (by unfold In64 at hq64 ⊢; omega)
  rw [show countN x q = countA x q from if_pos ⟨h, by omega, in64_iff.2 hq64⟩, show countE x q = 0 from (if_pos h).trans ((if_neg hq0).trans (okN_yes hq64).2)] at c2
  rw [in64_iff.2 hq64] at c7
  rw [(okN_yes hc64).1, (okN_yes hc64).2] at c9
  clear hcl hc64
  have dq0 : decide (q < 0) = false := (by simpa using hq0)
  rw [show sellN x a = 0 from if_neg (fun k => absurd k.2.1 (by omega)), show sellE x a = 0 from (if_pos h).trans (if_neg (by omega))] at c3
  have C11 := 0
  have da0 : decide (a ≤ 0) = true := (by simp; omega)
  generalize okN (q * x.price) = wn at c1 c6
  generalize okE (q * x.price) = we at c1 c6
  generalize q * x.price = wo at c5 c6 c7
  generalize countA x q = co at c2 c8 c9
  clear hok
  have C5 := Lib.hid c5
  have C6 := Lib.hid c6
  have C7 := Lib.hid c7
  have C8 := Lib.hid c8
  have C9 := Lib.hid c9
  have C10 := Lib.hid c10
  clear c5 c6 c7 c8 c9 c10
  have C1 := Lib.hid c1
  have C2 := Lib.hid c2
  have C3 := Lib.hid c3
  have C4 := Lib.hid c4
  clear c1 c2 c3 c4
  go_enter Try.func6, Try.ntmps6
  go_wp2_with (first | (go_at_call 25; (with_reducible refine (C1.out _).mono ?_); rintro e w1 ⟨rfl, hb1⟩; obtain ⟨fc1, fg1, hc1, hf1, hz1⟩ := bget hb1; (try simp at hz1)) | (go_at_call 26; (with_reducible refine (C2.out _).mono ?_); rintro e w2 ⟨rfl, hb2⟩; obtain ⟨fc2, fg2, hc2, hf2, hz2⟩ := bget hb2; (try simp at hz2)) | (go_at_call 27; (with_reducible refine (C3.out _).mono ?_); rintro e w3 ⟨rfl, hb3⟩; obtain ⟨fc3, fg3, hc3, hf3, hz3⟩ := bget hb3; (try simp at hz3)) | (go_at_call 28; (with_reducible refine (C4.out _).mono ?_); rintro e w4 ⟨rfl, hb4⟩; obtain ⟨fc4, fg4, hc4, hf4, hz4⟩ := bget hb4; (try simp at hz4)) | (go_at_call 29; (with_reducible refine (law12lives _).mono ?_); rintro e w14 ⟨rfl, hb14⟩; obtain ⟨fc14, fg14, hc14, hf14, hz14⟩ := bget hb14; (try simp at hz14)) | (go_at_call 30; (with_reducible refine (C5.out _).mono ?_); rintro e w5 ⟨s5, A5, l5, c5, rfl, hB5, hl5, hb5⟩; have HB5 := Lib.hid hB5; clear hB5; obtain ⟨fc5, fg5, hc5, hf5, hz5⟩ := bget hb5; (try simp at hz5)) | (go_at_call 19; (with_reducible refine (C6.out s5 l5 A5 c5 _ (by omega) (HB5.out.keep (by (repeat' (first | (with_reducible exact Below.refl _ _) | (with_reducible assumption) | (with_reducible refine Below.alloc ?_ ?_ _) | (with_reducible refine Below.setCell ?_ ?_ _) | (with_reducible refine Below.drew ?_) | (with_reducible refine below_drewN ?_ _) | (with_reducible refine below_via ?_ (by with_reducible assumption) ?_) | omega | (simp; done) | (simp; omega)))))).mono ?_); rintro e w6 ⟨rfl, hb6⟩; obtain ⟨fc6, fg6, hc6, hf6, hz6⟩ := bget hb6; (try simp at hz6)) | (go_at_call 23; (with_reducible refine (C7.out s5 l5 A5 c5 _ (by omega) (HB5.out.keep (by (repeat' (first | (with_reducible exact Below.refl _ _) | (with_reducible assumption) | (with_reducible refine Below.alloc ?_ ?_ _) | (with_reducible refine Below.setCell ?_ ?_ _) | (with_reducible refine Below.drew ?_) | (with_reducible refine below_drewN ?_ _) | (with_reducible refine below_via ?_ (by with_reducible assumption) ?_) | omega | (simp; done) | (simp; omega)))))).mono ?_); rintro e w8 ⟨rfl, hb8⟩; obtain ⟨fc8, fg8, hc8, hf8, hz8⟩ := bget hb8; (try simp at hz8)) | (go_at_call 31; (with_reducible refine (C8.out _).mono ?_); rintro e w9 ⟨s9, A9, l9, c9, rfl, hB9, hl9, hb9⟩; have HB9 := Lib.hid hB9; clear hB9; obtain ⟨fc9, fg9, hc9, hf9, hz9⟩ := bget hb9; (try simp at hz9)) | (go_at_call 19; (with_reducible refine (C9.out s9 l9 A9 c9 _ (by omega) (HB9.out.keep (by (repeat' (first | (with_reducible exact Below.refl _ _) | (with_reducible assumption) | (with_reducible refine Below.alloc ?_ ?_ _) | (with_reducible refine Below.setCell ?_ ?_ _) | (with_reducible refine Below.drew ?_) | (with_reducible refine below_drewN ?_ _) | (with_reducible refine below_via ?_ (by with_reducible assumption) ?_) | omega | (simp; done) | (simp; omega)))))).mono ?_); rintro e w10 ⟨rfl, hb10⟩; obtain ⟨fc10, fg10, hc10, hf10, hz10⟩ := bget hb10; (try simp at hz10)) | (go_at_call 32; (with_reducible refine (C11.out _).mono ?_); rintro e w11 ⟨s11, A11, l11, c11, rfl, hB11, hl11, hb11⟩; have HB11 := Lib.hid hB11; clear hB11; obtain ⟨fc11, fg11, hc11, hf11, hz11⟩ := bget hb11; (try simp at hz11)) | (go_at_call 19; (with_reducible refine (C10.out s11 l11 A11 c11 _ (by omega) (HB11.out.keep (by (repeat' (first | (with_reducible exact Below.refl _ _) | (with_reducible assumption) | (with_reducible refine Below.alloc ?_ ?_ _) | (with_reducible refine Below.setCell ?_ ?_ _) | (with_reducible refine Below.drew ?_) | (with_reducible refine below_drewN ?_ _) | (with_reducible refine below_via ?_ (by with_reducible assumption) ?_) | omega | (simp; done) | (simp; omega)))))).mono ?_); rintro e w12 ⟨rfl, hb12⟩; obtain ⟨fc12, fg12, hc12, hf12, hz12⟩ := bget hb12; (try simp at hz12)) | fail)
  all_goals
    go_ret
    exact ⟨rfl, by (repeat' (first | (with_reducible exact Below.refl _ _) | (with_reducible assumption) | (with_reducible refine Below.alloc ?_ ?_ _) | (with_reducible refine Below.setCell ?_ ?_ _) | (with_reducible refine Below.drew ?_) | (with_reducible refine below_drewN ?_ _) | (with_reducible refine below_via ?_ (by with_reducible assumption) ?_) | omega | (simp; done) | (simp; omega)))⟩
set_option maxRecDepth 100000 in
set_option maxHeartbeats 8000000 in
theorem assetWorths32 (x : Asset) (q a : Int) (w : World) (hq : In64 q) (ha : In64 a) (h : okA x) (hq0 : ¬ q < 0) (hq64 : In64 (q * x.price)) (ha0 : 0 < a) (hp0 : x.price = 0) :
    Calls Try.prog 6 #[.agg #[.int .i64 x.id, .int .i64 x.price, .int .i64 x.hair], .int .i64 q, .int .i64 a] w fun e w' => e = .returned (.bool true) ∧ Below w.heap.size w w' := by
  have c1 := fun W => assetWorth x q W hq
  have c2 := fun W => assetCount x q W hq
  have c3 := fun W => assetSell x a W ha
  have c4 := fun W => ref12Is x W
  rw [show worthN x q = okN (q * x.price) from if_pos h, show worthE x q = okE (q * x.price) from if_pos h] at c1
  rw [decide_eq_true h] at c4
  have hok := okA_in h
  have c5 := fun W => ref12Worth x q W hq hok.1
  have c6 := fun s l A c W h hB => law02Is (q * x.price) s l A c 500 W (by omega) h hB
  have c7 := fun s l A c W h hB => bigFits (q * x.price) s l A c 500 W (by omega) h hB
  have c8 := fun W => ref12Count x q W hq h
  have c9 := fun s l A c W h hB => law02Is (countA x q) s l A c 500 W (by omega) h hB
  have c10 := fun s l A c W h hB => law02Is (upOf a x.price) s l A c 500 W (by omega) h hB
  have hcl := count_le h (show 0 ≤ q by omega)
  have hc64 : In64 (countA x q) := (by unfold In64 at hq64 ⊢; omega)
  rw [show countN x q = countA x q from if_pos ⟨h, by omega, in64_iff.2 hq64⟩, show countE x q = 0 from (if_pos h).trans ((if_neg hq0).trans (okN_yes hq64).2)] at c2
  rw [in64_iff.2 hq64] at c7
  rw [(okN_yes hc64).1, (okN_yes hc64).2] at c9
  clear hcl hc64
  have dq0 : decide (q < 0) = false := (by simpa using hq0)
  rw [show sellN x a = 0 from if_neg (fun k => absurd k.2.2 (by omega)), show sellE x a = 8 from (if_pos h).trans ((if_pos ha0).trans (if_neg (by omega)))] at c3
  have C11 := 0
  have da0 : decide (a ≤ 0) = false := (by simp; omega)
  have dp0 : (x.price == 0) = true := (by simp; omega)
  clear hp0
  generalize okN (q * x.price) = wn at c1 c6
  generalize okE (q * x.price) = we at c1 c6
  generalize q * x.price = wo at c5 c6 c7
  generalize countA x q = co at c2 c8 c9
  clear hok
  have C5 := Lib.hid c5
  have C6 := Lib.hid c6
  have C7 := Lib.hid c7
  have C8 := Lib.hid c8
  have C9 := Lib.hid c9
  have C10 := Lib.hid c10
  clear c5 c6 c7 c8 c9 c10
  have C1 := Lib.hid c1
  have C2 := Lib.hid c2
  have C3 := Lib.hid c3
  have C4 := Lib.hid c4
  clear c1 c2 c3 c4
  go_enter Try.func6, Try.ntmps6
  go_wp2_with (first | (go_at_call 25; (with_reducible refine (C1.out _).mono ?_); rintro e w1 ⟨rfl, hb1⟩; obtain ⟨fc1, fg1, hc1, hf1, hz1⟩ := bget hb1; (try simp at hz1)) | (go_at_call 26; (with_reducible refine (C2.out _).mono ?_); rintro e w2 ⟨rfl, hb2⟩; obtain ⟨fc2, fg2, hc2, hf2, hz2⟩ := bget hb2; (try simp at hz2)) | (go_at_call 27; (with_reducible refine (C3.out _).mono ?_); rintro e w3 ⟨rfl, hb3⟩; obtain ⟨fc3, fg3, hc3, hf3, hz3⟩ := bget hb3; (try simp at hz3)) | (go_at_call 28; (with_reducible refine (C4.out _).mono ?_); rintro e w4 ⟨rfl, hb4⟩; obtain ⟨fc4, fg4, hc4, hf4, hz4⟩ := bget hb4; (try simp at hz4)) | (go_at_call 29; (with_reducible refine (law12lives _).mono ?_); rintro e w14 ⟨rfl, hb14⟩; obtain ⟨fc14, fg14, hc14, hf14, hz14⟩ := bget hb14; (try simp at hz14)) | (go_at_call 30; (with_reducible refine (C5.out _).mono ?_); rintro e w5 ⟨s5, A5, l5, c5, rfl, hB5, hl5, hb5⟩; have HB5 := Lib.hid hB5; clear hB5; obtain ⟨fc5, fg5, hc5, hf5, hz5⟩ := bget hb5; (try simp at hz5)) | (go_at_call 19; (with_reducible refine (C6.out s5 l5 A5 c5 _ (by omega) (HB5.out.keep (by (repeat' (first | (with_reducible exact Below.refl _ _) | (with_reducible assumption) | (with_reducible refine Below.alloc ?_ ?_ _) | (with_reducible refine Below.setCell ?_ ?_ _) | (with_reducible refine Below.drew ?_) | (with_reducible refine below_drewN ?_ _) | (with_reducible refine below_via ?_ (by with_reducible assumption) ?_) | omega | (simp; done) | (simp; omega)))))).mono ?_); rintro e w6 ⟨rfl, hb6⟩; obtain ⟨fc6, fg6, hc6, hf6, hz6⟩ := bget hb6; (try simp at hz6)) | (go_at_call 23; (with_reducible refine (C7.out s5 l5 A5 c5 _ (by omega) (HB5.out.keep (by (repeat' (first | (with_reducible exact Below.refl _ _) | (with_reducible assumption) | (with_reducible refine Below.alloc ?_ ?_ _) | (with_reducible refine Below.setCell ?_ ?_ _) | (with_reducible refine Below.drew ?_) | (with_reducible refine below_drewN ?_ _) | (with_reducible refine below_via ?_ (by with_reducible assumption) ?_) | omega | (simp; done) | (simp; omega)))))).mono ?_); rintro e w8 ⟨rfl, hb8⟩; obtain ⟨fc8, fg8, hc8, hf8, hz8⟩ := bget hb8; (try simp at hz8)) | (go_at_call 31; (with_reducible refine (C8.out _).mono ?_); rintro e w9 ⟨s9, A9, l9, c9, rfl, hB9, hl9, hb9⟩; have HB9 := Lib.hid hB9; clear hB9; obtain ⟨fc9, fg9, hc9, hf9, hz9⟩ := bget hb9; (try simp at hz9)) | (go_at_call 19; (with_reducible refine (C9.out s9 l9 A9 c9 _ (by omega) (HB9.out.keep (by (repeat' (first | (with_reducible exact Below.refl _ _) | (with_reducible assumption) | (with_reducible refine Below.alloc ?_ ?_ _) | (with_reducible refine Below.setCell ?_ ?_ _) | (with_reducible refine Below.drew ?_) | (with_reducible refine below_drewN ?_ _) | (with_reducible refine below_via ?_ (by with_reducible assumption) ?_) | omega | (simp; done) | (simp; omega)))))).mono ?_); rintro e w10 ⟨rfl, hb10⟩; obtain ⟨fc10, fg10, hc10, hf10, hz10⟩ := bget hb10; (try simp at hz10)) | (go_at_call 32; (with_reducible refine (C11.out _).mono ?_); rintro e w11 ⟨s11, A11, l11, c11, rfl, hB11, hl11, hb11⟩; have HB11 := Lib.hid hB11; clear hB11; obtain ⟨fc11, fg11, hc11, hf11, hz11⟩ := bget hb11; (try simp at hz11)) | (go_at_call 19; (with_reducible refine (C10.out s11 l11 A11 c11 _ (by omega) (HB11.out.keep (by (repeat' (first | (with_reducible exact Below.refl _ _) | (with_reducible assumption) | (with_reducible refine Below.alloc ?_ ?_ _) | (with_reducible refine Below.setCell ?_ ?_ _) | (with_reducible refine Below.drew ?_) | (with_reducible refine below_drewN ?_ _) | (with_reducible refine below_via ?_ (by with_reducible assumption) ?_) | omega | (simp; done) | (simp; omega)))))).mono ?_); rintro e w12 ⟨rfl, hb12⟩; obtain ⟨fc12, fg12, hc12, hf12, hz12⟩ := bget hb12; (try simp at hz12)) | fail)
  all_goals
    go_ret
    exact ⟨rfl, by (repeat' (first | (with_reducible exact Below.refl _ _) | (with_reducible assumption) | (with_reducible refine Below.alloc ?_ ?_ _) | (with_reducible refine Below.setCell ?_ ?_ _) | (with_reducible refine Below.drew ?_) | (with_reducible refine below_drewN ?_ _) | (with_reducible refine below_via ?_ (by with_reducible assumption) ?_) | omega | (simp; done) | (simp; omega)))⟩
set_option maxRecDepth 100000 in
set_option maxHeartbeats 8000000 in
theorem assetWorths33 (x : Asset) (q a : Int) (w : World) (hq : In64 q) (ha : In64 a) (h : okA x) (hq0 : ¬ q < 0) (hq64 : In64 (q * x.price)) (ha0 : 0 < a) (hp0 : 0 < x.price) :
    Calls Try.prog 6 #[.agg #[.int .i64 x.id, .int .i64 x.price, .int .i64 x.hair], .int .i64 q, .int .i64 a] w fun e w' => e = .returned (.bool true) ∧ Below w.heap.size w w' := by
  have c1 := fun W => assetWorth x q W hq
  have c2 := fun W => assetCount x q W hq
  have c3 := fun W => assetSell x a W ha
  have c4 := fun W => ref12Is x W
  rw [show worthN x q = okN (q * x.price) from if_pos h, show worthE x q = okE (q * x.price) from if_pos h] at c1
  rw [decide_eq_true h] at c4
  have hok := okA_in h
  have c5 := fun W => ref12Worth x q W hq hok.1
  have c6 := fun s l A c W h hB => law02Is (q * x.price) s l A c 500 W (by omega) h hB
  have c7 := fun s l A c W h hB => bigFits (q * x.price) s l A c 500 W (by omega) h hB
  have c8 := fun W => ref12Count x q W hq h
  have c9 := fun s l A c W h hB => law02Is (countA x q) s l A c 500 W (by omega) h hB
  have c10 := fun s l A c W h hB => law02Is (upOf a x.price) s l A c 500 W (by omega) h hB
  have hcl := count_le h (show 0 ≤ q by omega)
  have hc64 : In64 (countA x q) := (by unfold In64 at hq64 ⊢; omega)
  rw [show countN x q = countA x q from if_pos ⟨h, by omega, in64_iff.2 hq64⟩, show countE x q = 0 from (if_pos h).trans ((if_neg hq0).trans (okN_yes hq64).2)] at c2
  rw [in64_iff.2 hq64] at c7
  rw [(okN_yes hc64).1, (okN_yes hc64).2] at c9
  clear hcl hc64
  have dq0 : decide (q < 0) = false := (by simpa using hq0)
  rw [show sellN x a = upOf a x.price from if_pos ⟨h, ha0, hp0⟩, show sellE x a = 0 from (if_pos h).trans ((if_pos ha0).trans (if_pos hp0))] at c3
  have C11 := Lib.hid (fun W => ref12Sell x a W ha h hp0)
  have hk := okN_yes (upOf_in ha ha0 hp0)
  rw [hk.1, hk.2] at c10
  clear hk
  have da0 : decide (a ≤ 0) = false := (by simp; omega)
  have dp0 : (x.price == 0) = false := (by simp; omega)
  clear hp0
  generalize okN (q * x.price) = wn at c1 c6
  generalize okE (q * x.price) = we at c1 c6
  generalize q * x.price = wo at c5 c6 c7
  generalize countA x q = co at c2 c8 c9
  clear hok
  have C5 := Lib.hid c5
  have C6 := Lib.hid c6
  have C7 := Lib.hid c7
  have C8 := Lib.hid c8
  have C9 := Lib.hid c9
  have C10 := Lib.hid c10
  clear c5 c6 c7 c8 c9 c10
  have C1 := Lib.hid c1
  have C2 := Lib.hid c2
  have C3 := Lib.hid c3
  have C4 := Lib.hid c4
  clear c1 c2 c3 c4
  go_enter Try.func6, Try.ntmps6
  go_wp2_with (first | (go_at_call 25; (with_reducible refine (C1.out _).mono ?_); rintro e w1 ⟨rfl, hb1⟩; obtain ⟨fc1, fg1, hc1, hf1, hz1⟩ := bget hb1; (try simp at hz1)) | (go_at_call 26; (with_reducible refine (C2.out _).mono ?_); rintro e w2 ⟨rfl, hb2⟩; obtain ⟨fc2, fg2, hc2, hf2, hz2⟩ := bget hb2; (try simp at hz2)) | (go_at_call 27; (with_reducible refine (C3.out _).mono ?_); rintro e w3 ⟨rfl, hb3⟩; obtain ⟨fc3, fg3, hc3, hf3, hz3⟩ := bget hb3; (try simp at hz3)) | (go_at_call 28; (with_reducible refine (C4.out _).mono ?_); rintro e w4 ⟨rfl, hb4⟩; obtain ⟨fc4, fg4, hc4, hf4, hz4⟩ := bget hb4; (try simp at hz4)) | (go_at_call 29; (with_reducible refine (law12lives _).mono ?_); rintro e w14 ⟨rfl, hb14⟩; obtain ⟨fc14, fg14, hc14, hf14, hz14⟩ := bget hb14; (try simp at hz14)) | (go_at_call 30; (with_reducible refine (C5.out _).mono ?_); rintro e w5 ⟨s5, A5, l5, c5, rfl, hB5, hl5, hb5⟩; have HB5 := Lib.hid hB5; clear hB5; obtain ⟨fc5, fg5, hc5, hf5, hz5⟩ := bget hb5; (try simp at hz5)) | (go_at_call 19; (with_reducible refine (C6.out s5 l5 A5 c5 _ (by omega) (HB5.out.keep (by (repeat' (first | (with_reducible exact Below.refl _ _) | (with_reducible assumption) | (with_reducible refine Below.alloc ?_ ?_ _) | (with_reducible refine Below.setCell ?_ ?_ _) | (with_reducible refine Below.drew ?_) | (with_reducible refine below_drewN ?_ _) | (with_reducible refine below_via ?_ (by with_reducible assumption) ?_) | omega | (simp; done) | (simp; omega)))))).mono ?_); rintro e w6 ⟨rfl, hb6⟩; obtain ⟨fc6, fg6, hc6, hf6, hz6⟩ := bget hb6; (try simp at hz6)) | (go_at_call 23; (with_reducible refine (C7.out s5 l5 A5 c5 _ (by omega) (HB5.out.keep (by (repeat' (first | (with_reducible exact Below.refl _ _) | (with_reducible assumption) | (with_reducible refine Below.alloc ?_ ?_ _) | (with_reducible refine Below.setCell ?_ ?_ _) | (with_reducible refine Below.drew ?_) | (with_reducible refine below_drewN ?_ _) | (with_reducible refine below_via ?_ (by with_reducible assumption) ?_) | omega | (simp; done) | (simp; omega)))))).mono ?_); rintro e w8 ⟨rfl, hb8⟩; obtain ⟨fc8, fg8, hc8, hf8, hz8⟩ := bget hb8; (try simp at hz8)) | (go_at_call 31; (with_reducible refine (C8.out _).mono ?_); rintro e w9 ⟨s9, A9, l9, c9, rfl, hB9, hl9, hb9⟩; have HB9 := Lib.hid hB9; clear hB9; obtain ⟨fc9, fg9, hc9, hf9, hz9⟩ := bget hb9; (try simp at hz9)) | (go_at_call 19; (with_reducible refine (C9.out s9 l9 A9 c9 _ (by omega) (HB9.out.keep (by (repeat' (first | (with_reducible exact Below.refl _ _) | (with_reducible assumption) | (with_reducible refine Below.alloc ?_ ?_ _) | (with_reducible refine Below.setCell ?_ ?_ _) | (with_reducible refine Below.drew ?_) | (with_reducible refine below_drewN ?_ _) | (with_reducible refine below_via ?_ (by with_reducible assumption) ?_) | omega | (simp; done) | (simp; omega)))))).mono ?_); rintro e w10 ⟨rfl, hb10⟩; obtain ⟨fc10, fg10, hc10, hf10, hz10⟩ := bget hb10; (try simp at hz10)) | (go_at_call 32; (with_reducible refine (C11.out _).mono ?_); rintro e w11 ⟨s11, A11, l11, c11, rfl, hB11, hl11, hb11⟩; have HB11 := Lib.hid hB11; clear hB11; obtain ⟨fc11, fg11, hc11, hf11, hz11⟩ := bget hb11; (try simp at hz11)) | (go_at_call 19; (with_reducible refine (C10.out s11 l11 A11 c11 _ (by omega) (HB11.out.keep (by (repeat' (first | (with_reducible exact Below.refl _ _) | (with_reducible assumption) | (with_reducible refine Below.alloc ?_ ?_ _) | (with_reducible refine Below.setCell ?_ ?_ _) | (with_reducible refine Below.drew ?_) | (with_reducible refine below_drewN ?_ _) | (with_reducible refine below_via ?_ (by with_reducible assumption) ?_) | omega | (simp; done) | (simp; omega)))))).mono ?_); rintro e w12 ⟨rfl, hb12⟩; obtain ⟨fc12, fg12, hc12, hf12, hz12⟩ := bget hb12; (try simp at hz12)) | fail)
  all_goals
    go_ret
    exact ⟨rfl, by (repeat' (first | (with_reducible exact Below.refl _ _) | (with_reducible assumption) | (with_reducible refine Below.alloc ?_ ?_ _) | (with_reducible refine Below.setCell ?_ ?_ _) | (with_reducible refine Below.drew ?_) | (with_reducible refine below_drewN ?_ _) | (with_reducible refine below_via ?_ (by with_reducible assumption) ?_) | omega | (simp; done) | (simp; omega)))⟩
theorem assetWorths (x : Asset) (q a : Int) (w : World) (hq : In64 q) (ha : In64 a) :
    Calls Try.prog 6 #[.agg #[.int .i64 x.id, .int .i64 x.price, .int .i64 x.hair], .int .i64 q, .int .i64 a] w fun e w' => e = .returned (.bool true) ∧ Below w.heap.size w w' := by
  by_cases h : okA x
  · have hp := h.2.2.1
    by_cases hq0 : q < 0
    · by_cases ha0 : 0 < a
      · by_cases hp0 : 0 < x.price
        · exact assetWorths13 x q a w hq ha h hq0 ha0 hp0
        · exact assetWorths12 x q a w hq ha h hq0 ha0 (by omega)
      · exact assetWorths11 x q a w hq ha h hq0 (by omega)
    · by_cases hq64 : In64 (q * x.price)
      · by_cases ha0 : 0 < a
        · by_cases hp0 : 0 < x.price
          · exact assetWorths33 x q a w hq ha h hq0 hq64 ha0 hp0
          · exact assetWorths32 x q a w hq ha h hq0 hq64 ha0 (by omega)
        · exact assetWorths31 x q a w hq ha h hq0 hq64 (by omega)
      · by_cases ha0 : 0 < a
        · by_cases hp0 : 0 < x.price
          · exact assetWorths23 x q a w hq ha h hq0 hq64 ha0 hp0
          · exfalso; apply hq64; rw [show x.price = 0 by omega, Int.mul_zero]; unfold In64; omega
        · exact assetWorths21 x q a w hq ha h hq0 hq64 (by omega)
  · exact assetWorthsNot x q a w hq ha h
end Go.Proofs.Ytpjehhkmdndcmaa
