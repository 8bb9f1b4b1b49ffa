/- Choices: the law ElectTurns. -/
import Derived.Test.YtffmljkpbgohkaaElect16
import Derived.Test.YtffmljkpbgohkaaElect17
import Derived.Outline
namespace Go.Proofs.Ytffmljkpbgohkaa
open Go.RowKit
set_option maxRecDepth 100000 in
set_option maxHeartbeats 8000000 in
theorem electTurns_same (l0 l : List Choice) (a b x y : Un) (A : Option Addr) (c : Nat) (w : World) (HR : Hid (Rs w 5 (l0.map encChoice) A c)) (C0 : Hid (∀ W, Rs W 5 (l0.map encChoice) A c → Calls Try.prog 43 #[.slice A l0.length c] W fun e w' => e = .returned (.slice A l.length c) ∧ W = w')) (he : a = b) :
    Calls Try.prog 12 #[.slice A l0.length c, .agg #[.int .i64 a.acc, .int .i64 a.cli], .agg #[.int .i64 b.acc, .int .i64 b.cli], .agg #[.int .i64 x.acc, .int .i64 x.cli], .agg #[.int .i64 y.acc, .int .i64 y.cli]] w fun e w' => e = .returned (.bool true) ∧ Below w.heap.size w w' := by
  subst he
  go_enter Try.func12, Try.ntmps12
  go_wp2_with (first | (go_at_call 43; (with_reducible refine (C0.out _ (HR.out.keep (by (repeat' (first | (with_reducible exact Below.refl _ _) | (with_reducible assumption) | (with_reducible refine Below.alloc ?_ ?_ _) | (with_reducible refine Below.setCell ?_ ?_ _) | (with_reducible refine Below.drew ?_) | (with_reducible refine below_drewN ?_ _) | (with_reducible refine below_via ?_ (by with_reducible assumption) ?_) | omega | (simp; done) | (simp; omega)))))).mono ?_); rintro e w0 ⟨rfl, rfl⟩) | (go_at_call 57; (with_reducible refine (law16lives _).mono ?_); rintro e w18 ⟨rfl, hb18⟩; obtain ⟨fc18, fg18, hc18, hf18, hz18⟩ := bget hb18; (try simp at hz18)))
  go_ret
  exact ⟨rfl, by (repeat' (first | (with_reducible exact Below.refl _ _) | (with_reducible assumption) | (with_reducible refine Below.alloc ?_ ?_ _) | (with_reducible refine Below.setCell ?_ ?_ _) | (with_reducible refine Below.drew ?_) | (with_reducible refine below_drewN ?_ _) | (with_reducible refine below_via ?_ (by with_reducible assumption) ?_) | omega | (simp; done) | (simp; omega)))⟩
set_option maxRecDepth 100000 in
set_option maxHeartbeats 8000000 in
theorem electTurns_bad (l0 l : List Choice) (a b x y : Un) (A : Option Addr) (c : Nat) (w : World) (h20 : l.length ≤ 20) (HR : Hid (Rs w 5 (l0.map encChoice) A c)) (HL : Hid (Rs w 5 (l.map encChoice) A c)) (C0 : Hid (∀ W, Rs W 5 (l0.map encChoice) A c → Calls Try.prog 43 #[.slice A l0.length c] W fun e w' => e = .returned (.slice A l.length c) ∧ W = w')) (hab : a ≠ b) (hi : isC l = false) :
    Calls Try.prog 12 #[.slice A l0.length c, .agg #[.int .i64 a.acc, .int .i64 a.cli], .agg #[.int .i64 b.acc, .int .i64 b.cli], .agg #[.int .i64 x.acc, .int .i64 x.cli], .agg #[.int .i64 y.acc, .int .i64 y.cli]] w fun e w' => e = .returned (.bool true) ∧ Below w.heap.size w w' := by
  have c1 := fun W h => electIs l A c W (by omega) h
  rw [hi] at c1
  have C1 := Lib.hid c1
  clear c1 hi
  rcases un_test (x := a) (u := b) with he | he | he
  · exact absurd he hab
  all_goals
    clear hab
    go_enter Try.func12, Try.ntmps12
    go_wp2_with (first | (go_at_call 43; (with_reducible refine (C0.out _ (HR.out.keep (by (repeat' (first | (with_reducible exact Below.refl _ _) | (with_reducible assumption) | (with_reducible refine Below.alloc ?_ ?_ _) | (with_reducible refine Below.setCell ?_ ?_ _) | (with_reducible refine Below.drew ?_) | (with_reducible refine below_drewN ?_ _) | (with_reducible refine below_via ?_ (by with_reducible assumption) ?_) | omega | (simp; done) | (simp; omega)))))).mono ?_); rintro e w0 ⟨rfl, rfl⟩) | (go_at_call 44; (with_reducible refine (C1.out _ (HL.out.keep (by (repeat' (first | (with_reducible exact Below.refl _ _) | (with_reducible assumption) | (with_reducible refine Below.alloc ?_ ?_ _) | (with_reducible refine Below.setCell ?_ ?_ _) | (with_reducible refine Below.drew ?_) | (with_reducible refine below_drewN ?_ _) | (with_reducible refine below_via ?_ (by with_reducible assumption) ?_) | omega | (simp; done) | (simp; omega))))).rd).mono ?_); rintro e w1 ⟨rfl, hb1⟩; obtain ⟨fc1, fg1, hc1, hf1, hz1⟩ := bget hb1; (try simp at hz1)) | (go_at_call 57; (with_reducible refine (law16lives _).mono ?_); rintro e w18 ⟨rfl, hb18⟩; obtain ⟨fc18, fg18, hc18, hf18, hz18⟩ := bget hb18; (try simp at hz18)))
    go_ret
    exact ⟨rfl, by (repeat' (first | (with_reducible exact Below.refl _ _) | (with_reducible assumption) | (with_reducible refine Below.alloc ?_ ?_ _) | (with_reducible refine Below.setCell ?_ ?_ _) | (with_reducible refine Below.drew ?_) | (with_reducible refine below_drewN ?_ _) | (with_reducible refine below_via ?_ (by with_reducible assumption) ?_) | omega | (simp; done) | (simp; omega)))⟩
set_option maxRecDepth 100000 in
set_option maxHeartbeats 8000000 in
theorem electTurns_no (l0 l : List Choice) (a b x y : Un) (A : Option Addr) (c : Nat) (w : World) (h20 : l.length ≤ 20) (HR : Hid (Rs w 5 (l0.map encChoice) A c)) (HL : Hid (Rs w 5 (l.map encChoice) A c)) (C0 : Hid (∀ W, Rs W 5 (l0.map encChoice) A c → Calls Try.prog 43 #[.slice A l0.length c] W fun e w' => e = .returned (.slice A l.length c) ∧ W = w')) (hab : a ≠ b) (hi : isC l = true) (hxy : a = x ∨ b = y) :
    Calls Try.prog 12 #[.slice A l0.length c, .agg #[.int .i64 a.acc, .int .i64 a.cli], .agg #[.int .i64 b.acc, .int .i64 b.cli], .agg #[.int .i64 x.acc, .int .i64 x.cli], .agg #[.int .i64 y.acc, .int .i64 y.cli]] w fun e w' => e = .returned (.bool true) ∧ Below w.heap.size w w' := by
  have hs := isC_sort.1 hi
  have c1 := fun W h => electIs l A c W (by omega) h
  rw [hi] at c1
  have C1 := Lib.hid c1
  clear c1 hi
  have c6 := fun W h => electElect l a x A c W (by omega) h
  have c7 := fun W h => electElect l b y A c W (by omega) h
  have kx : (a = x ∧ electC l a x = 24) ∨ ((((a.acc == x.acc) = false) ∨ ((a.cli == x.cli) = false)) ∧ electC l a x = 0) := by
    by_cases h : a = x
    · exact .inl ⟨h, by rw [← h]; exact (electL_same hs).1⟩
    · exact .inr ⟨neqUn h, (electL_zero hs h).1⟩
  have ky : (b = y ∧ electC l b y = 24) ∨ ((((b.acc == y.acc) = false) ∨ ((b.cli == y.cli) = false)) ∧ electC l b y = 0) := by
    by_cases h : b = y
    · exact .inl ⟨h, by rw [← h]; exact (electL_same hs).1⟩
    · exact .inr ⟨neqUn h, (electL_zero hs h).1⟩
  have kn : electC l a x = 24 ∨ electC l b y = 24 := by
    rcases hxy with h | h
    · exact .inl (by rw [← h]; exact (electL_same hs).1)
    · exact .inr (by rw [← h]; exact (electL_same hs).1)
  clear hxy hs
  generalize electL l a x = l1 at c6
  generalize electL l b y = l2 at c7
  generalize electC l a x = n6 at c6 kx kn
  generalize electC l b y = n7 at c7 ky kn
  have C6 := Lib.hid c6
  have C7 := Lib.hid c7
  clear c6 c7
  rcases kx with ⟨hx, rfl⟩ | ⟨hx | hx, rfl⟩
  all_goals rcases ky with ⟨hy, rfl⟩ | ⟨hy | hy, rfl⟩
  all_goals first | (exfalso; revert kn; decide) | skip
  all_goals clear kn
  all_goals try subst hx
  all_goals try subst hy
  all_goals
    rcases neqUn hab with he | he
  all_goals
    clear hab
    go_enter Try.func12, Try.ntmps12
    go_wp2_with (first | (go_at_call 43; (with_reducible refine (C0.out _ (HR.out.keep (by (repeat' (first | (with_reducible exact Below.refl _ _) | (with_reducible assumption) | (with_reducible refine Below.alloc ?_ ?_ _) | (with_reducible refine Below.setCell ?_ ?_ _) | (with_reducible refine Below.drew ?_) | (with_reducible refine below_drewN ?_ _) | (with_reducible refine below_via ?_ (by with_reducible assumption) ?_) | omega | (simp; done) | (simp; omega)))))).mono ?_); rintro e w0 ⟨rfl, rfl⟩) | (go_at_call 44; (with_reducible refine (C1.out _ (HL.out.keep (by (repeat' (first | (with_reducible exact Below.refl _ _) | (with_reducible assumption) | (with_reducible refine Below.alloc ?_ ?_ _) | (with_reducible refine Below.setCell ?_ ?_ _) | (with_reducible refine Below.drew ?_) | (with_reducible refine below_drewN ?_ _) | (with_reducible refine below_via ?_ (by with_reducible assumption) ?_) | omega | (simp; done) | (simp; omega))))).rd).mono ?_); rintro e w1 ⟨rfl, hb1⟩; obtain ⟨fc1, fg1, hc1, hf1, hz1⟩ := bget hb1; (try simp at hz1)) | (go_at_call 49; (with_reducible refine (C6.out _ ?_).mono ?_); exact HL.out.keep (by (repeat' (first | (with_reducible exact Below.refl _ _) | (with_reducible assumption) | (with_reducible refine Below.alloc ?_ ?_ _) | (with_reducible refine Below.setCell ?_ ?_ _) | (with_reducible refine Below.drew ?_) | (with_reducible refine below_drewN ?_ _) | (with_reducible refine below_via ?_ (by with_reducible assumption) ?_) | omega | (simp; done) | (simp; omega)))); rintro e w6 ⟨v6, rfl, hown6, hb6⟩; obtain ⟨A6, c6, rfl, hrs6, _⟩ := hown6.rs; have HR6 := Lib.hid hrs6; rw [List.length_map]; clear hown6 hrs6; obtain ⟨fc6, fg6, hc6, hf6, hz6⟩ := bget hb6; (try simp at hz6)) | (go_at_call 49; (with_reducible refine (C7.out _ ?_).mono ?_); exact HL.out.keep (by (repeat' (first | (with_reducible exact Below.refl _ _) | (with_reducible assumption) | (with_reducible refine Below.alloc ?_ ?_ _) | (with_reducible refine Below.setCell ?_ ?_ _) | (with_reducible refine Below.drew ?_) | (with_reducible refine below_drewN ?_ _) | (with_reducible refine below_via ?_ (by with_reducible assumption) ?_) | omega | (simp; done) | (simp; omega)))); rintro e w7 ⟨v7, rfl, hown7, hb7⟩; obtain ⟨A7, c7, rfl, hrs7, _⟩ := hown7.rs; have HR7 := Lib.hid hrs7; rw [List.length_map]; clear hown7 hrs7; obtain ⟨fc7, fg7, hc7, hf7, hz7⟩ := bget hb7; (try simp at hz7)) | (go_at_call 57; (with_reducible refine (law16lives _).mono ?_); rintro e w18 ⟨rfl, hb18⟩; obtain ⟨fc18, fg18, hc18, hf18, hz18⟩ := bget hb18; (try simp at hz18)))
    go_ret
    exact ⟨rfl, by (repeat' (first | (with_reducible exact Below.refl _ _) | (with_reducible assumption) | (with_reducible refine Below.alloc ?_ ?_ _) | (with_reducible refine Below.setCell ?_ ?_ _) | (with_reducible refine Below.drew ?_) | (with_reducible refine below_drewN ?_ _) | (with_reducible refine below_via ?_ (by with_reducible assumption) ?_) | omega | (simp; done) | (simp; omega)))⟩
set_option maxRecDepth 100000 in
set_option maxHeartbeats 8000000 in
theorem electTurns_go (l0 l : List Choice) (a b x y : Un) (A : Option Addr) (c : Nat) (w : World) (h20 : l.length ≤ 20) (HR : Hid (Rs w 5 (l0.map encChoice) A c)) (HL : Hid (Rs w 5 (l.map encChoice) A c)) (C0 : Hid (∀ W, Rs W 5 (l0.map encChoice) A c → Calls Try.prog 43 #[.slice A l0.length c] W fun e w' => e = .returned (.slice A l.length c) ∧ W = w')) (hab : a ≠ b) (hi : isC l = true) (hx0 : a ≠ x) (hy0 : b ≠ y) :
    Calls Try.prog 12 #[.slice A l0.length c, .agg #[.int .i64 a.acc, .int .i64 a.cli], .agg #[.int .i64 b.acc, .int .i64 b.cli], .agg #[.int .i64 x.acc, .int .i64 x.cli], .agg #[.int .i64 y.acc, .int .i64 y.cli]] w fun e w' => e = .returned (.bool true) ∧ Below w.heap.size w w' := by
  have hs := isC_sort.1 hi
  have c1 := fun W h => electIs l A c W (by omega) h
  rw [hi] at c1
  have C1 := Lib.hid c1
  clear c1 hi
  have c6 := fun W h => electElect l a x A c W (by omega) h
  have c7 := fun W h => electElect l b y A c W (by omega) h
  have n1 := electL_len l a x
  have n2 := electL_len l b y
  rw [(electL_zero hs hx0).1] at c6
  rw [(electL_zero hs hy0).1] at c7
  rw [(electL_zero hs hx0).2] at c6 n1
  rw [(electL_zero hs hy0).2] at c7 n2
  have s1 := elect_sort hs hx0
  have s2 := elect_sort hs hy0
  have hsw := elect_swap hs hab hx0 hy0
  generalize insC (dropL l a) ⟨a, x, false⟩ = l1 at c6 n1 s1 hsw
  generalize insC (dropL l b) ⟨b, y, false⟩ = l2 at c7 n2 s2 hsw
  have c8 := fun A c W h => electElect l1 b y A c W (by omega) h
  have c9 := fun A c W h => electElect l2 a x A c W (by omega) h
  have n3 := electL_len l1 b y
  rw [(electL_zero s1 hy0).1, (electL_zero s1 hy0).2] at c8
  rw [(electL_zero s2 hx0).1, (electL_zero s2 hx0).2, ← hsw] at c9
  rw [(electL_zero s1 hy0).2] at n3
  clear hsw s1 s2 hs
  generalize insC (dropL l1 b) ⟨b, y, false⟩ = l3 at c8 c9 n3
  have c10 := fun A c W h => electDrop l3 a A c W (by omega) h
  have c13 := fun A c W h => electDrop l3 b A c W (by omega) h
  have nd := dropL_len l3 a
  have ne := dropL_len l3 b
  have c11 := fun A c W h => electDrop (dropL l3 a) a A c W (by omega) h
  have c12 := fun A c W h => electDrop (dropL l3 a) b A c W (by omega) h
  have c14 := fun A c W h => electDrop (dropL l3 b) a A c W (by omega) h
  have nf := dropL_len (dropL l3 a) b
  rw [dropL_twice] at c11
  rw [dropL_comm l3 b a] at c14
  generalize dropL (dropL l3 a) b = f at c12 c14 nf
  generalize dropL l3 a = d at c10 c11 c12 nd nf
  generalize dropL l3 b = g at c13 c14 ne
  have C6 := Lib.hid c6
  have C7 := Lib.hid c7
  have C8 := Lib.hid c8
  have C9 := Lib.hid c9
  have C10 := Lib.hid c10
  have C11 := Lib.hid c11
  have C12 := Lib.hid c12
  have C13 := Lib.hid c13
  have C14 := Lib.hid c14
  clear c6 c7 c8 c9 c10 c11 c12 c13 c14
  rcases un_test (x := a) (u := b) with he | he | he
  · exact absurd he hab
  all_goals
    clear hab hx0 hy0
    go_enter Try.func12, Try.ntmps12
    go_wp2_with (first | (go_at_call 43; (with_reducible refine (C0.out _ (HR.out.keep (by (repeat' (first | (with_reducible exact Below.refl _ _) | (with_reducible assumption) | (with_reducible refine Below.alloc ?_ ?_ _) | (with_reducible refine Below.setCell ?_ ?_ _) | (with_reducible refine Below.drew ?_) | (with_reducible refine below_drewN ?_ _) | (with_reducible refine below_via ?_ (by with_reducible assumption) ?_) | omega | (simp; done) | (simp; omega)))))).mono ?_); rintro e w0 ⟨rfl, rfl⟩) | (go_at_call 44; (with_reducible refine (C1.out _ (HL.out.keep (by (repeat' (first | (with_reducible exact Below.refl _ _) | (with_reducible assumption) | (with_reducible refine Below.alloc ?_ ?_ _) | (with_reducible refine Below.setCell ?_ ?_ _) | (with_reducible refine Below.drew ?_) | (with_reducible refine below_drewN ?_ _) | (with_reducible refine below_via ?_ (by with_reducible assumption) ?_) | omega | (simp; done) | (simp; omega))))).rd).mono ?_); rintro e w1 ⟨rfl, hb1⟩; obtain ⟨fc1, fg1, hc1, hf1, hz1⟩ := bget hb1; (try simp at hz1)) | (go_at_call 49; (with_reducible refine (C6.out _ ?_).mono ?_); exact HL.out.keep (by (repeat' (first | (with_reducible exact Below.refl _ _) | (with_reducible assumption) | (with_reducible refine Below.alloc ?_ ?_ _) | (with_reducible refine Below.setCell ?_ ?_ _) | (with_reducible refine Below.drew ?_) | (with_reducible refine below_drewN ?_ _) | (with_reducible refine below_via ?_ (by with_reducible assumption) ?_) | omega | (simp; done) | (simp; omega)))); rintro e w6 ⟨v6, rfl, hown6, hb6⟩; obtain ⟨A6, c6, rfl, hrs6, _⟩ := hown6.rs; have HR6 := Lib.hid hrs6; rw [List.length_map]; clear hown6 hrs6; obtain ⟨fc6, fg6, hc6, hf6, hz6⟩ := bget hb6; (try simp at hz6)) | (go_at_call 49; (with_reducible refine (C7.out _ ?_).mono ?_); exact HL.out.keep (by (repeat' (first | (with_reducible exact Below.refl _ _) | (with_reducible assumption) | (with_reducible refine Below.alloc ?_ ?_ _) | (with_reducible refine Below.setCell ?_ ?_ _) | (with_reducible refine Below.drew ?_) | (with_reducible refine below_drewN ?_ _) | (with_reducible refine below_via ?_ (by with_reducible assumption) ?_) | omega | (simp; done) | (simp; omega)))); rintro e w7 ⟨v7, rfl, hown7, hb7⟩; obtain ⟨A7, c7, rfl, hrs7, _⟩ := hown7.rs; have HR7 := Lib.hid hrs7; rw [List.length_map]; clear hown7 hrs7; obtain ⟨fc7, fg7, hc7, hf7, hz7⟩ := bget hb7; (try simp at hz7)) | (go_at_call 49; (with_reducible refine (C8.out _ _ _ ?_).mono ?_); exact HR6.out.keep (by (repeat' (first | (with_reducible exact Below.refl _ _) | (with_reducible assumption) | (with_reducible refine Below.alloc ?_ ?_ _) | (with_reducible refine Below.setCell ?_ ?_ _) | (with_reducible refine Below.drew ?_) | (with_reducible refine below_drewN ?_ _) | (with_reducible refine below_via ?_ (by with_reducible assumption) ?_) | omega | (simp; done) | (simp; omega)))); rintro e w8 ⟨v8, rfl, hown8, hb8⟩; obtain ⟨A8, c8, rfl, hrs8, _⟩ := hown8.rs; have HR8 := Lib.hid hrs8; rw [List.length_map]; clear hown8 hrs8; obtain ⟨fc8, fg8, hc8, hf8, hz8⟩ := bget hb8; (try simp at hz8)) | (go_at_call 49; (with_reducible refine (C9.out _ _ _ ?_).mono ?_); exact HR7.out.keep (by (repeat' (first | (with_reducible exact Below.refl _ _) | (with_reducible assumption) | (with_reducible refine Below.alloc ?_ ?_ _) | (with_reducible refine Below.setCell ?_ ?_ _) | (with_reducible refine Below.drew ?_) | (with_reducible refine below_drewN ?_ _) | (with_reducible refine below_via ?_ (by with_reducible assumption) ?_) | omega | (simp; done) | (simp; omega)))); rintro e w9 ⟨v9, rfl, hown9, hb9⟩; obtain ⟨A9, c9, rfl, hrs9, _⟩ := hown9.rs; have HR9 := Lib.hid hrs9; rw [List.length_map]; clear hown9 hrs9; obtain ⟨fc9, fg9, hc9, hf9, hz9⟩ := bget hb9; (try simp at hz9)) | (go_at_call 47; (with_reducible refine (C10.out _ _ _ ?_).mono ?_); exact HR8.out.keep (by (repeat' (first | (with_reducible exact Below.refl _ _) | (with_reducible assumption) | (with_reducible refine Below.alloc ?_ ?_ _) | (with_reducible refine Below.setCell ?_ ?_ _) | (with_reducible refine Below.drew ?_) | (with_reducible refine below_drewN ?_ _) | (with_reducible refine below_via ?_ (by with_reducible assumption) ?_) | omega | (simp; done) | (simp; omega)))); rintro e w10 ⟨v10, rfl, hown10, hb10⟩; obtain ⟨A10, c10, rfl, hrs10, _⟩ := hown10.rs; have HR10 := Lib.hid hrs10; rw [List.length_map]; clear hown10 hrs10; obtain ⟨fc10, fg10, hc10, hf10, hz10⟩ := bget hb10; (try simp at hz10)))
    go_region_held3 (fun w' => w'.cell? ⟨w.heap.size, 0, none⟩ = some (.int .i64 a.acc) ∧ w'.cell? ⟨w.heap.size, 1, none⟩ = some (.int .i64 a.cli) ∧ w'.cell? ⟨w.heap.size + 1, 0, none⟩ = some (.int .i64 b.acc) ∧ w'.cell? ⟨w.heap.size + 1, 1, none⟩ = some (.int .i64 b.cli)) (first | (simp [go_sem]; done) | (repeat' (first | (with_reducible assumption) | (with_reducible refine And.intro ?_ ?_) | (with_reducible refine cell_drew ?_) | (with_reducible refine cell_via (by with_reducible assumption) ?_ ?_) | (simp [*]; done) | (simp [go_sem]; done) | (with_reducible refine cell_alloc ?_ ?_) | (with_reducible refine cell_set_far ?_ ?_) | omega | (simp; omega)))) (first | (go_at_call 46; (with_reducible refine (ref16Same l3 A8 A9 c8 c9 _ (by omega) (HR8.out.keep (by (repeat' (first | (with_reducible exact Below.refl _ _) | (with_reducible assumption) | (with_reducible refine Below.alloc ?_ ?_ _) | (with_reducible refine Below.setCell ?_ ?_ _) | (with_reducible refine Below.drew ?_) | (with_reducible refine below_drewN ?_ _) | (with_reducible refine below_via ?_ (by with_reducible assumption) ?_) | omega | (simp; done) | (simp; omega))))).rd (HR9.out.keep (by (repeat' (first | (with_reducible exact Below.refl _ _) | (with_reducible assumption) | (with_reducible refine Below.alloc ?_ ?_ _) | (with_reducible refine Below.setCell ?_ ?_ _) | (with_reducible refine Below.drew ?_) | (with_reducible refine below_drewN ?_ _) | (with_reducible refine below_via ?_ (by with_reducible assumption) ?_) | omega | (simp; done) | (simp; omega))))).rd).mono ?_); rintro e w11 ⟨rfl, hb11⟩; obtain ⟨fc11, fg11, hc11, hf11, hz11⟩ := bget hb11; (try simp at hz11)) | (go_at_call 47; (with_reducible refine (C11.out _ _ _ ?_).mono ?_); exact HR10.out.keep (by (repeat' (first | (with_reducible exact Below.refl _ _) | (with_reducible assumption) | (with_reducible refine Below.alloc ?_ ?_ _) | (with_reducible refine Below.setCell ?_ ?_ _) | (with_reducible refine Below.drew ?_) | (with_reducible refine below_drewN ?_ _) | (with_reducible refine below_via ?_ (by with_reducible assumption) ?_) | omega | (simp; done) | (simp; omega)))); rintro e w12 ⟨v12, rfl, hown12, hb12⟩; obtain ⟨A12, c12, rfl, hrs12, _⟩ := hown12.rs; have HR12 := Lib.hid hrs12; rw [List.length_map]; clear hown12 hrs12; obtain ⟨fc12, fg12, hc12, hf12, hz12⟩ := bget hb12; (try simp at hz12)) | (go_at_call 46; (with_reducible refine (ref16Same d A12 A10 c12 c10 _ (by omega) (HR12.out.keep (by (repeat' (first | (with_reducible exact Below.refl _ _) | (with_reducible assumption) | (with_reducible refine Below.alloc ?_ ?_ _) | (with_reducible refine Below.setCell ?_ ?_ _) | (with_reducible refine Below.drew ?_) | (with_reducible refine below_drewN ?_ _) | (with_reducible refine below_via ?_ (by with_reducible assumption) ?_) | omega | (simp; done) | (simp; omega))))).rd (HR10.out.keep (by (repeat' (first | (with_reducible exact Below.refl _ _) | (with_reducible assumption) | (with_reducible refine Below.alloc ?_ ?_ _) | (with_reducible refine Below.setCell ?_ ?_ _) | (with_reducible refine Below.drew ?_) | (with_reducible refine below_drewN ?_ _) | (with_reducible refine below_via ?_ (by with_reducible assumption) ?_) | omega | (simp; done) | (simp; omega))))).rd).mono ?_); rintro e w13 ⟨rfl, hb13⟩; obtain ⟨fc13, fg13, hc13, hf13, hz13⟩ := bget hb13; (try simp at hz13)) | (go_at_call 47; (with_reducible refine (C12.out _ _ _ ?_).mono ?_); exact HR10.out.keep (by (repeat' (first | (with_reducible exact Below.refl _ _) | (with_reducible assumption) | (with_reducible refine Below.alloc ?_ ?_ _) | (with_reducible refine Below.setCell ?_ ?_ _) | (with_reducible refine Below.drew ?_) | (with_reducible refine below_drewN ?_ _) | (with_reducible refine below_via ?_ (by with_reducible assumption) ?_) | omega | (simp; done) | (simp; omega)))); rintro e w14 ⟨v14, rfl, hown14, hb14⟩; obtain ⟨A14, c14, rfl, hrs14, _⟩ := hown14.rs; have HR14 := Lib.hid hrs14; rw [List.length_map]; clear hown14 hrs14; obtain ⟨fc14, fg14, hc14, hf14, hz14⟩ := bget hb14; (try simp at hz14)) | (go_at_call 47; (with_reducible refine (C13.out _ _ _ ?_).mono ?_); exact HR8.out.keep (by (repeat' (first | (with_reducible exact Below.refl _ _) | (with_reducible assumption) | (with_reducible refine Below.alloc ?_ ?_ _) | (with_reducible refine Below.setCell ?_ ?_ _) | (with_reducible refine Below.drew ?_) | (with_reducible refine below_drewN ?_ _) | (with_reducible refine below_via ?_ (by with_reducible assumption) ?_) | omega | (simp; done) | (simp; omega)))); rintro e w15 ⟨v15, rfl, hown15, hb15⟩; obtain ⟨A15, c15, rfl, hrs15, _⟩ := hown15.rs; have HR15 := Lib.hid hrs15; rw [List.length_map]; clear hown15 hrs15; obtain ⟨fc15, fg15, hc15, hf15, hz15⟩ := bget hb15; (try simp at hz15)) | (go_at_call 47; (with_reducible refine (C14.out _ _ _ ?_).mono ?_); exact HR15.out.keep (by (repeat' (first | (with_reducible exact Below.refl _ _) | (with_reducible assumption) | (with_reducible refine Below.alloc ?_ ?_ _) | (with_reducible refine Below.setCell ?_ ?_ _) | (with_reducible refine Below.drew ?_) | (with_reducible refine below_drewN ?_ _) | (with_reducible refine below_via ?_ (by with_reducible assumption) ?_) | omega | (simp; done) | (simp; omega)))); rintro e w16 ⟨v16, rfl, hown16, hb16⟩; obtain ⟨A16, c16, rfl, hrs16, _⟩ := hown16.rs; have HR16 := Lib.hid hrs16; rw [List.length_map]; clear hown16 hrs16; obtain ⟨fc16, fg16, hc16, hf16, hz16⟩ := bget hb16; (try simp at hz16)) | (go_at_call 46; (with_reducible refine (ref16Same f A14 A16 c14 c16 _ (by omega) (HR14.out.keep (by (repeat' (first | (with_reducible exact Below.refl _ _) | (with_reducible assumption) | (with_reducible refine Below.alloc ?_ ?_ _) | (with_reducible refine Below.setCell ?_ ?_ _) | (with_reducible refine Below.drew ?_) | (with_reducible refine below_drewN ?_ _) | (with_reducible refine below_via ?_ (by with_reducible assumption) ?_) | omega | (simp; done) | (simp; omega))))).rd (HR16.out.keep (by (repeat' (first | (with_reducible exact Below.refl _ _) | (with_reducible assumption) | (with_reducible refine Below.alloc ?_ ?_ _) | (with_reducible refine Below.setCell ?_ ?_ _) | (with_reducible refine Below.drew ?_) | (with_reducible refine below_drewN ?_ _) | (with_reducible refine below_via ?_ (by with_reducible assumption) ?_) | omega | (simp; done) | (simp; omega))))).rd).mono ?_); rintro e w17 ⟨rfl, hb17⟩; obtain ⟨fc17, fg17, hc17, hf17, hz17⟩ := bget hb17; (try simp at hz17)) | (go_at_call 57; (with_reducible refine (law16lives _).mono ?_); rintro e w18 ⟨rfl, hb18⟩; obtain ⟨fc18, fg18, hc18, hf18, hz18⟩ := bget hb18; (try simp at hz18)))
  all_goals
    go_wp2_with fail
    go_ret
    exact ⟨rfl, by (repeat' (first | (with_reducible exact Below.refl _ _) | (with_reducible assumption) | (with_reducible refine Below.alloc ?_ ?_ _) | (with_reducible refine Below.setCell ?_ ?_ _) | (with_reducible refine Below.drew ?_) | (with_reducible refine below_drewN ?_ _) | (with_reducible refine below_via ?_ (by with_reducible assumption) ?_) | omega | (simp; done) | (simp; omega)))⟩
theorem electTurns (l0 : List Choice) (a b x y : Un) (A : Option Addr) (c : Nat) (w : World) (hl : l0.length ≤ maxLen) (hr : Rs w 5 (l0.map encChoice) A c) :
    Calls Try.prog 12 #[.slice A l0.length c, .agg #[.int .i64 a.acc, .int .i64 a.cli], .agg #[.int .i64 b.acc, .int .i64 b.cli], .agg #[.int .i64 x.acc, .int .i64 x.cli], .agg #[.int .i64 y.acc, .int .i64 y.cli]] w fun e w' => e = .returned (.bool true) ∧ Below w.heap.size w w' := by
  have h20 : (l0.take 20).length ≤ 20 := by rw [List.length_take]; omega
  have C0 := Lib.hid fun W h => law16Few l0 _ (Lib.hid rfl) A c W hl h
  have HR := Lib.hid hr
  have HL := Lib.hid (hr.takeL 20)
  by_cases hab : a = b
  · exact electTurns_same l0 _ a b x y A c w HR C0 hab
  cases hi : isC (l0.take 20)
  · exact electTurns_bad l0 _ a b x y A c w h20 HR HL C0 hab hi
  by_cases hxy : a = x ∨ b = y
  · exact electTurns_no l0 _ a b x y A c w h20 HR HL C0 hab hi hxy
  · exact electTurns_go l0 _ a b x y A c w h20 HR HL C0 hab hi (fun e => hxy (.inl e)) (fun e => hxy (.inr e))
end Go.Proofs.Ytffmljkpbgohkaa
