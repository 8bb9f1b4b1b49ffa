/- The law FixPicks: its walk. -/
import Derived.Test.YtjolddbfkcbnpaaLawF8
namespace Go.Proofs.Ytjolddbfkcbnpaa
open Go.RowKit
theorem rd_oneAt2 {w : World} {n : Nat} {cs : Array Value} {E k : Nat} (h : n = w.heap.size) : Rd (w.alloc (.cells cs E)) (some ⟨n, 0, none⟩) k [cs.toList] := by subst h; exact rd_one
theorem fixAbsC (a : Int) (w : World) (ha : In64 a) : Calls Try.prog 47 #[.int .i64 a] w fun e w' => e = .returned (.tuple #[.int .i64 (okN (iabs a)), .int .i64 (okE (iabs a))]) ∧ Below w.heap.size w w' := by
  by_cases h : In64 (iabs a)
  · have hk := okN_yes h
    rw [hk.1, hk.2]
    exact fixAbsYes a w ha h
  · have hk := okN_no h
    rw [hk.1, hk.2]
    exact fixAbsNo a w ha h
theorem isBig_abs {w : World} {a : Int} {s : Bool} {A : Option Addr} {l : List Int} {c : Nat} (h : IsBig w a s A l c) : IsBig w (iabs a) false A l c :=
  ⟨h.rd, h.bit, h.top, by rw [h.val]; exact (iabs_pos (iabs_nonneg a)).symm, h.cap, h.room, by have := iabs_nonneg a; simp; omega⟩
set_option maxRecDepth 100000 in
set_option maxHeartbeats 8000000 in
theorem fixPicks1 (l0 l : List Int) (a lo hi : Int) (A : Option Addr) (c : Nat) (w : World) (ha : In64 a) (hl40 : l.length ≤ 40) (hr0 : Rd w A 1 (l0.map encI)) (hr : Rd w A 1 (l.map encI)) (c0 : ∀ W, Rd W A 1 (l0.map encI) → Calls Try.prog 27 #[.slice A l0.length c] W fun e w' => e = .returned (.slice A l.length c) ∧ W = w') (h : hi < lo) :
    Calls Try.prog 11 #[.int .i64 a, .slice A l0.length c, .int .i64 lo, .int .i64 hi] w fun e w' => e = .returned (.bool true) ∧ Below w.heap.size w w' := by
  have HR0 := Lib.hid hr0
  have HR := Lib.hid hr
  have C0 := Lib.hid c0
  have c1 := fun W => fixAbsC a W ha
  have c2 := fun W => fixClip a lo hi W
  rw [show clip a lo hi = lo from (by unfold clip; omega)] at c2
  have c3 := fun s l2 A c W h hB => law02Is (iabs a) s l2 A c 100 W (by omega) h hB
  have c4 := fun W h => fixMost a l A c W (by omega) h
  have c5 := fun W h => fixLeast a l A c W (by omega) h
  have c6 := fun A c W h => refMost a l A c W (by simp; omega) h
  have c7 := fun A c W h => refLeast a l A c W (by simp; omega) h
  rw [List.length_cons] at c6 c7
  generalize okN (iabs a) = an at c1 c3
  generalize okE (iabs a) = ae at c1 c3
  generalize maxL a l = mx at c4 c6
  generalize minL a l = mn at c5 c7
  have C1 := Lib.hid c1
  have C2 := Lib.hid c2
  have C3 := Lib.hid c3
  have C4 := Lib.hid c4
  have C5 := Lib.hid c5
  have C6 := Lib.hid c6
  have C7 := Lib.hid c7
  clear hr0 hr c0 c1 c2 c3 c4 c5 c6 c7
  have g1 : decide (hi < lo) = true := (by simpa using h)
  go_enter Try.func11, Try.ntmps11
  go_wp2_with (first | (go_at_call 27; (with_reducible refine (C0.out _ HR0.out).mono ?_); rintro e w0 ⟨rfl, rfl⟩) | (go_at_call 47; (with_reducible refine (C1.out _).mono ?_); rintro e w1 ⟨rfl, hb1⟩; obtain ⟨fc1, fg1, hc1, hf1, hz1⟩ := bget hb1; (try simp at hz1)) | (go_at_call 17; (with_reducible refine (bigOf a _ ha).mono ?_); rintro e w2 ⟨s2, A2, l2, c2, rfl, hB2, hl2, hb2⟩; have HB2 := Lib.hid (isBig_abs hB2); clear hB2; obtain ⟨fc2, fg2, hc2, hf2, hz2⟩ := bget hb2; (try simp at hz2)) | (at_builtin; refine wpList_app rfl _ _ _ rfl elI (w2.heap.size + 1) _ _ rfl (Own.nil _ _ _ _) (some ⟨w2.heap.size + 1, 0, none⟩) 1 1 rfl [encI a] rfl (fun h => by cases h) (rd_oneAt2 (by simp)) (by simp [encI]; rfl) (by unfold maxLen; first | (simp; done) | omega | (simp; omega)) (by first | (simp; done) | omega | (simp; omega)) (by simp) ?_; intro v3 w3 hown3 hb3; obtain ⟨fc3, fg3, hc3, hf3, hz3⟩ := bget hb3; (try simp at hz3)) | (at_builtin; refine wpList_any rfl _ _ _ rfl elI (w2.heap.size + 1) _ _ rfl hown3 A l.length c rfl (l.map encI) (by simp) (HR.out.keep (by (repeat' (first | (with_reducible exact Below.refl _ _) | (with_reducible assumption) | (with_reducible refine Below.alloc ?_ ?_ _) | (with_reducible refine Below.setCell ?_ ?_ _) | (with_reducible refine Below.drew ?_) | (with_reducible refine below_drewN ?_ _) | (with_reducible refine below_via ?_ (by with_reducible assumption) ?_) | omega | (simp; done) | (simp; omega))))) (encI_one l) (by unfold maxLen; first | (simp; done) | omega | (simp; omega)) (by first | (simp; done) | omega | (simp; omega)) (by omega) ?_; intro v4 w4 hown4 hb4; obtain ⟨fc4, fg4, hc4, hf4, hz4⟩ := bget hb4; (try simp at hz4); have hown5 : Own w4 (w2.heap.size + 1) 2 1 v4 ((a :: l).map encI) := (by simpa using hown4); obtain ⟨A5, c5, rfl, _, _, hr5, _⟩ := hown5.shape; rw [List.length_map, List.length_cons]; have HR5 := Lib.hid hr5; clear hown3 hown4 hown5 hr5) | (go_at_call 48; (with_reducible refine (C2.out _).mono ?_); rintro e w6 ⟨rfl, hb6⟩; obtain ⟨fc6, fg6, hc6, hf6, hz6⟩ := bget hb6; (try simp at hz6)) | (go_at_call 34; (with_reducible refine (C3.out _ _ _ _ _ (by omega) (HB2.out.keep (by (repeat' (first | (with_reducible exact Below.refl _ _) | (with_reducible assumption) | (with_reducible refine Below.alloc ?_ ?_ _) | (with_reducible refine Below.setCell ?_ ?_ _) | (with_reducible refine Below.drew ?_) | (with_reducible refine below_drewN ?_ _) | (with_reducible refine below_via ?_ (by with_reducible assumption) ?_) | omega | (simp; done) | (simp; omega)))))).mono ?_); rintro e w7 ⟨rfl, hb7⟩; obtain ⟨fc7, fg7, hc7, hf7, hz7⟩ := bget hb7; (try simp at hz7)) | (go_at_call 49; (with_reducible refine (C4.out _ (HR.out.keep (by (repeat' (first | (with_reducible exact Below.refl _ _) | (with_reducible assumption) | (with_reducible refine Below.alloc ?_ ?_ _) | (with_reducible refine Below.setCell ?_ ?_ _) | (with_reducible refine Below.drew ?_) | (with_reducible refine below_drewN ?_ _) | (with_reducible refine below_via ?_ (by with_reducible assumption) ?_) | omega | (simp; done) | (simp; omega)))))).mono ?_); rintro e w8 ⟨rfl, rfl⟩) | (go_at_call 50; (with_reducible refine (C6.out _ _ _ (HR5.out.keep (by (repeat' (first | (with_reducible exact Below.refl _ _) | (with_reducible assumption) | (with_reducible refine Below.alloc ?_ ?_ _) | (with_reducible refine Below.setCell ?_ ?_ _) | (with_reducible refine Below.drew ?_) | (with_reducible refine below_drewN ?_ _) | (with_reducible refine below_via ?_ (by with_reducible assumption) ?_) | omega | (simp; done) | (simp; omega)))))).mono ?_); rintro e w9 ⟨rfl, hb9⟩; obtain ⟨fc9, fg9, hc9, hf9, hz9⟩ := bget hb9; (try simp at hz9)) | (go_at_call 51; (with_reducible refine (C5.out _ (HR.out.keep (by (repeat' (first | (with_reducible exact Below.refl _ _) | (with_reducible assumption) | (with_reducible refine Below.alloc ?_ ?_ _) | (with_reducible refine Below.setCell ?_ ?_ _) | (with_reducible refine Below.drew ?_) | (with_reducible refine below_drewN ?_ _) | (with_reducible refine below_via ?_ (by with_reducible assumption) ?_) | omega | (simp; done) | (simp; omega)))))).mono ?_); rintro e w10 ⟨rfl, rfl⟩) | (go_at_call 52; (with_reducible refine (C7.out _ _ _ (HR5.out.keep (by (repeat' (first | (with_reducible exact Below.refl _ _) | (with_reducible assumption) | (with_reducible refine Below.alloc ?_ ?_ _) | (with_reducible refine Below.setCell ?_ ?_ _) | (with_reducible refine Below.drew ?_) | (with_reducible refine below_drewN ?_ _) | (with_reducible refine below_via ?_ (by with_reducible assumption) ?_) | omega | (simp; done) | (simp; omega)))))).mono ?_); rintro e w11 ⟨rfl, hb11⟩; obtain ⟨fc11, fg11, hc11, hf11, hz11⟩ := bget hb11; (try simp at hz11)) | (go_at_call 30; (with_reducible refine (law02lives _).mono ?_); rintro e w12 ⟨rfl, hb12⟩; obtain ⟨fc12, fg12, hc12, hf12, hz12⟩ := bget hb12; (try simp at hz12)) | fail)
  go_ret
  exact ⟨rfl, by (repeat' (first | (with_reducible exact Below.refl _ _) | (with_reducible assumption) | (with_reducible refine Below.alloc ?_ ?_ _) | (with_reducible refine Below.setCell ?_ ?_ _) | (with_reducible refine Below.drew ?_) | (with_reducible refine below_drewN ?_ _) | (with_reducible refine below_via ?_ (by with_reducible assumption) ?_) | omega | (simp; done) | (simp; omega)))⟩
set_option maxRecDepth 100000 in
set_option maxHeartbeats 8000000 in
theorem fixPicks2 (l0 l : List Int) (a lo hi : Int) (A : Option Addr) (c : Nat) (w : World) (ha : In64 a) (hl40 : l.length ≤ 40) (hr0 : Rd w A 1 (l0.map encI)) (hr : Rd w A 1 (l.map encI)) (c0 : ∀ W, Rd W A 1 (l0.map encI) → Calls Try.prog 27 #[.slice A l0.length c] W fun e w' => e = .returned (.slice A l.length c) ∧ W = w') (h : lo ≤ hi) (h2 : a < lo) :
    Calls Try.prog 11 #[.int .i64 a, .slice A l0.length c, .int .i64 lo, .int .i64 hi] w fun e w' => e = .returned (.bool true) ∧ Below w.heap.size w w' := by
  have HR0 := Lib.hid hr0
  have HR := Lib.hid hr
  have C0 := Lib.hid c0
  have c1 := fun W => fixAbsC a W ha
  have c2 := fun W => fixClip a lo hi W
  rw [show clip a lo hi = lo from (by unfold clip; omega)] at c2
  have c3 := fun s l2 A c W h hB => law02Is (iabs a) s l2 A c 100 W (by omega) h hB
  have c4 := fun W h => fixMost a l A c W (by omega) h
  have c5 := fun W h => fixLeast a l A c W (by omega) h
  have c6 := fun A c W h => refMost a l A c W (by simp; omega) h
  have c7 := fun A c W h => refLeast a l A c W (by simp; omega) h
  rw [List.length_cons] at c6 c7
  generalize okN (iabs a) = an at c1 c3
  generalize okE (iabs a) = ae at c1 c3
  generalize maxL a l = mx at c4 c6
  generalize minL a l = mn at c5 c7
  have C1 := Lib.hid c1
  have C2 := Lib.hid c2
  have C3 := Lib.hid c3
  have C4 := Lib.hid c4
  have C5 := Lib.hid c5
  have C6 := Lib.hid c6
  have C7 := Lib.hid c7
  clear hr0 hr c0 c1 c2 c3 c4 c5 c6 c7
  have g1 : decide (hi < lo) = false := (by simp; omega)
  have g2 : decide (lo ≤ hi) = true := (by simpa using h)
  have g3 : (lo == a) = false := (by simp; omega)
  have g4 : decide (a < lo) = true := (by simpa using h2)
  go_enter Try.func11, Try.ntmps11
  go_wp2_with (first | (go_at_call 27; (with_reducible refine (C0.out _ HR0.out).mono ?_); rintro e w0 ⟨rfl, rfl⟩) | (go_at_call 47; (with_reducible refine (C1.out _).mono ?_); rintro e w1 ⟨rfl, hb1⟩; obtain ⟨fc1, fg1, hc1, hf1, hz1⟩ := bget hb1; (try simp at hz1)) | (go_at_call 17; (with_reducible refine (bigOf a _ ha).mono ?_); rintro e w2 ⟨s2, A2, l2, c2, rfl, hB2, hl2, hb2⟩; have HB2 := Lib.hid (isBig_abs hB2); clear hB2; obtain ⟨fc2, fg2, hc2, hf2, hz2⟩ := bget hb2; (try simp at hz2)) | (at_builtin; refine wpList_app rfl _ _ _ rfl elI (w2.heap.size + 1) _ _ rfl (Own.nil _ _ _ _) (some ⟨w2.heap.size + 1, 0, none⟩) 1 1 rfl [encI a] rfl (fun h => by cases h) (rd_oneAt2 (by simp)) (by simp [encI]; rfl) (by unfold maxLen; first | (simp; done) | omega | (simp; omega)) (by first | (simp; done) | omega | (simp; omega)) (by simp) ?_; intro v3 w3 hown3 hb3; obtain ⟨fc3, fg3, hc3, hf3, hz3⟩ := bget hb3; (try simp at hz3)) | (at_builtin; refine wpList_any rfl _ _ _ rfl elI (w2.heap.size + 1) _ _ rfl hown3 A l.length c rfl (l.map encI) (by simp) (HR.out.keep (by (repeat' (first | (with_reducible exact Below.refl _ _) | (with_reducible assumption) | (with_reducible refine Below.alloc ?_ ?_ _) | (with_reducible refine Below.setCell ?_ ?_ _) | (with_reducible refine Below.drew ?_) | (with_reducible refine below_drewN ?_ _) | (with_reducible refine below_via ?_ (by with_reducible assumption) ?_) | omega | (simp; done) | (simp; omega))))) (encI_one l) (by unfold maxLen; first | (simp; done) | omega | (simp; omega)) (by first | (simp; done) | omega | (simp; omega)) (by omega) ?_; intro v4 w4 hown4 hb4; obtain ⟨fc4, fg4, hc4, hf4, hz4⟩ := bget hb4; (try simp at hz4); have hown5 : Own w4 (w2.heap.size + 1) 2 1 v4 ((a :: l).map encI) := (by simpa using hown4); obtain ⟨A5, c5, rfl, _, _, hr5, _⟩ := hown5.shape; rw [List.length_map, List.length_cons]; have HR5 := Lib.hid hr5; clear hown3 hown4 hown5 hr5) | (go_at_call 48; (with_reducible refine (C2.out _).mono ?_); rintro e w6 ⟨rfl, hb6⟩; obtain ⟨fc6, fg6, hc6, hf6, hz6⟩ := bget hb6; (try simp at hz6)) | (go_at_call 34; (with_reducible refine (C3.out _ _ _ _ _ (by omega) (HB2.out.keep (by (repeat' (first | (with_reducible exact Below.refl _ _) | (with_reducible assumption) | (with_reducible refine Below.alloc ?_ ?_ _) | (with_reducible refine Below.setCell ?_ ?_ _) | (with_reducible refine Below.drew ?_) | (with_reducible refine below_drewN ?_ _) | (with_reducible refine below_via ?_ (by with_reducible assumption) ?_) | omega | (simp; done) | (simp; omega)))))).mono ?_); rintro e w7 ⟨rfl, hb7⟩; obtain ⟨fc7, fg7, hc7, hf7, hz7⟩ := bget hb7; (try simp at hz7)) | (go_at_call 49; (with_reducible refine (C4.out _ (HR.out.keep (by (repeat' (first | (with_reducible exact Below.refl _ _) | (with_reducible assumption) | (with_reducible refine Below.alloc ?_ ?_ _) | (with_reducible refine Below.setCell ?_ ?_ _) | (with_reducible refine Below.drew ?_) | (with_reducible refine below_drewN ?_ _) | (with_reducible refine below_via ?_ (by with_reducible assumption) ?_) | omega | (simp; done) | (simp; omega)))))).mono ?_); rintro e w8 ⟨rfl, rfl⟩) | (go_at_call 50; (with_reducible refine (C6.out _ _ _ (HR5.out.keep (by (repeat' (first | (with_reducible exact Below.refl _ _) | (with_reducible assumption) | (with_reducible refine Below.alloc ?_ ?_ _) | (with_reducible refine Below.setCell ?_ ?_ _) | (with_reducible refine Below.drew ?_) | (with_reducible refine below_drewN ?_ _) | (with_reducible refine below_via ?_ (by with_reducible assumption) ?_) | omega | (simp; done) | (simp; omega)))))).mono ?_); rintro e w9 ⟨rfl, hb9⟩; obtain ⟨fc9, fg9, hc9, hf9, hz9⟩ := bget hb9; (try simp at hz9)) | (go_at_call 51; (with_reducible refine (C5.out _ (HR.out.keep (by (repeat' (first | (with_reducible exact Below.refl _ _) | (with_reducible assumption) | (with_reducible refine Below.alloc ?_ ?_ _) | (with_reducible refine Below.setCell ?_ ?_ _) | (with_reducible refine Below.drew ?_) | (with_reducible refine below_drewN ?_ _) | (with_reducible refine below_via ?_ (by with_reducible assumption) ?_) | omega | (simp; done) | (simp; omega)))))).mono ?_); rintro e w10 ⟨rfl, rfl⟩) | (go_at_call 52; (with_reducible refine (C7.out _ _ _ (HR5.out.keep (by (repeat' (first | (with_reducible exact Below.refl _ _) | (with_reducible assumption) | (with_reducible refine Below.alloc ?_ ?_ _) | (with_reducible refine Below.setCell ?_ ?_ _) | (with_reducible refine Below.drew ?_) | (with_reducible refine below_drewN ?_ _) | (with_reducible refine below_via ?_ (by with_reducible assumption) ?_) | omega | (simp; done) | (simp; omega)))))).mono ?_); rintro e w11 ⟨rfl, hb11⟩; obtain ⟨fc11, fg11, hc11, hf11, hz11⟩ := bget hb11; (try simp at hz11)) | (go_at_call 30; (with_reducible refine (law02lives _).mono ?_); rintro e w12 ⟨rfl, hb12⟩; obtain ⟨fc12, fg12, hc12, hf12, hz12⟩ := bget hb12; (try simp at hz12)) | fail)
  go_ret
  exact ⟨rfl, by (repeat' (first | (with_reducible exact Below.refl _ _) | (with_reducible assumption) | (with_reducible refine Below.alloc ?_ ?_ _) | (with_reducible refine Below.setCell ?_ ?_ _) | (with_reducible refine Below.drew ?_) | (with_reducible refine below_drewN ?_ _) | (with_reducible refine below_via ?_ (by with_reducible assumption) ?_) | omega | (simp; done) | (simp; omega)))⟩
set_option maxRecDepth 100000 in
set_option maxHeartbeats 8000000 in
theorem fixPicks3 (l0 l : List Int) (a lo hi : Int) (A : Option Addr) (c : Nat) (w : World) (ha : In64 a) (hl40 : l.length ≤ 40) (hr0 : Rd w A 1 (l0.map encI)) (hr : Rd w A 1 (l.map encI)) (c0 : ∀ W, Rd W A 1 (l0.map encI) → Calls Try.prog 27 #[.slice A l0.length c] W fun e w' => e = .returned (.slice A l.length c) ∧ W = w') (h : lo ≤ hi) (h2 : lo ≤ a) (h3 : a ≤ hi) :
    Calls Try.prog 11 #[.int .i64 a, .slice A l0.length c, .int .i64 lo, .int .i64 hi] w fun e w' => e = .returned (.bool true) ∧ Below w.heap.size w w' := by
  have HR0 := Lib.hid hr0
  have HR := Lib.hid hr
  have C0 := Lib.hid c0
  have c1 := fun W => fixAbsC a W ha
  have c2 := fun W => fixClip a lo hi W
  rw [show clip a lo hi = a from (by unfold clip; omega)] at c2
  have c3 := fun s l2 A c W h hB => law02Is (iabs a) s l2 A c 100 W (by omega) h hB
  have c4 := fun W h => fixMost a l A c W (by omega) h
  have c5 := fun W h => fixLeast a l A c W (by omega) h
  have c6 := fun A c W h => refMost a l A c W (by simp; omega) h
  have c7 := fun A c W h => refLeast a l A c W (by simp; omega) h
  rw [List.length_cons] at c6 c7
  generalize okN (iabs a) = an at c1 c3
  generalize okE (iabs a) = ae at c1 c3
  generalize maxL a l = mx at c4 c6
  generalize minL a l = mn at c5 c7
  have C1 := Lib.hid c1
  have C2 := Lib.hid c2
  have C3 := Lib.hid c3
  have C4 := Lib.hid c4
  have C5 := Lib.hid c5
  have C6 := Lib.hid c6
  have C7 := Lib.hid c7
  clear hr0 hr c0 c1 c2 c3 c4 c5 c6 c7
  have g1 : decide (hi < lo) = false := (by simp; omega)
  have g2 : decide (lo ≤ hi) = true := (by simpa using h)
  have g3 : decide (lo ≤ a) = true := (by simpa using h2)
  have g4 : decide (a ≤ hi) = true := (by simpa using h3)
  go_enter Try.func11, Try.ntmps11
  go_wp2_with (first | (go_at_call 27; (with_reducible refine (C0.out _ HR0.out).mono ?_); rintro e w0 ⟨rfl, rfl⟩) | (go_at_call 47; (with_reducible refine (C1.out _).mono ?_); rintro e w1 ⟨rfl, hb1⟩; obtain ⟨fc1, fg1, hc1, hf1, hz1⟩ := bget hb1; (try simp at hz1)) | (go_at_call 17; (with_reducible refine (bigOf a _ ha).mono ?_); rintro e w2 ⟨s2, A2, l2, c2, rfl, hB2, hl2, hb2⟩; have HB2 := Lib.hid (isBig_abs hB2); clear hB2; obtain ⟨fc2, fg2, hc2, hf2, hz2⟩ := bget hb2; (try simp at hz2)) | (at_builtin; refine wpList_app rfl _ _ _ rfl elI (w2.heap.size + 1) _ _ rfl (Own.nil _ _ _ _) (some ⟨w2.heap.size + 1, 0, none⟩) 1 1 rfl [encI a] rfl (fun h => by cases h) (rd_oneAt2 (by simp)) (by simp [encI]; rfl) (by unfold maxLen; first | (simp; done) | omega | (simp; omega)) (by first | (simp; done) | omega | (simp; omega)) (by simp) ?_; intro v3 w3 hown3 hb3; obtain ⟨fc3, fg3, hc3, hf3, hz3⟩ := bget hb3; (try simp at hz3)) | (at_builtin; refine wpList_any rfl _ _ _ rfl elI (w2.heap.size + 1) _ _ rfl hown3 A l.length c rfl (l.map encI) (by simp) (HR.out.keep (by (repeat' (first | (with_reducible exact Below.refl _ _) | (with_reducible assumption) | (with_reducible refine Below.alloc ?_ ?_ _) | (with_reducible refine Below.setCell ?_ ?_ _) | (with_reducible refine Below.drew ?_) | (with_reducible refine below_drewN ?_ _) | (with_reducible refine below_via ?_ (by with_reducible assumption) ?_) | omega | (simp; done) | (simp; omega))))) (encI_one l) (by unfold maxLen; first | (simp; done) | omega | (simp; omega)) (by first | (simp; done) | omega | (simp; omega)) (by omega) ?_; intro v4 w4 hown4 hb4; obtain ⟨fc4, fg4, hc4, hf4, hz4⟩ := bget hb4; (try simp at hz4); have hown5 : Own w4 (w2.heap.size + 1) 2 1 v4 ((a :: l).map encI) := (by simpa using hown4); obtain ⟨A5, c5, rfl, _, _, hr5, _⟩ := hown5.shape; rw [List.length_map, List.length_cons]; have HR5 := Lib.hid hr5; clear hown3 hown4 hown5 hr5) | (go_at_call 48; (with_reducible refine (C2.out _).mono ?_); rintro e w6 ⟨rfl, hb6⟩; obtain ⟨fc6, fg6, hc6, hf6, hz6⟩ := bget hb6; (try simp at hz6)) | (go_at_call 34; (with_reducible refine (C3.out _ _ _ _ _ (by omega) (HB2.out.keep (by (repeat' (first | (with_reducible exact Below.refl _ _) | (with_reducible assumption) | (with_reducible refine Below.alloc ?_ ?_ _) | (with_reducible refine Below.setCell ?_ ?_ _) | (with_reducible refine Below.drew ?_) | (with_reducible refine below_drewN ?_ _) | (with_reducible refine below_via ?_ (by with_reducible assumption) ?_) | omega | (simp; done) | (simp; omega)))))).mono ?_); rintro e w7 ⟨rfl, hb7⟩; obtain ⟨fc7, fg7, hc7, hf7, hz7⟩ := bget hb7; (try simp at hz7)) | (go_at_call 49; (with_reducible refine (C4.out _ (HR.out.keep (by (repeat' (first | (with_reducible exact Below.refl _ _) | (with_reducible assumption) | (with_reducible refine Below.alloc ?_ ?_ _) | (with_reducible refine Below.setCell ?_ ?_ _) | (with_reducible refine Below.drew ?_) | (with_reducible refine below_drewN ?_ _) | (with_reducible refine below_via ?_ (by with_reducible assumption) ?_) | omega | (simp; done) | (simp; omega)))))).mono ?_); rintro e w8 ⟨rfl, rfl⟩) | (go_at_call 50; (with_reducible refine (C6.out _ _ _ (HR5.out.keep (by (repeat' (first | (with_reducible exact Below.refl _ _) | (with_reducible assumption) | (with_reducible refine Below.alloc ?_ ?_ _) | (with_reducible refine Below.setCell ?_ ?_ _) | (with_reducible refine Below.drew ?_) | (with_reducible refine below_drewN ?_ _) | (with_reducible refine below_via ?_ (by with_reducible assumption) ?_) | omega | (simp; done) | (simp; omega)))))).mono ?_); rintro e w9 ⟨rfl, hb9⟩; obtain ⟨fc9, fg9, hc9, hf9, hz9⟩ := bget hb9; (try simp at hz9)) | (go_at_call 51; (with_reducible refine (C5.out _ (HR.out.keep (by (repeat' (first | (with_reducible exact Below.refl _ _) | (with_reducible assumption) | (with_reducible refine Below.alloc ?_ ?_ _) | (with_reducible refine Below.setCell ?_ ?_ _) | (with_reducible refine Below.drew ?_) | (with_reducible refine below_drewN ?_ _) | (with_reducible refine below_via ?_ (by with_reducible assumption) ?_) | omega | (simp; done) | (simp; omega)))))).mono ?_); rintro e w10 ⟨rfl, rfl⟩) | (go_at_call 52; (with_reducible refine (C7.out _ _ _ (HR5.out.keep (by (repeat' (first | (with_reducible exact Below.refl _ _) | (with_reducible assumption) | (with_reducible refine Below.alloc ?_ ?_ _) | (with_reducible refine Below.setCell ?_ ?_ _) | (with_reducible refine Below.drew ?_) | (with_reducible refine below_drewN ?_ _) | (with_reducible refine below_via ?_ (by with_reducible assumption) ?_) | omega | (simp; done) | (simp; omega)))))).mono ?_); rintro e w11 ⟨rfl, hb11⟩; obtain ⟨fc11, fg11, hc11, hf11, hz11⟩ := bget hb11; (try simp at hz11)) | (go_at_call 30; (with_reducible refine (law02lives _).mono ?_); rintro e w12 ⟨rfl, hb12⟩; obtain ⟨fc12, fg12, hc12, hf12, hz12⟩ := bget hb12; (try simp at hz12)) | fail)
  go_ret
  exact ⟨rfl, by (repeat' (first | (with_reducible exact Below.refl _ _) | (with_reducible assumption) | (with_reducible refine Below.alloc ?_ ?_ _) | (with_reducible refine Below.setCell ?_ ?_ _) | (with_reducible refine Below.drew ?_) | (with_reducible refine below_drewN ?_ _) | (with_reducible refine below_via ?_ (by with_reducible assumption) ?_) | omega | (simp; done) | (simp; omega)))⟩
set_option maxRecDepth 100000 in
set_option maxHeartbeats 8000000 in
theorem fixPicks4 (l0 l : List Int) (a lo hi : Int) (A : Option Addr) (c : Nat) (w : World) (ha : In64 a) (hl40 : l.length ≤ 40) (hr0 : Rd w A 1 (l0.map encI)) (hr : Rd w A 1 (l.map encI)) (c0 : ∀ W, Rd W A 1 (l0.map encI) → Calls Try.prog 27 #[.slice A l0.length c] W fun e w' => e = .returned (.slice A l.length c) ∧ W = w') (h : lo ≤ hi) (h2 : hi < a) (_g6 : (hi == lo) = true) :
    Calls Try.prog 11 #[.int .i64 a, .slice A l0.length c, .int .i64 lo, .int .i64 hi] w fun e w' => e = .returned (.bool true) ∧ Below w.heap.size w w' := by
  have HR0 := Lib.hid hr0
  have HR := Lib.hid hr
  have C0 := Lib.hid c0
  have c1 := fun W => fixAbsC a W ha
  have c2 := fun W => fixClip a lo hi W
  rw [show clip a lo hi = hi from (by unfold clip; omega)] at c2
  have c3 := fun s l2 A c W h hB => law02Is (iabs a) s l2 A c 100 W (by omega) h hB
  have c4 := fun W h => fixMost a l A c W (by omega) h
  have c5 := fun W h => fixLeast a l A c W (by omega) h
  have c6 := fun A c W h => refMost a l A c W (by simp; omega) h
  have c7 := fun A c W h => refLeast a l A c W (by simp; omega) h
  rw [List.length_cons] at c6 c7
  generalize okN (iabs a) = an at c1 c3
  generalize okE (iabs a) = ae at c1 c3
  generalize maxL a l = mx at c4 c6
  generalize minL a l = mn at c5 c7
  have C1 := Lib.hid c1
  have C2 := Lib.hid c2
  have C3 := Lib.hid c3
  have C4 := Lib.hid c4
  have C5 := Lib.hid c5
  have C6 := Lib.hid c6
  have C7 := Lib.hid c7
  clear hr0 hr c0 c1 c2 c3 c4 c5 c6 c7
  have g1 : decide (hi < lo) = false := (by simp; omega)
  have g2 : decide (lo ≤ hi) = true := (by simpa using h)
  have g3 : (hi == a) = false := (by simp; omega)
  have g4 : decide (a < lo) = false := (by simp; omega)
  have g5 : decide (hi < a) = true := (by simpa using h2)
  go_enter Try.func11, Try.ntmps11
  go_wp2_with (first | (go_at_call 27; (with_reducible refine (C0.out _ HR0.out).mono ?_); rintro e w0 ⟨rfl, rfl⟩) | (go_at_call 47; (with_reducible refine (C1.out _).mono ?_); rintro e w1 ⟨rfl, hb1⟩; obtain ⟨fc1, fg1, hc1, hf1, hz1⟩ := bget hb1; (try simp at hz1)) | (go_at_call 17; (with_reducible refine (bigOf a _ ha).mono ?_); rintro e w2 ⟨s2, A2, l2, c2, rfl, hB2, hl2, hb2⟩; have HB2 := Lib.hid (isBig_abs hB2); clear hB2; obtain ⟨fc2, fg2, hc2, hf2, hz2⟩ := bget hb2; (try simp at hz2)) | (at_builtin; refine wpList_app rfl _ _ _ rfl elI (w2.heap.size + 1) _ _ rfl (Own.nil _ _ _ _) (some ⟨w2.heap.size + 1, 0, none⟩) 1 1 rfl [encI a] rfl (fun h => by cases h) (rd_oneAt2 (by simp)) (by simp [encI]; rfl) (by unfold maxLen; first | (simp; done) | omega | (simp; omega)) (by first | (simp; done) | omega | (simp; omega)) (by simp) ?_; intro v3 w3 hown3 hb3; obtain ⟨fc3, fg3, hc3, hf3, hz3⟩ := bget hb3; (try simp at hz3)) | (at_builtin; refine wpList_any rfl _ _ _ rfl elI (w2.heap.size + 1) _ _ rfl hown3 A l.length c rfl (l.map encI) (by simp) (HR.out.keep (by (repeat' (first | (with_reducible exact Below.refl _ _) | (with_reducible assumption) | (with_reducible refine Below.alloc ?_ ?_ _) | (with_reducible refine Below.setCell ?_ ?_ _) | (with_reducible refine Below.drew ?_) | (with_reducible refine below_drewN ?_ _) | (with_reducible refine below_via ?_ (by with_reducible assumption) ?_) | omega | (simp; done) | (simp; omega))))) (encI_one l) (by unfold maxLen; first | (simp; done) | omega | (simp; omega)) (by first | (simp; done) | omega | (simp; omega)) (by omega) ?_; intro v4 w4 hown4 hb4; obtain ⟨fc4, fg4, hc4, hf4, hz4⟩ := bget hb4; (try simp at hz4); have hown5 : Own w4 (w2.heap.size + 1) 2 1 v4 ((a :: l).map encI) := (by simpa using hown4); obtain ⟨A5, c5, rfl, _, _, hr5, _⟩ := hown5.shape; rw [List.length_map, List.length_cons]; have HR5 := Lib.hid hr5; clear hown3 hown4 hown5 hr5) | (go_at_call 48; (with_reducible refine (C2.out _).mono ?_); rintro e w6 ⟨rfl, hb6⟩; obtain ⟨fc6, fg6, hc6, hf6, hz6⟩ := bget hb6; (try simp at hz6)) | (go_at_call 34; (with_reducible refine (C3.out _ _ _ _ _ (by omega) (HB2.out.keep (by (repeat' (first | (with_reducible exact Below.refl _ _) | (with_reducible assumption) | (with_reducible refine Below.alloc ?_ ?_ _) | (with_reducible refine Below.setCell ?_ ?_ _) | (with_reducible refine Below.drew ?_) | (with_reducible refine below_drewN ?_ _) | (with_reducible refine below_via ?_ (by with_reducible assumption) ?_) | omega | (simp; done) | (simp; omega)))))).mono ?_); rintro e w7 ⟨rfl, hb7⟩; obtain ⟨fc7, fg7, hc7, hf7, hz7⟩ := bget hb7; (try simp at hz7)) | (go_at_call 49; (with_reducible refine (C4.out _ (HR.out.keep (by (repeat' (first | (with_reducible exact Below.refl _ _) | (with_reducible assumption) | (with_reducible refine Below.alloc ?_ ?_ _) | (with_reducible refine Below.setCell ?_ ?_ _) | (with_reducible refine Below.drew ?_) | (with_reducible refine below_drewN ?_ _) | (with_reducible refine below_via ?_ (by with_reducible assumption) ?_) | omega | (simp; done) | (simp; omega)))))).mono ?_); rintro e w8 ⟨rfl, rfl⟩) | (go_at_call 50; (with_reducible refine (C6.out _ _ _ (HR5.out.keep (by (repeat' (first | (with_reducible exact Below.refl _ _) | (with_reducible assumption) | (with_reducible refine Below.alloc ?_ ?_ _) | (with_reducible refine Below.setCell ?_ ?_ _) | (with_reducible refine Below.drew ?_) | (with_reducible refine below_drewN ?_ _) | (with_reducible refine below_via ?_ (by with_reducible assumption) ?_) | omega | (simp; done) | (simp; omega)))))).mono ?_); rintro e w9 ⟨rfl, hb9⟩; obtain ⟨fc9, fg9, hc9, hf9, hz9⟩ := bget hb9; (try simp at hz9)) | (go_at_call 51; (with_reducible refine (C5.out _ (HR.out.keep (by (repeat' (first | (with_reducible exact Below.refl _ _) | (with_reducible assumption) | (with_reducible refine Below.alloc ?_ ?_ _) | (with_reducible refine Below.setCell ?_ ?_ _) | (with_reducible refine Below.drew ?_) | (with_reducible refine below_drewN ?_ _) | (with_reducible refine below_via ?_ (by with_reducible assumption) ?_) | omega | (simp; done) | (simp; omega)))))).mono ?_); rintro e w10 ⟨rfl, rfl⟩) | (go_at_call 52; (with_reducible refine (C7.out _ _ _ (HR5.out.keep (by (repeat' (first | (with_reducible exact Below.refl _ _) | (with_reducible assumption) | (with_reducible refine Below.alloc ?_ ?_ _) | (with_reducible refine Below.setCell ?_ ?_ _) | (with_reducible refine Below.drew ?_) | (with_reducible refine below_drewN ?_ _) | (with_reducible refine below_via ?_ (by with_reducible assumption) ?_) | omega | (simp; done) | (simp; omega)))))).mono ?_); rintro e w11 ⟨rfl, hb11⟩; obtain ⟨fc11, fg11, hc11, hf11, hz11⟩ := bget hb11; (try simp at hz11)) | (go_at_call 30; (with_reducible refine (law02lives _).mono ?_); rintro e w12 ⟨rfl, hb12⟩; obtain ⟨fc12, fg12, hc12, hf12, hz12⟩ := bget hb12; (try simp at hz12)) | fail)
  go_ret
  exact ⟨rfl, by (repeat' (first | (with_reducible exact Below.refl _ _) | (with_reducible assumption) | (with_reducible refine Below.alloc ?_ ?_ _) | (with_reducible refine Below.setCell ?_ ?_ _) | (with_reducible refine Below.drew ?_) | (with_reducible refine below_drewN ?_ _) | (with_reducible refine below_via ?_ (by with_reducible assumption) ?_) | omega | (simp; done) | (simp; omega)))⟩
set_option maxRecDepth 100000 in
set_option maxHeartbeats 8000000 in
theorem fixPicks5 (l0 l : List Int) (a lo hi : Int) (A : Option Addr) (c : Nat) (w : World) (ha : In64 a) (hl40 : l.length ≤ 40) (hr0 : Rd w A 1 (l0.map encI)) (hr : Rd w A 1 (l.map encI)) (c0 : ∀ W, Rd W A 1 (l0.map encI) → Calls Try.prog 27 #[.slice A l0.length c] W fun e w' => e = .returned (.slice A l.length c) ∧ W = w') (h : lo ≤ hi) (h2 : hi < a) (_g6 : (hi == lo) = false) :
    Calls Try.prog 11 #[.int .i64 a, .slice A l0.length c, .int .i64 lo, .int .i64 hi] w fun e w' => e = .returned (.bool true) ∧ Below w.heap.size w w' := by
  have HR0 := Lib.hid hr0
  have HR := Lib.hid hr
  have C0 := Lib.hid c0
  have c1 := fun W => fixAbsC a W ha
  have c2 := fun W => fixClip a lo hi W
  rw [show clip a lo hi = hi from (by unfold clip; omega)] at c2
  have c3 := fun s l2 A c W h hB => law02Is (iabs a) s l2 A c 100 W (by omega) h hB
  have c4 := fun W h => fixMost a l A c W (by omega) h
  have c5 := fun W h => fixLeast a l A c W (by omega) h
  have c6 := fun A c W h => refMost a l A c W (by simp; omega) h
  have c7 := fun A c W h => refLeast a l A c W (by simp; omega) h
  rw [List.length_cons] at c6 c7
  generalize okN (iabs a) = an at c1 c3
  generalize okE (iabs a) = ae at c1 c3
  generalize maxL a l = mx at c4 c6
  generalize minL a l = mn at c5 c7
  have C1 := Lib.hid c1
  have C2 := Lib.hid c2
  have C3 := Lib.hid c3
  have C4 := Lib.hid c4
  have C5 := Lib.hid c5
  have C6 := Lib.hid c6
  have C7 := Lib.hid c7
  clear hr0 hr c0 c1 c2 c3 c4 c5 c6 c7
  have g1 : decide (hi < lo) = false := (by simp; omega)
  have g2 : decide (lo ≤ hi) = true := (by simpa using h)
  have g3 : (hi == a) = false := (by simp; omega)
  have g4 : decide (a < lo) = false := (by simp; omega)
  have g5 : decide (hi < a) = true := (by simpa using h2)
  go_enter Try.func11, Try.ntmps11
  go_wp2_with (first | (go_at_call 27; (with_reducible refine (C0.out _ HR0.out).mono ?_); rintro e w0 ⟨rfl, rfl⟩) | (go_at_call 47; (with_reducible refine (C1.out _).mono ?_); rintro e w1 ⟨rfl, hb1⟩; obtain ⟨fc1, fg1, hc1, hf1, hz1⟩ := bget hb1; (try simp at hz1)) | (go_at_call 17; (with_reducible refine (bigOf a _ ha).mono ?_); rintro e w2 ⟨s2, A2, l2, c2, rfl, hB2, hl2, hb2⟩; have HB2 := Lib.hid (isBig_abs hB2); clear hB2; obtain ⟨fc2, fg2, hc2, hf2, hz2⟩ := bget hb2; (try simp at hz2)) | (at_builtin; refine wpList_app rfl _ _ _ rfl elI (w2.heap.size + 1) _ _ rfl (Own.nil _ _ _ _) (some ⟨w2.heap.size + 1, 0, none⟩) 1 1 rfl [encI a] rfl (fun h => by cases h) (rd_oneAt2 (by simp)) (by simp [encI]; rfl) (by unfold maxLen; first | (simp; done) | omega | (simp; omega)) (by first | (simp; done) | omega | (simp; omega)) (by simp) ?_; intro v3 w3 hown3 hb3; obtain ⟨fc3, fg3, hc3, hf3, hz3⟩ := bget hb3; (try simp at hz3)) | (at_builtin; refine wpList_any rfl _ _ _ rfl elI (w2.heap.size + 1) _ _ rfl hown3 A l.length c rfl (l.map encI) (by simp) (HR.out.keep (by (repeat' (first | (with_reducible exact Below.refl _ _) | (with_reducible assumption) | (with_reducible refine Below.alloc ?_ ?_ _) | (with_reducible refine Below.setCell ?_ ?_ _) | (with_reducible refine Below.drew ?_) | (with_reducible refine below_drewN ?_ _) | (with_reducible refine below_via ?_ (by with_reducible assumption) ?_) | omega | (simp; done) | (simp; omega))))) (encI_one l) (by unfold maxLen; first | (simp; done) | omega | (simp; omega)) (by first | (simp; done) | omega | (simp; omega)) (by omega) ?_; intro v4 w4 hown4 hb4; obtain ⟨fc4, fg4, hc4, hf4, hz4⟩ := bget hb4; (try simp at hz4); have hown5 : Own w4 (w2.heap.size + 1) 2 1 v4 ((a :: l).map encI) := (by simpa using hown4); obtain ⟨A5, c5, rfl, _, _, hr5, _⟩ := hown5.shape; rw [List.length_map, List.length_cons]; have HR5 := Lib.hid hr5; clear hown3 hown4 hown5 hr5) | (go_at_call 48; (with_reducible refine (C2.out _).mono ?_); rintro e w6 ⟨rfl, hb6⟩; obtain ⟨fc6, fg6, hc6, hf6, hz6⟩ := bget hb6; (try simp at hz6)) | (go_at_call 34; (with_reducible refine (C3.out _ _ _ _ _ (by omega) (HB2.out.keep (by (repeat' (first | (with_reducible exact Below.refl _ _) | (with_reducible assumption) | (with_reducible refine Below.alloc ?_ ?_ _) | (with_reducible refine Below.setCell ?_ ?_ _) | (with_reducible refine Below.drew ?_) | (with_reducible refine below_drewN ?_ _) | (with_reducible refine below_via ?_ (by with_reducible assumption) ?_) | omega | (simp; done) | (simp; omega)))))).mono ?_); rintro e w7 ⟨rfl, hb7⟩; obtain ⟨fc7, fg7, hc7, hf7, hz7⟩ := bget hb7; (try simp at hz7)) | (go_at_call 49; (with_reducible refine (C4.out _ (HR.out.keep (by (repeat' (first | (with_reducible exact Below.refl _ _) | (with_reducible assumption) | (with_reducible refine Below.alloc ?_ ?_ _) | (with_reducible refine Below.setCell ?_ ?_ _) | (with_reducible refine Below.drew ?_) | (with_reducible refine below_drewN ?_ _) | (with_reducible refine below_via ?_ (by with_reducible assumption) ?_) | omega | (simp; done) | (simp; omega)))))).mono ?_); rintro e w8 ⟨rfl, rfl⟩) | (go_at_call 50; (with_reducible refine (C6.out _ _ _ (HR5.out.keep (by (repeat' (first | (with_reducible exact Below.refl _ _) | (with_reducible assumption) | (with_reducible refine Below.alloc ?_ ?_ _) | (with_reducible refine Below.setCell ?_ ?_ _) | (with_reducible refine Below.drew ?_) | (with_reducible refine below_drewN ?_ _) | (with_reducible refine below_via ?_ (by with_reducible assumption) ?_) | omega | (simp; done) | (simp; omega)))))).mono ?_); rintro e w9 ⟨rfl, hb9⟩; obtain ⟨fc9, fg9, hc9, hf9, hz9⟩ := bget hb9; (try simp at hz9)) | (go_at_call 51; (with_reducible refine (C5.out _ (HR.out.keep (by (repeat' (first | (with_reducible exact Below.refl _ _) | (with_reducible assumption) | (with_reducible refine Below.alloc ?_ ?_ _) | (with_reducible refine Below.setCell ?_ ?_ _) | (with_reducible refine Below.drew ?_) | (with_reducible refine below_drewN ?_ _) | (with_reducible refine below_via ?_ (by with_reducible assumption) ?_) | omega | (simp; done) | (simp; omega)))))).mono ?_); rintro e w10 ⟨rfl, rfl⟩) | (go_at_call 52; (with_reducible refine (C7.out _ _ _ (HR5.out.keep (by (repeat' (first | (with_reducible exact Below.refl _ _) | (with_reducible assumption) | (with_reducible refine Below.alloc ?_ ?_ _) | (with_reducible refine Below.setCell ?_ ?_ _) | (with_reducible refine Below.drew ?_) | (with_reducible refine below_drewN ?_ _) | (with_reducible refine below_via ?_ (by with_reducible assumption) ?_) | omega | (simp; done) | (simp; omega)))))).mono ?_); rintro e w11 ⟨rfl, hb11⟩; obtain ⟨fc11, fg11, hc11, hf11, hz11⟩ := bget hb11; (try simp at hz11)) | (go_at_call 30; (with_reducible refine (law02lives _).mono ?_); rintro e w12 ⟨rfl, hb12⟩; obtain ⟨fc12, fg12, hc12, hf12, hz12⟩ := bget hb12; (try simp at hz12)) | fail)
  go_ret
  exact ⟨rfl, by (repeat' (first | (with_reducible exact Below.refl _ _) | (with_reducible assumption) | (with_reducible refine Below.alloc ?_ ?_ _) | (with_reducible refine Below.setCell ?_ ?_ _) | (with_reducible refine Below.drew ?_) | (with_reducible refine below_drewN ?_ _) | (with_reducible refine below_via ?_ (by with_reducible assumption) ?_) | omega | (simp; done) | (simp; omega)))⟩
theorem fixPicks (a : Int) (l0 : List Int) (lo hi : Int) (A : Option Addr) (c : Nat) (w : World) (ha : In64 a) (hlc : l0.length ≤ c) (hcm : c ≤ maxLen) (hr : Rd w A 1 (l0.map encI)) :
    Calls Try.prog 11 #[.int .i64 a, .slice A l0.length c, .int .i64 lo, .int .i64 hi] w fun e w' => e = .returned (.bool true) ∧ Below w.heap.size w w' := by
  have c0 := fun W h => law02few l0 _ (Lib.hid rfl) A c W hlc hcm h
  have h40 : (l0.take 40).length ≤ 40 := by rw [List.length_take]; omega
  by_cases h : hi < lo
  · exact fixPicks1 l0 _ a lo hi A c w ha h40 hr (rd_take hr 40) c0 h
  by_cases h2 : a < lo
  · exact fixPicks2 l0 _ a lo hi A c w ha h40 hr (rd_take hr 40) c0 (by omega) h2
  by_cases h3 : a ≤ hi
  · exact fixPicks3 l0 _ a lo hi A c w ha h40 hr (rd_take hr 40) c0 (by omega) (by omega) h3
  cases h6 : (hi == lo)
  · exact fixPicks5 l0 _ a lo hi A c w ha h40 hr (rd_take hr 40) c0 (by omega) (by omega) h6
  · exact fixPicks4 l0 _ a lo hi A c w ha h40 hr (rd_take hr 40) c0 (by omega) (by omega) h6
end Go.Proofs.Ytjolddbfkcbnpaa
