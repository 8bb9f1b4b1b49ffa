/- The law FixBack: its walk. -/
import Derived.Test.YtjolddbfkcbnpaaLawF1
import Derived.Test.YtjolddbfkcbnpaaBig9
namespace Go.Proofs.Ytjolddbfkcbnpaa
open Go.RowKit
theorem elI : Elem Try.prog 47 2 1 8 := elem_of Try.underlying47 (z := .int .i64 0) (by kernel_rfl) rfl (by omega)
theorem encI_one (l : List Int) : ∀ r ∈ l.map encI, r.length = 1 ∧ ∀ u ∈ r, u.oneCell' = true := by
  intro r hr
  obtain ⟨m, _, rfl⟩ := List.mem_map.1 hr
  refine ⟨rfl, ?_⟩
  simp only [encI, List.mem_cons, List.not_mem_nil, or_false, forall_eq]
  rfl
theorem fixSum (l : List Int) (A : Option Addr) (c : Nat) (w : World) (hl : l.length ≤ 1099511627776) (hin : ∀ n ∈ l, In64 n) (hr : Rd w A 1 (l.map encI)) :
    Calls Try.prog 28 #[.slice A l.length c] w fun e w' => e = .returned (.tuple #[.int .i64 (okN l.sum), .int .i64 (okE l.sum)]) ∧ Below w.heap.size w w' := by
  by_cases h : In64 l.sum
  · have hk := okN_yes h
    rw [hk.1, hk.2]
    exact fixSumYes l A c w hl hin hr h
  · have hk := okN_no h
    rw [hk.1, hk.2]
    exact fixSumNo l A c w hl hin hr h
theorem drop_pred_cons {l : List Int} {k : Nat} (h0 : 0 < k) (hk : k ≤ l.length) : l.drop (k - 1) = l.getD (k - 1) 0 :: l.drop k := by
  rw [List.drop_eq_getElem_cons (show k - 1 < l.length by omega), show k - 1 + 1 = k by omega, List.getD_eq_getElem?_getD, List.getElem?_eq_getElem (show k - 1 < l.length by omega)]
  rfl
set_option maxRecDepth 100000 in
set_option maxHeartbeats 8000000 in
theorem fixBackNeg (l0 l : List Int) (a n d : Int) (A : Option Addr) (c : Nat) (w : World) (ha : In64 a) (hn : In64 n) (hl40 : l.length ≤ 40) (hin : ∀ x ∈ l, In64 x) (hr0 : Rd w A 1 (l0.map encI)) (hr : Rd w A 1 (l.map encI)) (c0 : ∀ W, Rd W A 1 (l0.map encI) → Calls Try.prog 27 #[.slice A l0.length c] W fun e w' => e = .returned (.slice A l.length c) ∧ W = w') (hd : d < 0) :
    Calls Try.prog 6 #[.slice A l0.length c, .int .i64 a, .int .i64 n, .int .i64 d] w fun e w' => e = .returned (.bool true) ∧ Below w.heap.size w w' := by
  have HR0 := Lib.hid hr0
  have HR := Lib.hid hr
  have C0 := Lib.hid c0
  have HIN := Lib.hid hin
  have hrl : l.reverse.length ≤ 40 := (by rw [List.length_reverse]; exact hl40)
  have hrin : ∀ x ∈ l.reverse, In64 x := fun x hx => hin x (List.mem_reverse.1 hx)
  have hsr : l.reverse.sum = l.sum := List.sum_reverse l
  have c7 := fun A c W h => fixSum l A c W (by omega) hin h
  have c8 := fun A c W h => fixSum l.reverse A c W (by omega) hrin h
  rw [hsr, List.length_reverse] at c8
  generalize okN l.sum = sn at c7 c8
  generalize okE l.sum = se at c7 c8
  have C7 := Lib.hid c7
  have C8 := Lib.hid c8
  clear hr0 hr c0 hin hrin hsr c7 c8
  skip
  go_enter Try.func6, Try.ntmps6
  go_wp2_with (first | (go_at_call 27; (with_reducible refine (C0.out _ HR0.out).mono ?_); rintro e w0 ⟨rfl, rfl⟩) | fail)
  go_loopw [9, 10] (fun v i wr => ∃ k : Nat, k ≤ l.length ∧ i = .int .i64 k ∧ Own wr w.heap.size 2 1 v ((l.drop k).reverse.map encI) ∧ Below w.heap.size w wr) (fun _ i _ => (intOf i).toNat)
  case atStart => exact ⟨l.length, Nat.le_refl _, rfl, by rw [List.drop_length]; exact Own.nil _ _ _ _, by (repeat' (first | (with_reducible exact Below.refl _ _) | (with_reducible assumption) | (with_reducible refine Below.alloc ?_ ?_ _) | (with_reducible refine Below.setCell ?_ ?_ _) | (with_reducible refine Below.drew ?_) | (with_reducible refine below_drewN ?_ _) | (with_reducible refine below_via ?_ (by with_reducible assumption) ?_) | omega | (simp; done) | (simp; omega)))⟩
  case round =>
    obtain ⟨k, hk, rfl, hown, hbl⟩ := hrel
    have hz := hbl.size
    have Hown := Lib.hid hown
    have Hbl := Lib.hid hbl
    clear hown hbl
    by_cases h0 : k = 0
    · subst h0
      obtain ⟨A5, c5, rfl, _, _, hr5, _⟩ := Hown.out.shape
      rw [List.length_map]
      rw [List.drop_zero] at hr5
      have HR5 := Lib.hid hr5
      rw [List.drop_zero]
      clear hr5
      (go_wp2_with (first | (go_at_call 28; (with_reducible refine (C7.out _ _ _ (HR.out.keep (by have hbl := Hbl.out; (repeat' (first | (with_reducible exact Below.refl _ _) | (with_reducible assumption) | (with_reducible refine Below.alloc ?_ ?_ _) | (with_reducible refine Below.setCell ?_ ?_ _) | (with_reducible refine Below.drew ?_) | (with_reducible refine below_drewN ?_ _) | (with_reducible refine below_via ?_ (by with_reducible assumption) ?_) | omega | (simp; done) | (simp; omega)))))).mono ?_); rintro e w7 ⟨rfl, hb7⟩; obtain ⟨fc7, fg7, hc7, hf7, hz7⟩ := bget hb7; (try simp at hz7)) | (go_at_call 28; (with_reducible refine (C8.out _ _ _ (HR5.out.keep (by (repeat' (first | (with_reducible exact Below.refl _ _) | (with_reducible assumption) | (with_reducible refine Below.alloc ?_ ?_ _) | (with_reducible refine Below.setCell ?_ ?_ _) | (with_reducible refine Below.drew ?_) | (with_reducible refine below_drewN ?_ _) | (with_reducible refine below_via ?_ (by with_reducible assumption) ?_) | omega | (simp; done) | (simp; omega)))))).mono ?_); rintro e w8 ⟨rfl, hb8⟩; obtain ⟨fc8, fg8, hc8, hf8, hz8⟩ := bget hb8; (try simp at hz8)) | (go_at_call 29; (with_reducible refine (fixScaleNeg a n d _ ha hn hd).mono ?_); rintro e w9 ⟨rfl, hb9⟩; obtain ⟨fc9, fg9, hc9, hf9, hz9⟩ := bget hb9; (try simp at hz9))  | (go_at_call 30; (with_reducible refine (law02lives _).mono ?_); rintro e w20 ⟨rfl, hb20⟩; obtain ⟨fc20, fg20, hc20, hf20, hz20⟩ := bget hb20; (try simp at hz20)) | fail); go_ret; exact ⟨rfl, by (have hbl := Hbl.out; (repeat' (first | (with_reducible exact Below.refl _ _) | (with_reducible assumption) | (with_reducible refine Below.alloc ?_ ?_ _) | (with_reducible refine Below.setCell ?_ ?_ _) | (with_reducible refine Below.drew ?_) | (with_reducible refine below_drewN ?_ _) | (with_reducible refine below_via ?_ (by with_reducible assumption) ?_) | omega | (simp; done) | (simp; omega))))⟩)
    · have k0 : 0 < k := (by omega)
      have d0 : decide ((0 : Int) < (k : Int)) = true := (by simpa using (show (0 : Int) < k from by omega))
      have HD := Lib.hid (drop_pred_cons k0 hk)
      obtain ⟨x, hx⟩ : ∃ x, x = l.getD (k - 1) 0 := ⟨_, rfl⟩
      obtain ⟨b, o, rfl, hb, hq⟩ := HR.out (k - 1) (encI x) (by rw [List.getElem?_map, List.getElem?_eq_getElem (show k - 1 < l.length by omega), hx, List.getD_eq_getElem?_getD, List.getElem?_eq_getElem (show k - 1 < l.length by omega)]; rfl)
      rw [← hx] at HD
      have q1 := (Hbl.out.cell (p := ⟨b, o + (k - 1) * 1 + 0, none⟩) hb).trans (hq 0 _ rfl)
      simp at q1
      clear hq hx
      go_wp2_with (first | (at_builtin; refine wpList_app rfl _ _ _ rfl elI w.heap.size _ _ rfl ((Hown.out).alloc _) (some ⟨wr.heap.size, 0, none⟩) 1 1 rfl [encI x] rfl (fun h => by cases h) rd_one ((by simp [encI]; rfl)) (by unfold maxLen; first | (simp; done) | omega | (simp; omega)) (by first | (simp; done) | omega | (simp; omega)) (by first | omega | (simp; done) | (simp; omega)) ?_; intro v' w3 hown3 hb3) | fail)
      go_roundw
      case rel => exact ⟨k - 1, by omega, by go_num, by rw [HD.out, List.reverse_cons, List.map_append]; simpa using hown3, (by have hbl := Hbl.out; (repeat' (first | (with_reducible exact Below.refl _ _) | (with_reducible assumption) | (with_reducible refine Below.alloc ?_ ?_ _) | (with_reducible refine Below.setCell ?_ ?_ _) | (with_reducible refine Below.drew ?_) | (with_reducible refine below_drewN ?_ _) | (with_reducible refine below_via ?_ (by with_reducible assumption) ?_) | omega | (simp; done) | (simp; omega))))⟩
      case measure => (simp [intOf]; omega)
set_option maxRecDepth 100000 in
set_option maxHeartbeats 8000000 in
theorem fixBackZero (l0 l : List Int) (a n d : Int) (A : Option Addr) (c : Nat) (w : World) (ha : In64 a) (hn : In64 n) (hl40 : l.length ≤ 40) (hin : ∀ x ∈ l, In64 x) (hr0 : Rd w A 1 (l0.map encI)) (hr : Rd w A 1 (l.map encI)) (c0 : ∀ W, Rd W A 1 (l0.map encI) → Calls Try.prog 27 #[.slice A l0.length c] W fun e w' => e = .returned (.slice A l.length c) ∧ W = w') (_hd : d = 0) :
    Calls Try.prog 6 #[.slice A l0.length c, .int .i64 a, .int .i64 n, .int .i64 0] w fun e w' => e = .returned (.bool true) ∧ Below w.heap.size w w' := by
  have HR0 := Lib.hid hr0
  have HR := Lib.hid hr
  have C0 := Lib.hid c0
  have HIN := Lib.hid hin
  have hrl : l.reverse.length ≤ 40 := (by rw [List.length_reverse]; exact hl40)
  have hrin : ∀ x ∈ l.reverse, In64 x := fun x hx => hin x (List.mem_reverse.1 hx)
  have hsr : l.reverse.sum = l.sum := List.sum_reverse l
  have c7 := fun A c W h => fixSum l A c W (by omega) hin h
  have c8 := fun A c W h => fixSum l.reverse A c W (by omega) hrin h
  rw [hsr, List.length_reverse] at c8
  generalize okN l.sum = sn at c7 c8
  generalize okE l.sum = se at c7 c8
  have C7 := Lib.hid c7
  have C8 := Lib.hid c8
  clear hr0 hr c0 hin hrin hsr c7 c8
  skip
  go_enter Try.func6, Try.ntmps6
  go_wp2_with (first | (go_at_call 27; (with_reducible refine (C0.out _ HR0.out).mono ?_); rintro e w0 ⟨rfl, rfl⟩) | fail)
  go_loopw [9, 10] (fun v i wr => ∃ k : Nat, k ≤ l.length ∧ i = .int .i64 k ∧ Own wr w.heap.size 2 1 v ((l.drop k).reverse.map encI) ∧ Below w.heap.size w wr) (fun _ i _ => (intOf i).toNat)
  case atStart => exact ⟨l.length, Nat.le_refl _, rfl, by rw [List.drop_length]; exact Own.nil _ _ _ _, by (repeat' (first | (with_reducible exact Below.refl _ _) | (with_reducible assumption) | (with_reducible refine Below.alloc ?_ ?_ _) | (with_reducible refine Below.setCell ?_ ?_ _) | (with_reducible refine Below.drew ?_) | (with_reducible refine below_drewN ?_ _) | (with_reducible refine below_via ?_ (by with_reducible assumption) ?_) | omega | (simp; done) | (simp; omega)))⟩
  case round =>
    obtain ⟨k, hk, rfl, hown, hbl⟩ := hrel
    have hz := hbl.size
    have Hown := Lib.hid hown
    have Hbl := Lib.hid hbl
    clear hown hbl
    by_cases h0 : k = 0
    · subst h0
      obtain ⟨A5, c5, rfl, _, _, hr5, _⟩ := Hown.out.shape
      rw [List.length_map]
      rw [List.drop_zero] at hr5
      have HR5 := Lib.hid hr5
      rw [List.drop_zero]
      clear hr5
      (go_wp2_with (first | (go_at_call 28; (with_reducible refine (C7.out _ _ _ (HR.out.keep (by have hbl := Hbl.out; (repeat' (first | (with_reducible exact Below.refl _ _) | (with_reducible assumption) | (with_reducible refine Below.alloc ?_ ?_ _) | (with_reducible refine Below.setCell ?_ ?_ _) | (with_reducible refine Below.drew ?_) | (with_reducible refine below_drewN ?_ _) | (with_reducible refine below_via ?_ (by with_reducible assumption) ?_) | omega | (simp; done) | (simp; omega)))))).mono ?_); rintro e w7 ⟨rfl, hb7⟩; obtain ⟨fc7, fg7, hc7, hf7, hz7⟩ := bget hb7; (try simp at hz7)) | (go_at_call 28; (with_reducible refine (C8.out _ _ _ (HR5.out.keep (by (repeat' (first | (with_reducible exact Below.refl _ _) | (with_reducible assumption) | (with_reducible refine Below.alloc ?_ ?_ _) | (with_reducible refine Below.setCell ?_ ?_ _) | (with_reducible refine Below.drew ?_) | (with_reducible refine below_drewN ?_ _) | (with_reducible refine below_via ?_ (by with_reducible assumption) ?_) | omega | (simp; done) | (simp; omega)))))).mono ?_); rintro e w8 ⟨rfl, hb8⟩; obtain ⟨fc8, fg8, hc8, hf8, hz8⟩ := bget hb8; (try simp at hz8)) | (go_at_call 29; (with_reducible refine (fixScaleZero a n _ ha hn).mono ?_); rintro e w9 ⟨rfl, hb9⟩; obtain ⟨fc9, fg9, hc9, hf9, hz9⟩ := bget hb9; (try simp at hz9))  | (go_at_call 30; (with_reducible refine (law02lives _).mono ?_); rintro e w20 ⟨rfl, hb20⟩; obtain ⟨fc20, fg20, hc20, hf20, hz20⟩ := bget hb20; (try simp at hz20)) | fail); go_ret; exact ⟨rfl, by (have hbl := Hbl.out; (repeat' (first | (with_reducible exact Below.refl _ _) | (with_reducible assumption) | (with_reducible refine Below.alloc ?_ ?_ _) | (with_reducible refine Below.setCell ?_ ?_ _) | (with_reducible refine Below.drew ?_) | (with_reducible refine below_drewN ?_ _) | (with_reducible refine below_via ?_ (by with_reducible assumption) ?_) | omega | (simp; done) | (simp; omega))))⟩)
    · have k0 : 0 < k := (by omega)
      have d0 : decide ((0 : Int) < (k : Int)) = true := (by simpa using (show (0 : Int) < k from by omega))
      have HD := Lib.hid (drop_pred_cons k0 hk)
      obtain ⟨x, hx⟩ : ∃ x, x = l.getD (k - 1) 0 := ⟨_, rfl⟩
      obtain ⟨b, o, rfl, hb, hq⟩ := HR.out (k - 1) (encI x) (by rw [List.getElem?_map, List.getElem?_eq_getElem (show k - 1 < l.length by omega), hx, List.getD_eq_getElem?_getD, List.getElem?_eq_getElem (show k - 1 < l.length by omega)]; rfl)
      rw [← hx] at HD
      have q1 := (Hbl.out.cell (p := ⟨b, o + (k - 1) * 1 + 0, none⟩) hb).trans (hq 0 _ rfl)
      simp at q1
      clear hq hx
      go_wp2_with (first | (at_builtin; refine wpList_app rfl _ _ _ rfl elI w.heap.size _ _ rfl ((Hown.out).alloc _) (some ⟨wr.heap.size, 0, none⟩) 1 1 rfl [encI x] rfl (fun h => by cases h) rd_one ((by simp [encI]; rfl)) (by unfold maxLen; first | (simp; done) | omega | (simp; omega)) (by first | (simp; done) | omega | (simp; omega)) (by first | omega | (simp; done) | (simp; omega)) ?_; intro v' w3 hown3 hb3) | fail)
      go_roundw
      case rel => exact ⟨k - 1, by omega, by go_num, by rw [HD.out, List.reverse_cons, List.map_append]; simpa using hown3, (by have hbl := Hbl.out; (repeat' (first | (with_reducible exact Below.refl _ _) | (with_reducible assumption) | (with_reducible refine Below.alloc ?_ ?_ _) | (with_reducible refine Below.setCell ?_ ?_ _) | (with_reducible refine Below.drew ?_) | (with_reducible refine below_drewN ?_ _) | (with_reducible refine below_via ?_ (by with_reducible assumption) ?_) | omega | (simp; done) | (simp; omega))))⟩
      case measure => (simp [intOf]; omega)
set_option maxRecDepth 100000 in
set_option maxHeartbeats 8000000 in
theorem fixBackNo (l0 l : List Int) (a n d : Int) (A : Option Addr) (c : Nat) (w : World) (ha : In64 a) (hn : In64 n) (hl40 : l.length ≤ 40) (hin : ∀ x ∈ l, In64 x) (hr0 : Rd w A 1 (l0.map encI)) (hr : Rd w A 1 (l.map encI)) (c0 : ∀ W, Rd W A 1 (l0.map encI) → Calls Try.prog 27 #[.slice A l0.length c] W fun e w' => e = .returned (.slice A l.length c) ∧ W = w') (hd : 0 < d) (hd1 : d ≤ 9223372036854775807) (h : ¬ In64 (a * n / d)) :
    Calls Try.prog 6 #[.slice A l0.length c, .int .i64 a, .int .i64 n, .int .i64 d] w fun e w' => e = .returned (.bool true) ∧ Below w.heap.size w w' := by
  have HR0 := Lib.hid hr0
  have HR := Lib.hid hr
  have C0 := Lib.hid c0
  have HIN := Lib.hid hin
  have hrl : l.reverse.length ≤ 40 := (by rw [List.length_reverse]; exact hl40)
  have hrin : ∀ x ∈ l.reverse, In64 x := fun x hx => hin x (List.mem_reverse.1 hx)
  have hsr : l.reverse.sum = l.sum := List.sum_reverse l
  have c7 := fun A c W h => fixSum l A c W (by omega) hin h
  have c8 := fun A c W h => fixSum l.reverse A c W (by omega) hrin h
  rw [hsr, List.length_reverse] at c8
  generalize okN l.sum = sn at c7 c8
  generalize okE l.sum = se at c7 c8
  have C7 := Lib.hid c7
  have C8 := Lib.hid c8
  clear hr0 hr c0 hin hrin hsr c7 c8
  skip
  go_enter Try.func6, Try.ntmps6
  go_wp2_with (first | (go_at_call 27; (with_reducible refine (C0.out _ HR0.out).mono ?_); rintro e w0 ⟨rfl, rfl⟩) | fail)
  go_loopw [9, 10] (fun v i wr => ∃ k : Nat, k ≤ l.length ∧ i = .int .i64 k ∧ Own wr w.heap.size 2 1 v ((l.drop k).reverse.map encI) ∧ Below w.heap.size w wr) (fun _ i _ => (intOf i).toNat)
  case atStart => exact ⟨l.length, Nat.le_refl _, rfl, by rw [List.drop_length]; exact Own.nil _ _ _ _, by (repeat' (first | (with_reducible exact Below.refl _ _) | (with_reducible assumption) | (with_reducible refine Below.alloc ?_ ?_ _) | (with_reducible refine Below.setCell ?_ ?_ _) | (with_reducible refine Below.drew ?_) | (with_reducible refine below_drewN ?_ _) | (with_reducible refine below_via ?_ (by with_reducible assumption) ?_) | omega | (simp; done) | (simp; omega)))⟩
  case round =>
    obtain ⟨k, hk, rfl, hown, hbl⟩ := hrel
    have hz := hbl.size
    have Hown := Lib.hid hown
    have Hbl := Lib.hid hbl
    clear hown hbl
    by_cases h0 : k = 0
    · subst h0
      obtain ⟨A5, c5, rfl, _, _, hr5, _⟩ := Hown.out.shape
      rw [List.length_map]
      rw [List.drop_zero] at hr5
      have HR5 := Lib.hid hr5
      rw [List.drop_zero]
      clear hr5
      (go_wp2_with (first | (go_at_call 28; (with_reducible refine (C7.out _ _ _ (HR.out.keep (by have hbl := Hbl.out; (repeat' (first | (with_reducible exact Below.refl _ _) | (with_reducible assumption) | (with_reducible refine Below.alloc ?_ ?_ _) | (with_reducible refine Below.setCell ?_ ?_ _) | (with_reducible refine Below.drew ?_) | (with_reducible refine below_drewN ?_ _) | (with_reducible refine below_via ?_ (by with_reducible assumption) ?_) | omega | (simp; done) | (simp; omega)))))).mono ?_); rintro e w7 ⟨rfl, hb7⟩; obtain ⟨fc7, fg7, hc7, hf7, hz7⟩ := bget hb7; (try simp at hz7)) | (go_at_call 28; (with_reducible refine (C8.out _ _ _ (HR5.out.keep (by (repeat' (first | (with_reducible exact Below.refl _ _) | (with_reducible assumption) | (with_reducible refine Below.alloc ?_ ?_ _) | (with_reducible refine Below.setCell ?_ ?_ _) | (with_reducible refine Below.drew ?_) | (with_reducible refine below_drewN ?_ _) | (with_reducible refine below_via ?_ (by with_reducible assumption) ?_) | omega | (simp; done) | (simp; omega)))))).mono ?_); rintro e w8 ⟨rfl, hb8⟩; obtain ⟨fc8, fg8, hc8, hf8, hz8⟩ := bget hb8; (try simp at hz8)) | (go_at_call 29; (with_reducible refine (fixScaleNo a n d _ ha hn hd hd1 h).mono ?_); rintro e w9 ⟨rfl, hb9⟩; obtain ⟨fc9, fg9, hc9, hf9, hz9⟩ := bget hb9; (try simp at hz9))  | (go_at_call 30; (with_reducible refine (law02lives _).mono ?_); rintro e w20 ⟨rfl, hb20⟩; obtain ⟨fc20, fg20, hc20, hf20, hz20⟩ := bget hb20; (try simp at hz20)) | fail); go_ret; exact ⟨rfl, by (have hbl := Hbl.out; (repeat' (first | (with_reducible exact Below.refl _ _) | (with_reducible assumption) | (with_reducible refine Below.alloc ?_ ?_ _) | (with_reducible refine Below.setCell ?_ ?_ _) | (with_reducible refine Below.drew ?_) | (with_reducible refine below_drewN ?_ _) | (with_reducible refine below_via ?_ (by with_reducible assumption) ?_) | omega | (simp; done) | (simp; omega))))⟩)
    · have k0 : 0 < k := (by omega)
      have d0 : decide ((0 : Int) < (k : Int)) = true := (by simpa using (show (0 : Int) < k from by omega))
      have HD := Lib.hid (drop_pred_cons k0 hk)
      obtain ⟨x, hx⟩ : ∃ x, x = l.getD (k - 1) 0 := ⟨_, rfl⟩
      obtain ⟨b, o, rfl, hb, hq⟩ := HR.out (k - 1) (encI x) (by rw [List.getElem?_map, List.getElem?_eq_getElem (show k - 1 < l.length by omega), hx, List.getD_eq_getElem?_getD, List.getElem?_eq_getElem (show k - 1 < l.length by omega)]; rfl)
      rw [← hx] at HD
      have q1 := (Hbl.out.cell (p := ⟨b, o + (k - 1) * 1 + 0, none⟩) hb).trans (hq 0 _ rfl)
      simp at q1
      clear hq hx
      go_wp2_with (first | (at_builtin; refine wpList_app rfl _ _ _ rfl elI w.heap.size _ _ rfl ((Hown.out).alloc _) (some ⟨wr.heap.size, 0, none⟩) 1 1 rfl [encI x] rfl (fun h => by cases h) rd_one ((by simp [encI]; rfl)) (by unfold maxLen; first | (simp; done) | omega | (simp; omega)) (by first | (simp; done) | omega | (simp; omega)) (by first | omega | (simp; done) | (simp; omega)) ?_; intro v' w3 hown3 hb3) | fail)
      go_roundw
      case rel => exact ⟨k - 1, by omega, by go_num, by rw [HD.out, List.reverse_cons, List.map_append]; simpa using hown3, (by have hbl := Hbl.out; (repeat' (first | (with_reducible exact Below.refl _ _) | (with_reducible assumption) | (with_reducible refine Below.alloc ?_ ?_ _) | (with_reducible refine Below.setCell ?_ ?_ _) | (with_reducible refine Below.drew ?_) | (with_reducible refine below_drewN ?_ _) | (with_reducible refine below_via ?_ (by with_reducible assumption) ?_) | omega | (simp; done) | (simp; omega))))⟩
      case measure => (simp [intOf]; omega)
set_option maxRecDepth 100000 in
set_option maxHeartbeats 8000000 in
theorem fixBackYes (l0 l : List Int) (a n d : Int) (A : Option Addr) (c : Nat) (w : World) (ha : In64 a) (hn : In64 n) (hl40 : l.length ≤ 40) (hin : ∀ x ∈ l, In64 x) (hr0 : Rd w A 1 (l0.map encI)) (hr : Rd w A 1 (l.map encI)) (c0 : ∀ W, Rd W A 1 (l0.map encI) → Calls Try.prog 27 #[.slice A l0.length c] W fun e w' => e = .returned (.slice A l.length c) ∧ W = w') (hd : 0 < d) (hd1 : d ≤ 9223372036854775807) (h : In64 (a * n / d)) :
    Calls Try.prog 6 #[.slice A l0.length c, .int .i64 a, .int .i64 n, .int .i64 d] w fun e w' => e = .returned (.bool true) ∧ Below w.heap.size w w' := by
  have HR0 := Lib.hid hr0
  have HR := Lib.hid hr
  have C0 := Lib.hid c0
  have HIN := Lib.hid hin
  have hrl : l.reverse.length ≤ 40 := (by rw [List.length_reverse]; exact hl40)
  have hrin : ∀ x ∈ l.reverse, In64 x := fun x hx => hin x (List.mem_reverse.1 hx)
  have hsr : l.reverse.sum = l.sum := List.sum_reverse l
  have c7 := fun A c W h => fixSum l A c W (by omega) hin h
  have c8 := fun A c W h => fixSum l.reverse A c W (by omega) hrin h
  rw [hsr, List.length_reverse] at c8
  generalize okN l.sum = sn at c7 c8
  generalize okE l.sum = se at c7 c8
  have C7 := Lib.hid c7
  have C8 := Lib.hid c8
  clear hr0 hr c0 hin hrin hsr c7 c8
  have hr1 := Int.emod_nonneg (a * n) (show d ≠ 0 by omega)
  have hr2 := Int.emod_lt_of_pos (a * n) hd
  have hqa := Int.mul_ediv_add_emod (a * n) d
  rw [Int.mul_comm] at hqa
  have c9 := fun W => fixScaleYes a n d W ha hn hd hd1 h
  obtain ⟨q, hqe⟩ : ∃ q, q = a * n / d := ⟨_, rfl⟩
  obtain ⟨r, hre⟩ : ∃ r, r = a * n % d := ⟨_, rfl⟩
  rw [← hqe, ← hre] at hqa c9
  rw [← hre] at hr1 hr2
  rw [← hqe] at h
  have HQA := Lib.hid hqa
  have C9 := Lib.hid c9
  have hr64 : In64 r := (by unfold In64; omega)
  have hd64 : In64 d := (by unfold In64; omega)
  have g1 : decide (0 ≤ r) = true := (by simpa using hr1)
  have g2 : decide (r < d) = true := (by simpa using hr2)
  clear hqa c9 hqe hre
  go_enter Try.func6, Try.ntmps6
  go_wp2_with (first | (go_at_call 27; (with_reducible refine (C0.out _ HR0.out).mono ?_); rintro e w0 ⟨rfl, rfl⟩) | fail)
  go_loopw [9, 10] (fun v i wr => ∃ k : Nat, k ≤ l.length ∧ i = .int .i64 k ∧ Own wr w.heap.size 2 1 v ((l.drop k).reverse.map encI) ∧ Below w.heap.size w wr) (fun _ i _ => (intOf i).toNat)
  case atStart => exact ⟨l.length, Nat.le_refl _, rfl, by rw [List.drop_length]; exact Own.nil _ _ _ _, by (repeat' (first | (with_reducible exact Below.refl _ _) | (with_reducible assumption) | (with_reducible refine Below.alloc ?_ ?_ _) | (with_reducible refine Below.setCell ?_ ?_ _) | (with_reducible refine Below.drew ?_) | (with_reducible refine below_drewN ?_ _) | (with_reducible refine below_via ?_ (by with_reducible assumption) ?_) | omega | (simp; done) | (simp; omega)))⟩
  case round =>
    obtain ⟨k, hk, rfl, hown, hbl⟩ := hrel
    have hz := hbl.size
    have Hown := Lib.hid hown
    have Hbl := Lib.hid hbl
    clear hown hbl
    by_cases h0 : k = 0
    · subst h0
      obtain ⟨A5, c5, rfl, _, _, hr5, _⟩ := Hown.out.shape
      rw [List.length_map]
      rw [List.drop_zero] at hr5
      have HR5 := Lib.hid hr5
      rw [List.drop_zero]
      clear hr5
      (go_wp2_with (first | (go_at_call 28; (with_reducible refine (C7.out _ _ _ (HR.out.keep (by have hbl := Hbl.out; (repeat' (first | (with_reducible exact Below.refl _ _) | (with_reducible assumption) | (with_reducible refine Below.alloc ?_ ?_ _) | (with_reducible refine Below.setCell ?_ ?_ _) | (with_reducible refine Below.drew ?_) | (with_reducible refine below_drewN ?_ _) | (with_reducible refine below_via ?_ (by with_reducible assumption) ?_) | omega | (simp; done) | (simp; omega)))))).mono ?_); rintro e w7 ⟨rfl, hb7⟩; obtain ⟨fc7, fg7, hc7, hf7, hz7⟩ := bget hb7; (try simp at hz7)) | (go_at_call 28; (with_reducible refine (C8.out _ _ _ (HR5.out.keep (by (repeat' (first | (with_reducible exact Below.refl _ _) | (with_reducible assumption) | (with_reducible refine Below.alloc ?_ ?_ _) | (with_reducible refine Below.setCell ?_ ?_ _) | (with_reducible refine Below.drew ?_) | (with_reducible refine below_drewN ?_ _) | (with_reducible refine below_via ?_ (by with_reducible assumption) ?_) | omega | (simp; done) | (simp; omega)))))).mono ?_); rintro e w8 ⟨rfl, hb8⟩; obtain ⟨fc8, fg8, hc8, hf8, hz8⟩ := bget hb8; (try simp at hz8)) | (go_at_call 29; (with_reducible refine (C9.out _).mono ?_); rintro e w9 ⟨rfl, hb9⟩; obtain ⟨fc9, fg9, hc9, hf9, hz9⟩ := bget hb9; (try simp at hz9)) | (go_at_call 17; (with_reducible refine (bigOf q _ h).mono ?_); rintro e w10 ⟨s10, A10, l10, c10, rfl, hB10, hl10, hb10⟩; have HB10 := Lib.hid hB10; clear hB10; obtain ⟨fc10, fg10, hc10, hf10, hz10⟩ := bget hb10; (try simp at hz10)) | (go_at_call 17; (with_reducible refine (bigOf d _ hd64).mono ?_); rintro e w11 ⟨s11, A11, l11, c11, rfl, hB11, hl11, hb11⟩; have HB11 := Lib.hid hB11; clear hB11; obtain ⟨fc11, fg11, hc11, hf11, hz11⟩ := bget hb11; (try simp at hz11)) | (go_at_call 16; (with_reducible refine (bigMul q d s10 s11 l10 l11 A10 A11 c10 c11 65 _ (by omega) hl10 hl11 (HB10.out.keep (by (repeat' (first | (with_reducible exact Below.refl _ _) | (with_reducible assumption) | (with_reducible refine Below.alloc ?_ ?_ _) | (with_reducible refine Below.setCell ?_ ?_ _) | (with_reducible refine Below.drew ?_) | (with_reducible refine below_drewN ?_ _) | (with_reducible refine below_via ?_ (by with_reducible assumption) ?_) | omega | (simp; done) | (simp; omega))))) (HB11.out.keep (by (repeat' (first | (with_reducible exact Below.refl _ _) | (with_reducible assumption) | (with_reducible refine Below.alloc ?_ ?_ _) | (with_reducible refine Below.setCell ?_ ?_ _) | (with_reducible refine Below.drew ?_) | (with_reducible refine below_drewN ?_ _) | (with_reducible refine below_via ?_ (by with_reducible assumption) ?_) | omega | (simp; done) | (simp; omega)))))).mono ?_); rintro e w12 ⟨s12, A12, l12, c12, rfl, hB12, hl12, hb12⟩; have HB12 := Lib.hid hB12; clear hB12; obtain ⟨fc12, fg12, hc12, hf12, hz12⟩ := bget hb12; (try simp at hz12)) | (go_at_call 17; (with_reducible refine (bigOf r _ hr64).mono ?_); rintro e w13 ⟨s13, A13, l13, c13, rfl, hB13, hl13, hb13⟩; have HB13 := Lib.hid hB13; clear hB13; obtain ⟨fc13, fg13, hc13, hf13, hz13⟩ := bget hb13; (try simp at hz13)) | (go_at_call 31; (with_reducible refine (bigAdd (q * d) r s12 s13 l12 l13 A12 A13 c12 c13 200 _ (by omega) (by omega) (by omega) (HB12.out.keep (by (repeat' (first | (with_reducible exact Below.refl _ _) | (with_reducible assumption) | (with_reducible refine Below.alloc ?_ ?_ _) | (with_reducible refine Below.setCell ?_ ?_ _) | (with_reducible refine Below.drew ?_) | (with_reducible refine below_drewN ?_ _) | (with_reducible refine below_via ?_ (by with_reducible assumption) ?_) | omega | (simp; done) | (simp; omega))))) (HB13.out.keep (by (repeat' (first | (with_reducible exact Below.refl _ _) | (with_reducible assumption) | (with_reducible refine Below.alloc ?_ ?_ _) | (with_reducible refine Below.setCell ?_ ?_ _) | (with_reducible refine Below.drew ?_) | (with_reducible refine below_drewN ?_ _) | (with_reducible refine below_via ?_ (by with_reducible assumption) ?_) | omega | (simp; done) | (simp; omega)))))).mono ?_); rintro e w14 ⟨s14, A14, l14, c14, rfl, hB14, hl14, hb14⟩; rw [HQA.out] at hB14; have HB14 := Lib.hid hB14; clear hB14; obtain ⟨fc14, fg14, hc14, hf14, hz14⟩ := bget hb14; (try simp at hz14)) | (go_at_call 17; (with_reducible refine (bigOf a _ ha).mono ?_); rintro e w15 ⟨s15, A15, l15, c15, rfl, hB15, hl15, hb15⟩; have HB15 := Lib.hid hB15; clear hB15; obtain ⟨fc15, fg15, hc15, hf15, hz15⟩ := bget hb15; (try simp at hz15)) | (go_at_call 17; (with_reducible refine (bigOf n _ hn).mono ?_); rintro e w16 ⟨s16, A16, l16, c16, rfl, hB16, hl16, hb16⟩; have HB16 := Lib.hid hB16; clear hB16; obtain ⟨fc16, fg16, hc16, hf16, hz16⟩ := bget hb16; (try simp at hz16)) | (go_at_call 16; (with_reducible refine (bigMul a n s15 s16 l15 l16 A15 A16 c15 c16 65 _ (by omega) hl15 hl16 (HB15.out.keep (by (repeat' (first | (with_reducible exact Below.refl _ _) | (with_reducible assumption) | (with_reducible refine Below.alloc ?_ ?_ _) | (with_reducible refine Below.setCell ?_ ?_ _) | (with_reducible refine Below.drew ?_) | (with_reducible refine below_drewN ?_ _) | (with_reducible refine below_via ?_ (by with_reducible assumption) ?_) | omega | (simp; done) | (simp; omega))))) (HB16.out.keep (by (repeat' (first | (with_reducible exact Below.refl _ _) | (with_reducible assumption) | (with_reducible refine Below.alloc ?_ ?_ _) | (with_reducible refine Below.setCell ?_ ?_ _) | (with_reducible refine Below.drew ?_) | (with_reducible refine below_drewN ?_ _) | (with_reducible refine below_via ?_ (by with_reducible assumption) ?_) | omega | (simp; done) | (simp; omega)))))).mono ?_); rintro e w17 ⟨s17, A17, l17, c17, rfl, hB17, hl17, hb17⟩; have HB17 := Lib.hid hB17; clear hB17; obtain ⟨fc17, fg17, hc17, hf17, hz17⟩ := bget hb17; (try simp at hz17)) | (go_at_call 14; (with_reducible refine (bigCmp (a * n) (a * n) s14 s17 l14 l17 A14 A17 c14 c17 300 _ (by omega) (by omega) (by omega) (HB14.out.keep (by (repeat' (first | (with_reducible exact Below.refl _ _) | (with_reducible assumption) | (with_reducible refine Below.alloc ?_ ?_ _) | (with_reducible refine Below.setCell ?_ ?_ _) | (with_reducible refine Below.drew ?_) | (with_reducible refine below_drewN ?_ _) | (with_reducible refine below_via ?_ (by with_reducible assumption) ?_) | omega | (simp; done) | (simp; omega))))) (HB17.out.keep (by (repeat' (first | (with_reducible exact Below.refl _ _) | (with_reducible assumption) | (with_reducible refine Below.alloc ?_ ?_ _) | (with_reducible refine Below.setCell ?_ ?_ _) | (with_reducible refine Below.drew ?_) | (with_reducible refine below_drewN ?_ _) | (with_reducible refine below_via ?_ (by with_reducible assumption) ?_) | omega | (simp; done) | (simp; omega)))))).mono ?_); rintro e w18 ⟨rfl, hb18⟩; rw [ord_self']; obtain ⟨fc18, fg18, hc18, hf18, hz18⟩ := bget hb18; (try simp at hz18)) | (go_at_call 30; (with_reducible refine (law02lives _).mono ?_); rintro e w20 ⟨rfl, hb20⟩; obtain ⟨fc20, fg20, hc20, hf20, hz20⟩ := bget hb20; (try simp at hz20)) | fail); go_ret; exact ⟨rfl, by (have hbl := Hbl.out; (repeat' (first | (with_reducible exact Below.refl _ _) | (with_reducible assumption) | (with_reducible refine Below.alloc ?_ ?_ _) | (with_reducible refine Below.setCell ?_ ?_ _) | (with_reducible refine Below.drew ?_) | (with_reducible refine below_drewN ?_ _) | (with_reducible refine below_via ?_ (by with_reducible assumption) ?_) | omega | (simp; done) | (simp; omega))))⟩)
    · have k0 : 0 < k := (by omega)
      have d0 : decide ((0 : Int) < (k : Int)) = true := (by simpa using (show (0 : Int) < k from by omega))
      have HD := Lib.hid (drop_pred_cons k0 hk)
      obtain ⟨x, hx⟩ : ∃ x, x = l.getD (k - 1) 0 := ⟨_, rfl⟩
      obtain ⟨b, o, rfl, hb, hq⟩ := HR.out (k - 1) (encI x) (by rw [List.getElem?_map, List.getElem?_eq_getElem (show k - 1 < l.length by omega), hx, List.getD_eq_getElem?_getD, List.getElem?_eq_getElem (show k - 1 < l.length by omega)]; rfl)
      rw [← hx] at HD
      have q1 := (Hbl.out.cell (p := ⟨b, o + (k - 1) * 1 + 0, none⟩) hb).trans (hq 0 _ rfl)
      simp at q1
      clear hq hx
      go_wp2_with (first | (at_builtin; refine wpList_app rfl _ _ _ rfl elI w.heap.size _ _ rfl ((Hown.out).alloc _) (some ⟨wr.heap.size, 0, none⟩) 1 1 rfl [encI x] rfl (fun h => by cases h) rd_one ((by simp [encI]; rfl)) (by unfold maxLen; first | (simp; done) | omega | (simp; omega)) (by first | (simp; done) | omega | (simp; omega)) (by first | omega | (simp; done) | (simp; omega)) ?_; intro v' w3 hown3 hb3) | fail)
      go_roundw
      case rel => exact ⟨k - 1, by omega, by go_num, by rw [HD.out, List.reverse_cons, List.map_append]; simpa using hown3, (by have hbl := Hbl.out; (repeat' (first | (with_reducible exact Below.refl _ _) | (with_reducible assumption) | (with_reducible refine Below.alloc ?_ ?_ _) | (with_reducible refine Below.setCell ?_ ?_ _) | (with_reducible refine Below.drew ?_) | (with_reducible refine below_drewN ?_ _) | (with_reducible refine below_via ?_ (by with_reducible assumption) ?_) | omega | (simp; done) | (simp; omega))))⟩
      case measure => (simp [intOf]; omega)
theorem fixBack (l0 : List Int) (a n d : Int) (A : Option Addr) (c : Nat) (w : World) (ha : In64 a) (hn : In64 n) (hd : In64 d) (hlc : l0.length ≤ c) (hcm : c ≤ maxLen) (hin : ∀ x ∈ l0, In64 x) (hr : Rd w A 1 (l0.map encI)) :
    Calls Try.prog 6 #[.slice A l0.length c, .int .i64 a, .int .i64 n, .int .i64 d] w fun e w' => e = .returned (.bool true) ∧ Below w.heap.size w w' := by
  have c0 := fun W h => law02few l0 _ (Lib.hid rfl) A c W hlc hcm h
  have h40 : (l0.take 40).length ≤ 40 := by rw [List.length_take]; omega
  have hin' : ∀ x ∈ l0.take 40, In64 x := fun x hx => hin x (List.mem_of_mem_take hx)
  rcases Int.lt_trichotomy d 0 with h | h | h
  · exact fixBackNeg l0 _ a n d A c w ha hn h40 hin' hr (rd_take hr 40) c0 h
  · subst h; exact fixBackZero l0 _ a n 0 A c w ha hn h40 hin' hr (rd_take hr 40) c0 rfl
  · by_cases hp : In64 (a * n / d)
    · exact fixBackYes l0 _ a n d A c w ha hn h40 hin' hr (rd_take hr 40) c0 h hd.2 hp
    · exact fixBackNo l0 _ a n d A c w ha hn h40 hin' hr (rd_take hr 40) c0 h hd.2 hp
end Go.Proofs.Ytjolddbfkcbnpaa
