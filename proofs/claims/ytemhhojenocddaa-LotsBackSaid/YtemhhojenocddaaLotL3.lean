/- Layer 18's laws: LotsDraws' walk. -/
import Derived.Test.YtemhhojenocddaaLotJ2
import Derived.Test.YtemhhojenocddaaRef18f
namespace Go.Proofs.Ytemhhojenocddaa
open Go.RowKit
theorem takeLot {w : World} {l : List Lot} {A : Option Addr} {c : Nat} (h : Rs w 3 (l.map encLot) A c) (n : Nat) : Rs w 3 ((l.take n).map encLot) A c := by
  have := h.take n; rw [← List.map_take] at this; exact this
theorem islLot {w : World} {l : List Lot} {A : Option Addr} {c m : Nat} (hm : l.length = m) (h : Rs w 3 (l.map encLot) A c) : IsSl 3 encLot w (.slice A m c) l := ⟨A, c, by rw [hm], h⟩
def few5 (ls : List (List Lot)) : List (List Lot) := (ls.take 5).map fun l => l.take 20
theorem few5_flat {ls : List (List Lot)} : (few5 ls).length ≤ 5 ∧ (few5 ls).flatten.length ≤ 100 := by
  have h1 : (few5 ls).length ≤ 5 := by unfold few5; rw [List.length_map, List.length_take]; omega
  have h2 : ∀ l ∈ few5 ls, l.length ≤ 20 := fun l hl => by
    unfold few5 at hl
    obtain ⟨x, _, rfl⟩ := List.mem_map.1 hl
    rw [List.length_take]; omega
  have h3 : ∀ (ms : List (List Lot)), (∀ l ∈ ms, l.length ≤ 20) → ms.flatten.length ≤ 20 * ms.length := by
    intro ms
    induction ms with
    | nil => simp
    | cons a t ih =>
      intro h
      have := ih fun l hl => h l (by simp [hl])
      have := h a (by simp)
      rw [List.flatten_cons, List.length_append, List.length_cons]; omega
  have := h3 _ h2
  exact ⟨h1, by omega⟩
theorem few5_in {ls : List (List Lot)} (h : ∀ l ∈ ls, ∀ y ∈ l, In64 y.qty) : ∀ y ∈ (few5 ls).flatten, In64 y.qty := by
  intro y hy
  obtain ⟨l, hl, hyl⟩ := List.mem_flatten.1 hy
  unfold few5 at hl
  obtain ⟨m, hm, rfl⟩ := List.mem_map.1 hl
  exact h m (List.mem_of_mem_take hm) y (List.mem_of_mem_take hyl)
theorem elLs : Elem Try.prog 78 56 1 24 := elem_of Try.underlying78 (z := .slice none 0 0) (by kernel_rfl) rfl (by omega)
theorem rows1 (v : Value) (h : v.oneCell' = true) : ∀ r ∈ [enc1 v], r.length = 1 ∧ ∀ u ∈ r, u.oneCell' = true := by
  intro r hr
  simp at hr
  subst hr
  exact ⟨rfl, by simp [enc1, h]⟩
theorem draw_rd {w : World} {T R : List Lot} {code : Int} {e : Ending} {w' : World} (h : DrawPost w T R code e w') : ∃ A1 c1 A2 c2, e = .returned (.tuple #[.slice A1 T.length c1, .slice A2 R.length c2, .int .i64 code]) ∧ Rs w' 3 (T.map encLot) A1 c1 ∧ Rs w' 3 (R.map encLot) A2 c2 ∧ Below w.heap.size w w' := by
  obtain ⟨u, v, rfl, h1, h2, hb⟩ := h
  obtain ⟨A1, c1, hv1, hrs1, _⟩ := h1.rs
  obtain ⟨A2, c2, hv2, hrs2, _⟩ := h2.rs
  rw [List.length_map] at hv1 hv2
  subst hv1 hv2
  exact ⟨A1, c1, A2, c2, rfl, hrs1, hrs2, hb⟩
set_option maxRecDepth 100000 in
set_option maxHeartbeats 32000000 in
theorem lotsDrawsAt (l0 m T R J : List Lot) (ls : List (List Lot)) (a q dc jc : Int) (A : Option Addr) (c : Nat) (Bo : Option Addr) (d : Nat) (w : World) (hr0 : Rs w 3 (l0.map encLot) A c) (hr : Rs w 3 (m.map encLot) A c) (hls : RsS 3 encLot w ls Bo d) (hlm : ls.length ≤ maxLen)
    (hlT : T.length ≤ 1099511627776) (hlR : R.length ≤ 1099511627776) (hlJ : J.length ≤ 1099511627776)
    (cf : ∀ W, Rs W 3 (l0.map encLot) A c → Calls Try.prog 37 #[.slice A l0.length c] W fun e w' => e = .returned (.slice A m.length c) ∧ Below W.heap.size W w')
    (c1 : ∀ W, Rs W 3 (m.map encLot) A c → Calls Try.prog 52 #[.slice A m.length c, .int .i64 a, .int .i64 q] W (DrawPost W T R dc))
    (c2 : ∀ W, Rs W 3 (m.map encLot) A c → Calls Try.prog 53 #[.slice A m.length c, .int .i64 a, .int .i64 q] W (DrawPost W T R dc))
    (c3 : ∀ W A c, RsS 3 encLot W (few5 ls) A c → Calls Try.prog 54 #[.slice A (few5 ls).length c] W (LotsPost W J jc))
    (c4 : ∀ W A c, RsS 3 encLot W (few5 ls) A c → Calls Try.prog 55 #[.slice A (few5 ls).length c] W (LotsPost W J jc)) :
    Calls Try.prog 7 #[.slice A l0.length c, .int .i64 a, .int .i64 q, .slice Bo ls.length d] w fun e w' => e = .returned (.bool true) ∧ Below w.heap.size w w' := by
  have hml : (ls.length : Int) ≤ 9223372036854775807 := by unfold maxLen at hlm; omega
  have HR0 := Lib.hid hr0
  have HR := Lib.hid hr
  have HLS := Lib.hid hls
  have CF := Lib.hid cf
  have C1 := Lib.hid c1
  have C2 := Lib.hid c2
  have C3 := Lib.hid c3
  have C4 := Lib.hid c4
  clear hr0 hr hls cf c1 c2 c3 c4 hlm
  go_enter Try.func7, Try.ntmps7
  go_wp2_with (first | (go_at_call 37; (with_reducible refine (CF.out _ (HR0.out.keep (by (repeat' (first | (with_reducible exact Below.refl _ _) | (with_reducible assumption) | (with_reducible refine Below.alloc ?_ ?_ _) | (with_reducible refine Below.setCell ?_ ?_ _) | (with_reducible refine Below.drew ?_) | (with_reducible refine below_drewN ?_ _) | (with_reducible refine below_via ?_ (by with_reducible assumption) ?_) | omega | (simp; done) | (simp; omega)))))).mono ?_); rintro e w1 ⟨rfl, hb1⟩; obtain ⟨fc1, fg1, hc1, hf1, hz1⟩ := bget hb1; (try simp at hz1)) | (go_at_call 52; (with_reducible refine (C1.out _ (HR.out.keep (by (repeat' (first | (with_reducible exact Below.refl _ _) | (with_reducible assumption) | (with_reducible refine Below.alloc ?_ ?_ _) | (with_reducible refine Below.setCell ?_ ?_ _) | (with_reducible refine Below.drew ?_) | (with_reducible refine below_drewN ?_ _) | (with_reducible refine below_via ?_ (by with_reducible assumption) ?_) | omega | (simp; done) | (simp; omega)))))).mono ?_); intro e w2 hp; obtain ⟨A2, c2, A3, c3, rfl, hrs2, hrs3, hb2⟩ := draw_rd hp; have H2 := Lib.hid hrs2; have H3 := Lib.hid hrs3; clear hp hrs2 hrs3; obtain ⟨fc2, fg2, hc2, hf2, hz2⟩ := bget hb2; (try simp at hz2)) | (go_at_call 53; (with_reducible refine (C2.out _ (HR.out.keep (by (repeat' (first | (with_reducible exact Below.refl _ _) | (with_reducible assumption) | (with_reducible refine Below.alloc ?_ ?_ _) | (with_reducible refine Below.setCell ?_ ?_ _) | (with_reducible refine Below.drew ?_) | (with_reducible refine below_drewN ?_ _) | (with_reducible refine below_via ?_ (by with_reducible assumption) ?_) | omega | (simp; done) | (simp; omega)))))).mono ?_); intro e w4 hp; obtain ⟨A4, c4, A5, c5, rfl, hrs4, hrs5, hb4⟩ := draw_rd hp; have H4 := Lib.hid hrs4; have H5 := Lib.hid hrs5; clear hp hrs4 hrs5; obtain ⟨fc4, fg4, hc4, hf4, hz4⟩ := bget hb4; (try simp at hz4)) | fail)
  have HbA := Lib.hid (show Below w.heap.size w w4 from by (repeat' (first | (with_reducible exact Below.refl _ _) | (with_reducible assumption) | (with_reducible refine Below.alloc ?_ ?_ _) | (with_reducible refine Below.setCell ?_ ?_ _) | (with_reducible refine Below.drew ?_) | (with_reducible refine below_drewN ?_ _) | (with_reducible refine below_via ?_ (by with_reducible assumption) ?_) | omega | (simp; done) | (simp; omega))))
  have hzA : w.heap.size ≤ w4.heap.size := HbA.out.size
  go_loopw [15, 16] (fun v i wr => ∃ k : Nat, k ≤ 5 ∧ k ≤ ls.length ∧ i = .int .i64 k ∧ (∃ vs : List Value, Each (IsSl 3 encLot w) vs ((ls.take k).map fun l => l.take 20) ∧ Own wr w4.heap.size 56 1 v (vs.map enc1)) ∧ Below w4.heap.size w4 wr) (fun _ i _ => 5 - (intOf i).toNat)
  case atStart => exact ⟨0, Nat.zero_le _, Nat.zero_le _, rfl, ⟨[], Each.nil _, Own.nil _ _ _ _⟩, Below.refl _ _⟩
  case round =>
    obtain ⟨k, hk10, hk, rfl, ⟨vs, hvs, hown⟩, hbl⟩ := hrel
    have Hbl := Lib.hid hbl
    have Hvs := Lib.hid hvs
    have Hown := Lib.hid hown
    have hz := hbl.size
    have hvl : vs.length = k := by rw [hvs.len, List.length_map, List.length_take]; omega
    have hvl1 : vs.length ≤ 5 := by omega
    have hvl2 : (vs.map enc1).length ≤ 5 := by rw [List.length_map]; omega
    have Hbw := Lib.hid (show Below w.heap.size w wr from by have h1 := HbA.out; (repeat' (first | (with_reducible exact Below.refl _ _) | (with_reducible assumption) | (with_reducible refine Below.alloc ?_ ?_ _) | (with_reducible refine Below.setCell ?_ ?_ _) | (with_reducible refine Below.drew ?_) | (with_reducible refine below_drewN ?_ _) | (with_reducible refine below_via ?_ (by with_reducible assumption) ?_) | omega | (simp; done) | (simp; omega))))
    clear hbl hvs hown hvl
    by_cases hgo : k < ls.length ∧ k < 5
    · obtain ⟨hlt, h10⟩ := hgo
      have d10 : decide ((k : Int) < 5) = true := by simp; omega
      obtain ⟨b, o, B, d, rfl, hb, hq, hrk⟩ := HLS.out.row hlt
      have e0 := (Hbw.out.cell (p := ⟨b, o + k, none⟩) hb).trans hq
      have HRK := Lib.hid hrk
      have HSN : Hid ((ls.take (k + 1)).map (fun l => l.take 20) = (ls.take k).map (fun l => l.take 20) ++ [ls[k].take 20]) := by unfold Hid; rw [map_snoc hlt]
      have CFW := Lib.hid (fun W (h : Below wr.heap.size wr W) => law18Few ls[k] B d W ((hrk.keep Hbw.out).keep h))
      clear hq hrk
      obtain ⟨m', hm⟩ : ∃ m', (ls[k].take 20).length = m' := ⟨_, rfl⟩
      rw [hm] at CFW
      have HM := Lib.hid hm
      clear hm
      go_wp2_with (first | (go_at_call 37; (with_reducible refine (CFW.out _ (by (repeat' (first | (with_reducible exact Below.refl _ _) | (with_reducible assumption) | (with_reducible refine Below.alloc ?_ ?_ _) | (with_reducible refine Below.setCell ?_ ?_ _) | (with_reducible refine Below.drew ?_) | (with_reducible refine below_drewN ?_ _) | (with_reducible refine below_via ?_ (by with_reducible assumption) ?_) | omega | (simp; done) | (simp; omega))))).mono ?_); rintro e w2 ⟨rfl, hb2⟩; obtain ⟨fc2, fg2, hc2, hf2, hz2⟩ := bget hb2; (try simp at hz2)) | (at_builtin; refine wpList_app rfl _ _ _ rfl elLs w4.heap.size _ _ rfl ((Hown.out.keep (by (repeat' (first | (with_reducible exact Below.refl _ _) | (with_reducible assumption) | (with_reducible refine Below.alloc ?_ ?_ _) | (with_reducible refine Below.setCell ?_ ?_ _) | (with_reducible refine Below.drew ?_) | (with_reducible refine below_drewN ?_ _) | (with_reducible refine below_via ?_ (by with_reducible assumption) ?_) | omega | (simp; done) | (simp; omega))))).alloc _) (some ⟨_, 0, none⟩) 1 1 rfl [enc1 (.slice B m' d)] rfl (fun h => by cases h) (rd_oneN (by simp)) (rows1 _ rfl) (by unfold maxLen; first | (simp; done) | omega | (simp; omega)) (by first | (simp; done) | omega | (simp; omega)) (by first | omega | (simp; done) | (simp; omega)) ?_; intro v3 w3 hown3 hb3; have HO3 := Lib.hid hown3; clear hown3) | fail)
      go_roundw
      case rel => exact ⟨k + 1, by omega, by omega, by go_num, ⟨vs ++ [.slice B m' d], by rw [HSN.out]; exact Hvs.out.append (Each.one (islLot HM.out (takeLot HRK.out 20))), by rw [List.map_append]; exact HO3.out⟩, by have hbl := Hbl.out; (repeat' (first | (with_reducible exact Below.refl _ _) | (with_reducible assumption) | (with_reducible refine Below.alloc ?_ ?_ _) | (with_reducible refine Below.setCell ?_ ?_ _) | (with_reducible refine Below.drew ?_) | (with_reducible refine below_drewN ?_ _) | (with_reducible refine below_via ?_ (by with_reducible assumption) ?_) | omega | (simp; done) | (simp; omega)))⟩
      case measure => simp [intOf]; omega
    · have HT : Hid ((ls.take k).map (fun l => l.take 20) = few5 ls) := by
        unfold Hid few5
        rcases (show k = 5 ∨ ls.length ≤ k by omega) with rfl | h
        · rfl
        · rw [List.take_of_length_le h, List.take_of_length_le (show ls.length ≤ 5 by omega)]
      have hv := Hvs.out
      rw [HT.out] at hv
      obtain ⟨A6, c6, hv6, hrs6, _⟩ := Hown.out.rs
      rw [List.length_map, hv.len] at hv6
      subst hv6
      have HFW : Hid (RsS 3 encLot wr (few5 ls) A6 c6) := Lib.hid ⟨vs, hv.imp fun _ _ h => h.keep Hbw.out, hrs6⟩
      have Hb4 := Lib.hid hb4
      have K2 := Lib.hid (H2.out.keep (show Below w2.heap.size w2 wr from by have h1 := Hbl.out; (repeat' (first | (with_reducible exact Below.refl _ _) | (with_reducible assumption) | (with_reducible refine Below.alloc ?_ ?_ _) | (with_reducible refine Below.setCell ?_ ?_ _) | (with_reducible refine Below.drew ?_) | (with_reducible refine below_drewN ?_ _) | (with_reducible refine below_via ?_ (by with_reducible assumption) ?_) | omega | (simp; done) | (simp; omega)))))
      have K3 := Lib.hid (H3.out.keep (show Below w2.heap.size w2 wr from by have h1 := Hbl.out; (repeat' (first | (with_reducible exact Below.refl _ _) | (with_reducible assumption) | (with_reducible refine Below.alloc ?_ ?_ _) | (with_reducible refine Below.setCell ?_ ?_ _) | (with_reducible refine Below.drew ?_) | (with_reducible refine below_drewN ?_ _) | (with_reducible refine below_via ?_ (by with_reducible assumption) ?_) | omega | (simp; done) | (simp; omega)))))
      have K4 := Lib.hid (H4.out.keep Hbl.out)
      have K5 := Lib.hid (H5.out.keep Hbl.out)
      clear hv hrs6 H2 H3 H4 H5
      have H2 := K2
      have H3 := K3
      have H4 := K4
      have H5 := K5
      clear K2 K3 K4 K5
      generalize few5 ls = fw at *
      by_cases hlt : k < ls.length
      · have d1 : decide ((k : Int) < (ls.length : Int)) = true := by simpa using hlt
        have d2 : decide ((k : Int) < 5) = false := by simp; omega
        go_wp2_with (first | (go_at_call 54; (with_reducible refine (C3.out _ _ _ (HFW.out.keep (by (repeat' (first | (with_reducible exact Below.refl _ _) | (with_reducible assumption) | (with_reducible refine Below.alloc ?_ ?_ _) | (with_reducible refine Below.setCell ?_ ?_ _) | (with_reducible refine Below.drew ?_) | (with_reducible refine below_drewN ?_ _) | (with_reducible refine below_via ?_ (by with_reducible assumption) ?_) | omega | (simp; done) | (simp; omega)))))).mono ?_); intro e w10 hp; obtain ⟨A10, c10, rfl, hrs10, hb10⟩ := lots_rd hp; have H10 := Lib.hid hrs10; clear hp hrs10; obtain ⟨fc10, fg10, hc10, hf10, hz10⟩ := bget hb10; (try simp at hz10)) | (go_at_call 55; (with_reducible refine (C4.out _ _ _ (HFW.out.keep (by (repeat' (first | (with_reducible exact Below.refl _ _) | (with_reducible assumption) | (with_reducible refine Below.alloc ?_ ?_ _) | (with_reducible refine Below.setCell ?_ ?_ _) | (with_reducible refine Below.drew ?_) | (with_reducible refine below_drewN ?_ _) | (with_reducible refine below_via ?_ (by with_reducible assumption) ?_) | omega | (simp; done) | (simp; omega)))))).mono ?_); intro e w11 hp; obtain ⟨A11, c11, rfl, hrs11, hb11⟩ := lots_rd hp; have H11 := Lib.hid hrs11; clear hp hrs11; obtain ⟨fc11, fg11, hc11, hf11, hz11⟩ := bget hb11; (try simp at hz11)) | (go_at_call 50; (with_reducible refine (ref18Same T A2 A4 c2 c4 _ hlT (H2.out.keep (by (repeat' (first | (with_reducible exact Below.refl _ _) | (with_reducible assumption) | (with_reducible refine Below.alloc ?_ ?_ _) | (with_reducible refine Below.setCell ?_ ?_ _) | (with_reducible refine Below.drew ?_) | (with_reducible refine below_drewN ?_ _) | (with_reducible refine below_via ?_ (by with_reducible assumption) ?_) | omega | (simp; done) | (simp; omega))))).rd (H4.out.keep (by (repeat' (first | (with_reducible exact Below.refl _ _) | (with_reducible assumption) | (with_reducible refine Below.alloc ?_ ?_ _) | (with_reducible refine Below.setCell ?_ ?_ _) | (with_reducible refine Below.drew ?_) | (with_reducible refine below_drewN ?_ _) | (with_reducible refine below_via ?_ (by with_reducible assumption) ?_) | omega | (simp; done) | (simp; omega))))).rd).mono ?_); rintro e w14 ⟨rfl, hb14⟩; obtain ⟨fc14, fg14, hc14, hf14, hz14⟩ := bget hb14; (try simp at hz14)) | (go_at_call 50; (with_reducible refine (ref18Same R A3 A5 c3 c5 _ hlR (H3.out.keep (by (repeat' (first | (with_reducible exact Below.refl _ _) | (with_reducible assumption) | (with_reducible refine Below.alloc ?_ ?_ _) | (with_reducible refine Below.setCell ?_ ?_ _) | (with_reducible refine Below.drew ?_) | (with_reducible refine below_drewN ?_ _) | (with_reducible refine below_via ?_ (by with_reducible assumption) ?_) | omega | (simp; done) | (simp; omega))))).rd (H5.out.keep (by (repeat' (first | (with_reducible exact Below.refl _ _) | (with_reducible assumption) | (with_reducible refine Below.alloc ?_ ?_ _) | (with_reducible refine Below.setCell ?_ ?_ _) | (with_reducible refine Below.drew ?_) | (with_reducible refine below_drewN ?_ _) | (with_reducible refine below_via ?_ (by with_reducible assumption) ?_) | omega | (simp; done) | (simp; omega))))).rd).mono ?_); rintro e w15 ⟨rfl, hb15⟩; obtain ⟨fc15, fg15, hc15, hf15, hz15⟩ := bget hb15; (try simp at hz15)) | (go_at_call 50; (with_reducible refine (ref18Same J A10 A11 c10 c11 _ hlJ (H10.out.keep (by (repeat' (first | (with_reducible exact Below.refl _ _) | (with_reducible assumption) | (with_reducible refine Below.alloc ?_ ?_ _) | (with_reducible refine Below.setCell ?_ ?_ _) | (with_reducible refine Below.drew ?_) | (with_reducible refine below_drewN ?_ _) | (with_reducible refine below_via ?_ (by with_reducible assumption) ?_) | omega | (simp; done) | (simp; omega))))).rd (H11.out.keep (by (repeat' (first | (with_reducible exact Below.refl _ _) | (with_reducible assumption) | (with_reducible refine Below.alloc ?_ ?_ _) | (with_reducible refine Below.setCell ?_ ?_ _) | (with_reducible refine Below.drew ?_) | (with_reducible refine below_drewN ?_ _) | (with_reducible refine below_via ?_ (by with_reducible assumption) ?_) | omega | (simp; done) | (simp; omega))))).rd).mono ?_); rintro e w16 ⟨rfl, hb16⟩; obtain ⟨fc16, fg16, hc16, hf16, hz16⟩ := bget hb16; (try simp at hz16)) | (go_at_call 51; (with_reducible refine (law18lives _).mono ?_); rintro e w17 ⟨rfl, hb17⟩; obtain ⟨fc17, fg17, hc17, hf17, hz17⟩ := bget hb17; (try simp at hz17)) | fail)
        go_ret
        exact ⟨rfl, by have h1 := Hbw.out; (repeat' (first | (with_reducible exact Below.refl _ _) | (with_reducible assumption) | (with_reducible refine Below.alloc ?_ ?_ _) | (with_reducible refine Below.setCell ?_ ?_ _) | (with_reducible refine Below.drew ?_) | (with_reducible refine below_drewN ?_ _) | (with_reducible refine below_via ?_ (by with_reducible assumption) ?_) | omega | (simp; done) | (simp; omega)))⟩
      · have d1 : decide ((k : Int) < (ls.length : Int)) = false := by simpa using hlt
        go_wp2_with (first | (go_at_call 54; (with_reducible refine (C3.out _ _ _ (HFW.out.keep (by (repeat' (first | (with_reducible exact Below.refl _ _) | (with_reducible assumption) | (with_reducible refine Below.alloc ?_ ?_ _) | (with_reducible refine Below.setCell ?_ ?_ _) | (with_reducible refine Below.drew ?_) | (with_reducible refine below_drewN ?_ _) | (with_reducible refine below_via ?_ (by with_reducible assumption) ?_) | omega | (simp; done) | (simp; omega)))))).mono ?_); intro e w10 hp; obtain ⟨A10, c10, rfl, hrs10, hb10⟩ := lots_rd hp; have H10 := Lib.hid hrs10; clear hp hrs10; obtain ⟨fc10, fg10, hc10, hf10, hz10⟩ := bget hb10; (try simp at hz10)) | (go_at_call 55; (with_reducible refine (C4.out _ _ _ (HFW.out.keep (by (repeat' (first | (with_reducible exact Below.refl _ _) | (with_reducible assumption) | (with_reducible refine Below.alloc ?_ ?_ _) | (with_reducible refine Below.setCell ?_ ?_ _) | (with_reducible refine Below.drew ?_) | (with_reducible refine below_drewN ?_ _) | (with_reducible refine below_via ?_ (by with_reducible assumption) ?_) | omega | (simp; done) | (simp; omega)))))).mono ?_); intro e w11 hp; obtain ⟨A11, c11, rfl, hrs11, hb11⟩ := lots_rd hp; have H11 := Lib.hid hrs11; clear hp hrs11; obtain ⟨fc11, fg11, hc11, hf11, hz11⟩ := bget hb11; (try simp at hz11)) | (go_at_call 50; (with_reducible refine (ref18Same T A2 A4 c2 c4 _ hlT (H2.out.keep (by (repeat' (first | (with_reducible exact Below.refl _ _) | (with_reducible assumption) | (with_reducible refine Below.alloc ?_ ?_ _) | (with_reducible refine Below.setCell ?_ ?_ _) | (with_reducible refine Below.drew ?_) | (with_reducible refine below_drewN ?_ _) | (with_reducible refine below_via ?_ (by with_reducible assumption) ?_) | omega | (simp; done) | (simp; omega))))).rd (H4.out.keep (by (repeat' (first | (with_reducible exact Below.refl _ _) | (with_reducible assumption) | (with_reducible refine Below.alloc ?_ ?_ _) | (with_reducible refine Below.setCell ?_ ?_ _) | (with_reducible refine Below.drew ?_) | (with_reducible refine below_drewN ?_ _) | (with_reducible refine below_via ?_ (by with_reducible assumption) ?_) | omega | (simp; done) | (simp; omega))))).rd).mono ?_); rintro e w14 ⟨rfl, hb14⟩; obtain ⟨fc14, fg14, hc14, hf14, hz14⟩ := bget hb14; (try simp at hz14)) | (go_at_call 50; (with_reducible refine (ref18Same R A3 A5 c3 c5 _ hlR (H3.out.keep (by (repeat' (first | (with_reducible exact Below.refl _ _) | (with_reducible assumption) | (with_reducible refine Below.alloc ?_ ?_ _) | (with_reducible refine Below.setCell ?_ ?_ _) | (with_reducible refine Below.drew ?_) | (with_reducible refine below_drewN ?_ _) | (with_reducible refine below_via ?_ (by with_reducible assumption) ?_) | omega | (simp; done) | (simp; omega))))).rd (H5.out.keep (by (repeat' (first | (with_reducible exact Below.refl _ _) | (with_reducible assumption) | (with_reducible refine Below.alloc ?_ ?_ _) | (with_reducible refine Below.setCell ?_ ?_ _) | (with_reducible refine Below.drew ?_) | (with_reducible refine below_drewN ?_ _) | (with_reducible refine below_via ?_ (by with_reducible assumption) ?_) | omega | (simp; done) | (simp; omega))))).rd).mono ?_); rintro e w15 ⟨rfl, hb15⟩; obtain ⟨fc15, fg15, hc15, hf15, hz15⟩ := bget hb15; (try simp at hz15)) | (go_at_call 50; (with_reducible refine (ref18Same J A10 A11 c10 c11 _ hlJ (H10.out.keep (by (repeat' (first | (with_reducible exact Below.refl _ _) | (with_reducible assumption) | (with_reducible refine Below.alloc ?_ ?_ _) | (with_reducible refine Below.setCell ?_ ?_ _) | (with_reducible refine Below.drew ?_) | (with_reducible refine below_drewN ?_ _) | (with_reducible refine below_via ?_ (by with_reducible assumption) ?_) | omega | (simp; done) | (simp; omega))))).rd (H11.out.keep (by (repeat' (first | (with_reducible exact Below.refl _ _) | (with_reducible assumption) | (with_reducible refine Below.alloc ?_ ?_ _) | (with_reducible refine Below.setCell ?_ ?_ _) | (with_reducible refine Below.drew ?_) | (with_reducible refine below_drewN ?_ _) | (with_reducible refine below_via ?_ (by with_reducible assumption) ?_) | omega | (simp; done) | (simp; omega))))).rd).mono ?_); rintro e w16 ⟨rfl, hb16⟩; obtain ⟨fc16, fg16, hc16, hf16, hz16⟩ := bget hb16; (try simp at hz16)) | (go_at_call 51; (with_reducible refine (law18lives _).mono ?_); rintro e w17 ⟨rfl, hb17⟩; obtain ⟨fc17, fg17, hc17, hf17, hz17⟩ := bget hb17; (try simp at hz17)) | fail)
        go_ret
        exact ⟨rfl, by have h1 := Hbw.out; (repeat' (first | (with_reducible exact Below.refl _ _) | (with_reducible assumption) | (with_reducible refine Below.alloc ?_ ?_ _) | (with_reducible refine Below.setCell ?_ ?_ _) | (with_reducible refine Below.drew ?_) | (with_reducible refine below_drewN ?_ _) | (with_reducible refine below_via ?_ (by with_reducible assumption) ?_) | omega | (simp; done) | (simp; omega)))⟩
theorem drawG_len (a : Int) : ∀ (l : List Lot) (q : Int), (drawG a q l).1.length ≤ l.length ∧ (drawG a q l).2.length ≤ l.length
  | [], q => by simp [drawG]
  | y :: t, q => by
    have h := drawG_len a t (q - partQ a q y)
    have h1 := addQ_len y (partQ a q y)
    have h2 := addQ_len y (y.qty - partQ a q y)
    simp only [drawG, List.length_append, List.length_cons]
    omega
theorem drawT_len (l : List Lot) (a q : Int) : (drawT l a q).length ≤ l.length := by
  unfold drawT; split
  · exact (drawG_len a l q).1
  · simp
theorem drawR_len (l : List Lot) (a q : Int) : (drawR l a q).length ≤ l.length := by
  unfold drawR; split
  · exact (drawG_len a l q).2
  · simp
theorem joinF_len : ∀ (t out : List Lot), (joinF out t).1.length ≤ out.length + t.length
  | [], out => by simp [joinF]
  | x :: t, out => by
    unfold joinF
    split
    · have := joinF_len t (putLL out x)
      have := putLL_len out x
      simp only [List.length_cons]; omega
    · simp
theorem lotsDraws (l0 : List Lot) (ls : List (List Lot)) (a q : Int) (A : Option Addr) (c : Nat) (B : Option Addr) (d : Nat) (w : World) (hin : ∀ y ∈ l0, In64 y.qty) (hq : In64 q) (hli : ∀ l ∈ ls, ∀ y ∈ l, In64 y.qty) (hlm : ls.length ≤ maxLen) (hr : Rs w 3 (l0.map encLot) A c) (hls : RsS 3 encLot w ls B d) :
    Calls Try.prog 7 #[.slice A l0.length c, .int .i64 a, .int .i64 q, .slice B ls.length d] w fun e w' => e = .returned (.bool true) ∧ Below w.heap.size w w' := by
  have hml : (l0.take 20).length ≤ 20 := by rw [List.length_take]; omega
  have hmin : ∀ y ∈ l0.take 20, In64 y.qty := fun y hy => hin y (List.mem_of_mem_take hy)
  have h1 := drawT_len (l0.take 20) a q
  have h2 := drawR_len (l0.take 20) a q
  have h3 := joinF_len (few5 ls).flatten []
  have ⟨h4, h5⟩ := few5_flat (ls := ls)
  have h6 := few5_in hli
  rw [List.length_nil] at h3
  exact lotsDrawsAt l0 (l0.take 20) (drawT (l0.take 20) a q) (drawR (l0.take 20) a q) (joinF [] (few5 ls).flatten).1 ls a q (drawC (l0.take 20) a q) (joinF [] (few5 ls).flatten).2 A c B d w hr (takeLot hr 20) hls hlm (by omega) (by omega) (by omega)
    (fun W h => law18Few l0 A c W h) (fun W h => lotDraw _ a q A c W (by omega) hmin hq h.rd) (fun W h => ref18Draw _ a q A c W (by omega) hmin hq h.rd)
    (fun W A c h => lotJoin _ A c W (by omega) (by omega) h6 h) (fun W A c h => ref18Join _ A c W (by omega) (by omega) h6 h)
end Go.Proofs.Ytemhhojenocddaa
