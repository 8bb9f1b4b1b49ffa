/- Joined: Ref18e, LotL1, Ho2, Ho3. -/
import Derived.Test.YtalgfpegaobacaaGreatKz20
import Derived.Test.YtalgfpegaobacaaGreatKz19
import Derived.Test.YtalgfpegaobacaaGreatKz18
import Derived.Test.YtalgfpegaobacaaGreatKz11
import Derived.Deep.CutRange
import Derived.Deep.DeepCutAuto
/- Lots: contracts of the reference's Put, Take. -/
namespace Go.Proofs.YtalgfpegaobacaaGreat
open Go.RowKit
theorem getL_in {l : List Lot} (hin : ∀ y ∈ l, In64 y.qty) (a t : Int) : In64 (getL l a t) := by
  unfold getL
  cases h : l.find? (fun x => x.asset == a && x.tag == t) with
  | none => show In64 0; unfold In64; omega
  | some y => exact hin y (List.mem_of_find?_eq_some h)
set_option maxRecDepth 100000 in
set_option maxHeartbeats 16000000 in
theorem ref18Put (l : List Lot) (x : Lot) (A : Option Addr) (c : Nat) (w : World) (hl : l.length ≤ 400000) (hin : ∀ y ∈ l, In64 y.qty) (hx : In64 x.qty) (hr : Rd w A 3 (l.map encLot)) :
    Calls Tryz.prog 28 #[.slice A l.length c, .agg #[.int .i64 x.asset, .int .i64 x.tag, .int .i64 x.qty]] w (LotsPost w (putLL l x) (putLC l x)) := by
  have HR := Lib.hid hr
  have c1 := fun W h => ref18Is l A c W (by omega) h
  have c2 := fun W => ref18one x W
  have c3 := fun W h => ref18Get l x.asset x.tag A c W (by omega) h
  clear hr
  cases h1 : isL l
  · have hc : codeL l x = 3 := by unfold codeL; rw [h1]; rfl
    have hq : putLC l x = 3 := by unfold putLC; rw [hc]; rfl
    have HQ := Lib.hid hq
    have HP := Lib.hid (show putLL l x = [] from if_neg (by rw [hq]; decide))
    rw [h1] at c1
    have C1 := Lib.hid c1
    clear c1 c2 c3 hc hq h1
    go_enter Tryz.func28, Tryz.ntmps28
    go_wp2_with (first | (go_at_call 57; (with_reducible refine (C1.out _ (HR.out.keep (by (repeat' (first | (with_reducible exact Below.refl _ _) | (with_reducible assumption) | (with_reducible refine Below.alloc ?_ ?_ _) | (with_reducible refine Below.setCell ?_ ?_ _) | (with_reducible refine Below.drew ?_) | (with_reducible refine below_drewN ?_ _) | (with_reducible refine below_via ?_ (by with_reducible assumption) ?_) | omega | (simp; done) | (simp; omega)))))).mono ?_); rintro e w1 ⟨rfl, hb1⟩; obtain ⟨fc1, fg1, hc1, hf1, hz1⟩ := bget hb1; (try simp at hz1)) | fail)
    go_ret2
    exact ⟨_, by rw [HQ.out]; rfl, by rw [HP.out]; exact Own.nil _ _ _ _, by (repeat' (first | (with_reducible exact Below.refl _ _) | (with_reducible assumption) | (with_reducible refine Below.alloc ?_ ?_ _) | (with_reducible refine Below.setCell ?_ ?_ _) | (with_reducible refine Below.drew ?_) | (with_reducible refine below_drewN ?_ _) | (with_reducible refine below_via ?_ (by with_reducible assumption) ?_) | omega | (simp; done) | (simp; omega)))⟩
  rw [h1] at c1
  have C1 := Lib.hid c1
  cases h2 : rightL x
  · have hc : codeL l x = 2 := by unfold codeL; rw [h1, h2]; rfl
    have hq : putLC l x = 2 := by unfold putLC; rw [hc]; rfl
    have HQ := Lib.hid hq
    have HP := Lib.hid (show putLL l x = [] from if_neg (by rw [hq]; decide))
    rw [h2] at c2
    have C2 := Lib.hid c2
    clear c1 c2 c3 hc hq h1 h2
    go_enter Tryz.func28, Tryz.ntmps28
    go_wp2_with (first | (go_at_call 57; (with_reducible refine (C1.out _ (HR.out.keep (by (repeat' (first | (with_reducible exact Below.refl _ _) | (with_reducible assumption) | (with_reducible refine Below.alloc ?_ ?_ _) | (with_reducible refine Below.setCell ?_ ?_ _) | (with_reducible refine Below.drew ?_) | (with_reducible refine below_drewN ?_ _) | (with_reducible refine below_via ?_ (by with_reducible assumption) ?_) | omega | (simp; done) | (simp; omega)))))).mono ?_); rintro e w1 ⟨rfl, hb1⟩; obtain ⟨fc1, fg1, hc1, hf1, hz1⟩ := bget hb1; (try simp at hz1)) | (go_at_call 59; (with_reducible refine (C2.out _).mono ?_); rintro e w2 ⟨rfl, hb2⟩; obtain ⟨fc2, fg2, hc2, hf2, hz2⟩ := bget hb2; (try simp at hz2)) | fail)
    go_ret2
    exact ⟨_, by rw [HQ.out]; rfl, by rw [HP.out]; exact Own.nil _ _ _ _, by (repeat' (first | (with_reducible exact Below.refl _ _) | (with_reducible assumption) | (with_reducible refine Below.alloc ?_ ?_ _) | (with_reducible refine Below.setCell ?_ ?_ _) | (with_reducible refine Below.drew ?_) | (with_reducible refine below_drewN ?_ _) | (with_reducible refine below_via ?_ (by with_reducible assumption) ?_) | omega | (simp; done) | (simp; omega)))⟩
  rw [h2] at c2
  have C2 := Lib.hid c2
  obtain ⟨hq0, hp0⟩ := put_ref h1 h2 hx
  have hh := getL_in hin x.asset x.tag
  have cs := fun W h => ref18set l (withQ x (getL l x.asset x.tag + x.qty)) A c W hl h
  clear c1 c2 h1 h2
  generalize getL l x.asset x.tag = had at *
  have C3 := Lib.hid c3
  clear c3
  cases h64 : in64 (had + x.qty)
  · rw [h64, if_pos rfl] at hq0
    have HQ := Lib.hid hq0
    have HP := Lib.hid (show putLL l x = [] from if_neg (by rw [hq0]; decide))
    clear hq0 hp0 cs
    have HF := Lib.hid h64
    clear h64
    go_enter Tryz.func28, Tryz.ntmps28
    go_wp2_with (first | (go_at_call 57; (with_reducible refine (C1.out _ (HR.out.keep (by (repeat' (first | (with_reducible exact Below.refl _ _) | (with_reducible assumption) | (with_reducible refine Below.alloc ?_ ?_ _) | (with_reducible refine Below.setCell ?_ ?_ _) | (with_reducible refine Below.drew ?_) | (with_reducible refine below_drewN ?_ _) | (with_reducible refine below_via ?_ (by with_reducible assumption) ?_) | omega | (simp; done) | (simp; omega)))))).mono ?_); rintro e w1 ⟨rfl, hb1⟩; obtain ⟨fc1, fg1, hc1, hf1, hz1⟩ := bget hb1; (try simp at hz1)) | (go_at_call 59; (with_reducible refine (C2.out _).mono ?_); rintro e w2 ⟨rfl, hb2⟩; obtain ⟨fc2, fg2, hc2, hf2, hz2⟩ := bget hb2; (try simp at hz2)) | (go_at_call 60; (with_reducible refine (C3.out _ (HR.out.keep (by (repeat' (first | (with_reducible exact Below.refl _ _) | (with_reducible assumption) | (with_reducible refine Below.alloc ?_ ?_ _) | (with_reducible refine Below.setCell ?_ ?_ _) | (with_reducible refine Below.drew ?_) | (with_reducible refine below_drewN ?_ _) | (with_reducible refine below_via ?_ (by with_reducible assumption) ?_) | omega | (simp; done) | (simp; omega)))))).mono ?_); rintro e w3 ⟨rfl, hb3⟩; obtain ⟨fc3, fg3, hc3, hf3, hz3⟩ := bget hb3; (try simp at hz3)) | fail)
    go_region_held3 (fun w' => w'.cell? ⟨w.heap.size, 2, none⟩ = some (.int .i64 x.qty)) (first | (simp [go_sem]; done) | (repeat' (first | (with_reducible assumption) | (with_reducible refine And.intro ?_ ?_) | (with_reducible refine cell_drew ?_) | (with_reducible refine cell_via (by with_reducible assumption) ?_ ?_) | (simp [*]; done) | (simp [go_sem]; done) | (with_reducible refine cell_alloc ?_ ?_) | (with_reducible refine cell_set_far ?_ ?_) | omega | (simp; omega)))) (first | (go_at_call 34; (with_reducible refine (bigOf had _ hh).mono ?_); rintro e w4 ⟨s4, A4, l4, c4, rfl, hB4, hl4, hb4⟩; have HB4 := Lib.hid hB4; clear hB4; obtain ⟨fc4, fg4, hc4, hf4, hz4⟩ := bget hb4; (try simp at hz4)) | (go_at_call 34; (with_reducible refine (bigOf x.qty _ hx).mono ?_); rintro e w5 ⟨s5, A5, l5, c5, rfl, hB5, hl5, hb5⟩; have HB5 := Lib.hid hB5; clear hB5; obtain ⟨fc5, fg5, hc5, hf5, hz5⟩ := bget hb5; (try simp at hz5)) | (go_at_call 33; (with_reducible refine (bigAdd had x.qty s4 s5 l4 l5 A4 A5 c4 c5 65 _ (by omega) hl4 hl5 (HB4.out.keep (by (repeat' (first | (with_reducible exact Below.refl _ _) | (with_reducible assumption) | (with_reducible refine Below.alloc ?_ ?_ _) | (with_reducible refine Below.setCell ?_ ?_ _) | (with_reducible refine Below.drew ?_) | (with_reducible refine below_drewN ?_ _) | (with_reducible refine below_via ?_ (by with_reducible assumption) ?_) | omega | (simp; done) | (simp; omega))))) (HB5.out.keep (by (repeat' (first | (with_reducible exact Below.refl _ _) | (with_reducible assumption) | (with_reducible refine Below.alloc ?_ ?_ _) | (with_reducible refine Below.setCell ?_ ?_ _) | (with_reducible refine Below.drew ?_) | (with_reducible refine below_drewN ?_ _) | (with_reducible refine below_via ?_ (by with_reducible assumption) ?_) | omega | (simp; done) | (simp; omega)))))).mono ?_); rintro e w6 ⟨s6, A6, l6, c6, rfl, hB6, hl6, hb6⟩; have HB6 := Lib.hid hB6; clear hB6; obtain ⟨fc6, fg6, hc6, hf6, hz6⟩ := bget hb6; (try simp at hz6)) | fail)
    all_goals
      go_wp2_with (first | (go_at_call 35; (with_reducible refine (bigFits (had + x.qty) s6 l6 A6 c6 66 _ (by omega) hl6 (by (repeat' (first | (focus ((refine (HB6.out).keep ?_); (repeat' (first | (with_reducible exact Below.refl _ _) | (with_reducible assumption) | (with_reducible refine Below.alloc ?_ ?_ _) | (with_reducible refine Below.setCell ?_ ?_ _) | (with_reducible refine Below.drew ?_) | (with_reducible refine below_drewN ?_ _) | (with_reducible refine below_via ?_ (by with_reducible assumption) ?_) | omega | (simp; done) | (simp; omega))); done)) | (refine IsBig.far (v0 := .slice none 0 0) ?_ ?_ ?_ _; rotate_left; (focus (simp [go_sem, *]; done)); (focus (simp; done))) | (refine IsBig.far (v0 := .bool false) ?_ ?_ ?_ _; rotate_left; (focus (first | (simp [go_sem, *]; done) | (simp [go_sem, *, ↓IntWalk.iteOmega]; done))); (focus (simp; done))) | fail)))).mono ?_); rw [HF.out]; rintro e w7 ⟨rfl, hb7⟩; obtain ⟨fc7, fg7, hc7, hf7, hz7⟩ := bget hb7; (try simp at hz7)) | fail)
      go_ret2
      exact ⟨_, by rw [HQ.out]; rfl, by rw [HP.out]; exact Own.nil _ _ _ _, by (repeat' (first | (with_reducible exact Below.refl _ _) | (with_reducible assumption) | (with_reducible refine Below.alloc ?_ ?_ _) | (with_reducible refine Below.setCell ?_ ?_ _) | (with_reducible refine Below.drew ?_) | (with_reducible refine below_drewN ?_ _) | (with_reducible refine below_via ?_ (by with_reducible assumption) ?_) | omega | (simp; done) | (simp; omega)))⟩
  rw [h64, if_neg (by simp)] at hq0
  have HF := Lib.hid h64
  have h64' := in64_iff.1 h64
  clear h64
  by_cases hf : had = 0 ∧ l.length = 16
  · rw [if_pos hf] at hq0
    have bz : (had == 0) = true := by simpa using hf.1
    have bl : ((l.length : Int) == 16) = true := by rw [hf.2]; rfl
    have HQ := Lib.hid hq0
    have HP := Lib.hid (show putLL l x = [] from if_neg (by rw [hq0]; decide))
    clear hq0 hp0 cs hf
    go_enter Tryz.func28, Tryz.ntmps28
    go_wp2_with (first | (go_at_call 57; (with_reducible refine (C1.out _ (HR.out.keep (by (repeat' (first | (with_reducible exact Below.refl _ _) | (with_reducible assumption) | (with_reducible refine Below.alloc ?_ ?_ _) | (with_reducible refine Below.setCell ?_ ?_ _) | (with_reducible refine Below.drew ?_) | (with_reducible refine below_drewN ?_ _) | (with_reducible refine below_via ?_ (by with_reducible assumption) ?_) | omega | (simp; done) | (simp; omega)))))).mono ?_); rintro e w1 ⟨rfl, hb1⟩; obtain ⟨fc1, fg1, hc1, hf1, hz1⟩ := bget hb1; (try simp at hz1)) | (go_at_call 59; (with_reducible refine (C2.out _).mono ?_); rintro e w2 ⟨rfl, hb2⟩; obtain ⟨fc2, fg2, hc2, hf2, hz2⟩ := bget hb2; (try simp at hz2)) | (go_at_call 60; (with_reducible refine (C3.out _ (HR.out.keep (by (repeat' (first | (with_reducible exact Below.refl _ _) | (with_reducible assumption) | (with_reducible refine Below.alloc ?_ ?_ _) | (with_reducible refine Below.setCell ?_ ?_ _) | (with_reducible refine Below.drew ?_) | (with_reducible refine below_drewN ?_ _) | (with_reducible refine below_via ?_ (by with_reducible assumption) ?_) | omega | (simp; done) | (simp; omega)))))).mono ?_); rintro e w3 ⟨rfl, hb3⟩; obtain ⟨fc3, fg3, hc3, hf3, hz3⟩ := bget hb3; (try simp at hz3)) | fail)
    go_region_held3 (fun w' => w'.cell? ⟨w.heap.size, 2, none⟩ = some (.int .i64 x.qty)) (first | (simp [go_sem]; done) | (repeat' (first | (with_reducible assumption) | (with_reducible refine And.intro ?_ ?_) | (with_reducible refine cell_drew ?_) | (with_reducible refine cell_via (by with_reducible assumption) ?_ ?_) | (simp [*]; done) | (simp [go_sem]; done) | (with_reducible refine cell_alloc ?_ ?_) | (with_reducible refine cell_set_far ?_ ?_) | omega | (simp; omega)))) (first | (go_at_call 34; (with_reducible refine (bigOf had _ hh).mono ?_); rintro e w4 ⟨s4, A4, l4, c4, rfl, hB4, hl4, hb4⟩; have HB4 := Lib.hid hB4; clear hB4; obtain ⟨fc4, fg4, hc4, hf4, hz4⟩ := bget hb4; (try simp at hz4)) | (go_at_call 34; (with_reducible refine (bigOf x.qty _ hx).mono ?_); rintro e w5 ⟨s5, A5, l5, c5, rfl, hB5, hl5, hb5⟩; have HB5 := Lib.hid hB5; clear hB5; obtain ⟨fc5, fg5, hc5, hf5, hz5⟩ := bget hb5; (try simp at hz5)) | (go_at_call 33; (with_reducible refine (bigAdd had x.qty s4 s5 l4 l5 A4 A5 c4 c5 65 _ (by omega) hl4 hl5 (HB4.out.keep (by (repeat' (first | (with_reducible exact Below.refl _ _) | (with_reducible assumption) | (with_reducible refine Below.alloc ?_ ?_ _) | (with_reducible refine Below.setCell ?_ ?_ _) | (with_reducible refine Below.drew ?_) | (with_reducible refine below_drewN ?_ _) | (with_reducible refine below_via ?_ (by with_reducible assumption) ?_) | omega | (simp; done) | (simp; omega))))) (HB5.out.keep (by (repeat' (first | (with_reducible exact Below.refl _ _) | (with_reducible assumption) | (with_reducible refine Below.alloc ?_ ?_ _) | (with_reducible refine Below.setCell ?_ ?_ _) | (with_reducible refine Below.drew ?_) | (with_reducible refine below_drewN ?_ _) | (with_reducible refine below_via ?_ (by with_reducible assumption) ?_) | omega | (simp; done) | (simp; omega)))))).mono ?_); rintro e w6 ⟨s6, A6, l6, c6, rfl, hB6, hl6, hb6⟩; have HB6 := Lib.hid hB6; clear hB6; obtain ⟨fc6, fg6, hc6, hf6, hz6⟩ := bget hb6; (try simp at hz6)) | fail)
    all_goals
      go_wp2_with (first | (go_at_call 35; (with_reducible refine (bigFits (had + x.qty) s6 l6 A6 c6 66 _ (by omega) hl6 (by (repeat' (first | (focus ((refine (HB6.out).keep ?_); (repeat' (first | (with_reducible exact Below.refl _ _) | (with_reducible assumption) | (with_reducible refine Below.alloc ?_ ?_ _) | (with_reducible refine Below.setCell ?_ ?_ _) | (with_reducible refine Below.drew ?_) | (with_reducible refine below_drewN ?_ _) | (with_reducible refine below_via ?_ (by with_reducible assumption) ?_) | omega | (simp; done) | (simp; omega))); done)) | (refine IsBig.far (v0 := .slice none 0 0) ?_ ?_ ?_ _; rotate_left; (focus (simp [go_sem, *]; done)); (focus (simp; done))) | (refine IsBig.far (v0 := .bool false) ?_ ?_ ?_ _; rotate_left; (focus (first | (simp [go_sem, *]; done) | (simp [go_sem, *, ↓IntWalk.iteOmega]; done))); (focus (simp; done))) | fail)))).mono ?_); rw [HF.out]; rintro e w7 ⟨rfl, hb7⟩; obtain ⟨fc7, fg7, hc7, hf7, hz7⟩ := bget hb7; (try simp at hz7)) | fail)
      go_ret2
      exact ⟨_, by rw [HQ.out]; rfl, by rw [HP.out]; exact Own.nil _ _ _ _, by (repeat' (first | (with_reducible exact Below.refl _ _) | (with_reducible assumption) | (with_reducible refine Below.alloc ?_ ?_ _) | (with_reducible refine Below.setCell ?_ ?_ _) | (with_reducible refine Below.drew ?_) | (with_reducible refine below_drewN ?_ _) | (with_reducible refine below_via ?_ (by with_reducible assumption) ?_) | omega | (simp; done) | (simp; omega)))⟩
  · rw [if_neg hf] at hq0
    have HQ := Lib.hid hq0
    have hp := hp0 hq0
    generalize hset : setG (withQ x (had + x.qty)) (had + x.qty == 0) l = L at *
    have HP := Lib.hid hp
    have CS := Lib.hid (fun W h => show Calls Tryz.prog 61 #[.slice A l.length c, .agg #[.int .i64 x.asset, .int .i64 x.tag, .int .i64 (had + x.qty)]] W fun e w' => ∃ v, e = .returned v ∧ Own w' W.heap.size 33 3 v (L.map encLot) ∧ Below W.heap.size W w' from by rw [← hset]; exact cs W h)
    clear hq0 hp0 cs hset hp
    have hor : (had == 0) = false ∨ ((had == 0) = true ∧ ((l.length : Int) == 16) = false) := by
      by_cases h : had = 0
      · exact .inr ⟨by simpa using h, by rw [beq_eq_false_iff_ne]; omega⟩
      · exact .inl (by simpa using h)
    clear hf
    rcases hor with bz | ⟨bz, bl⟩
    all_goals
      go_enter Tryz.func28, Tryz.ntmps28
      go_wp2_with (first | (go_at_call 57; (with_reducible refine (C1.out _ (HR.out.keep (by (repeat' (first | (with_reducible exact Below.refl _ _) | (with_reducible assumption) | (with_reducible refine Below.alloc ?_ ?_ _) | (with_reducible refine Below.setCell ?_ ?_ _) | (with_reducible refine Below.drew ?_) | (with_reducible refine below_drewN ?_ _) | (with_reducible refine below_via ?_ (by with_reducible assumption) ?_) | omega | (simp; done) | (simp; omega)))))).mono ?_); rintro e w1 ⟨rfl, hb1⟩; obtain ⟨fc1, fg1, hc1, hf1, hz1⟩ := bget hb1; (try simp at hz1)) | (go_at_call 59; (with_reducible refine (C2.out _).mono ?_); rintro e w2 ⟨rfl, hb2⟩; obtain ⟨fc2, fg2, hc2, hf2, hz2⟩ := bget hb2; (try simp at hz2)) | (go_at_call 60; (with_reducible refine (C3.out _ (HR.out.keep (by (repeat' (first | (with_reducible exact Below.refl _ _) | (with_reducible assumption) | (with_reducible refine Below.alloc ?_ ?_ _) | (with_reducible refine Below.setCell ?_ ?_ _) | (with_reducible refine Below.drew ?_) | (with_reducible refine below_drewN ?_ _) | (with_reducible refine below_via ?_ (by with_reducible assumption) ?_) | omega | (simp; done) | (simp; omega)))))).mono ?_); rintro e w3 ⟨rfl, hb3⟩; obtain ⟨fc3, fg3, hc3, hf3, hz3⟩ := bget hb3; (try simp at hz3)) | fail)
      go_region_held3 (fun w' => w'.cell? ⟨w.heap.size, 2, none⟩ = some (.int .i64 x.qty)) (first | (simp [go_sem]; done) | (repeat' (first | (with_reducible assumption) | (with_reducible refine And.intro ?_ ?_) | (with_reducible refine cell_drew ?_) | (with_reducible refine cell_via (by with_reducible assumption) ?_ ?_) | (simp [*]; done) | (simp [go_sem]; done) | (with_reducible refine cell_alloc ?_ ?_) | (with_reducible refine cell_set_far ?_ ?_) | omega | (simp; omega)))) (first | (go_at_call 34; (with_reducible refine (bigOf had _ hh).mono ?_); rintro e w4 ⟨s4, A4, l4, c4, rfl, hB4, hl4, hb4⟩; have HB4 := Lib.hid hB4; clear hB4; obtain ⟨fc4, fg4, hc4, hf4, hz4⟩ := bget hb4; (try simp at hz4)) | (go_at_call 34; (with_reducible refine (bigOf x.qty _ hx).mono ?_); rintro e w5 ⟨s5, A5, l5, c5, rfl, hB5, hl5, hb5⟩; have HB5 := Lib.hid hB5; clear hB5; obtain ⟨fc5, fg5, hc5, hf5, hz5⟩ := bget hb5; (try simp at hz5)) | (go_at_call 33; (with_reducible refine (bigAdd had x.qty s4 s5 l4 l5 A4 A5 c4 c5 65 _ (by omega) hl4 hl5 (HB4.out.keep (by (repeat' (first | (with_reducible exact Below.refl _ _) | (with_reducible assumption) | (with_reducible refine Below.alloc ?_ ?_ _) | (with_reducible refine Below.setCell ?_ ?_ _) | (with_reducible refine Below.drew ?_) | (with_reducible refine below_drewN ?_ _) | (with_reducible refine below_via ?_ (by with_reducible assumption) ?_) | omega | (simp; done) | (simp; omega))))) (HB5.out.keep (by (repeat' (first | (with_reducible exact Below.refl _ _) | (with_reducible assumption) | (with_reducible refine Below.alloc ?_ ?_ _) | (with_reducible refine Below.setCell ?_ ?_ _) | (with_reducible refine Below.drew ?_) | (with_reducible refine below_drewN ?_ _) | (with_reducible refine below_via ?_ (by with_reducible assumption) ?_) | omega | (simp; done) | (simp; omega)))))).mono ?_); rintro e w6 ⟨s6, A6, l6, c6, rfl, hB6, hl6, hb6⟩; have HB6 := Lib.hid hB6; clear hB6; obtain ⟨fc6, fg6, hc6, hf6, hz6⟩ := bget hb6; (try simp at hz6)) | fail)
      all_goals
        go_wp2_with (first | (go_at_call 35; (with_reducible refine (bigFits (had + x.qty) s6 l6 A6 c6 66 _ (by omega) hl6 (by (repeat' (first | (focus ((refine (HB6.out).keep ?_); (repeat' (first | (with_reducible exact Below.refl _ _) | (with_reducible assumption) | (with_reducible refine Below.alloc ?_ ?_ _) | (with_reducible refine Below.setCell ?_ ?_ _) | (with_reducible refine Below.drew ?_) | (with_reducible refine below_drewN ?_ _) | (with_reducible refine below_via ?_ (by with_reducible assumption) ?_) | omega | (simp; done) | (simp; omega))); done)) | (refine IsBig.far (v0 := .slice none 0 0) ?_ ?_ ?_ _; rotate_left; (focus (simp [go_sem, *]; done)); (focus (simp; done))) | (refine IsBig.far (v0 := .bool false) ?_ ?_ ?_ _; rotate_left; (focus (first | (simp [go_sem, *]; done) | (simp [go_sem, *, ↓IntWalk.iteOmega]; done))); (focus (simp; done))) | fail)))).mono ?_); rw [HF.out]; rintro e w7 ⟨rfl, hb7⟩; obtain ⟨fc7, fg7, hc7, hf7, hz7⟩ := bget hb7; (try simp at hz7)) | (go_at_call 36; (with_reducible refine (bigInt (had + x.qty) s6 l6 A6 c6 _ (by omega) h64' (by refine IsBig.keep ?_ hb7; (repeat' (first | (focus ((refine (HB6.out).keep ?_); (repeat' (first | (with_reducible exact Below.refl _ _) | (with_reducible assumption) | (with_reducible refine Below.alloc ?_ ?_ _) | (with_reducible refine Below.setCell ?_ ?_ _) | (with_reducible refine Below.drew ?_) | (with_reducible refine below_drewN ?_ _) | (with_reducible refine below_via ?_ (by with_reducible assumption) ?_) | omega | (simp; done) | (simp; omega))); done)) | (refine IsBig.far (v0 := .slice none 0 0) ?_ ?_ ?_ _; rotate_left; (focus (simp [go_sem, *]; done)); (focus (simp; done))) | (refine IsBig.far (v0 := .bool false) ?_ ?_ ?_ _; rotate_left; (focus (first | (simp [go_sem, *]; done) | (simp [go_sem, *, ↓IntWalk.iteOmega]; done))); (focus (simp; done))) | fail)))).mono ?_); rintro e w8 ⟨rfl, hb8⟩; obtain ⟨fc8, fg8, hc8, hf8, hz8⟩ := bget hb8; (try simp at hz8)) | (go_at_call 61; (with_reducible refine (CS.out _ (HR.out.keep (by (repeat' (first | (with_reducible exact Below.refl _ _) | (with_reducible assumption) | (with_reducible refine Below.alloc ?_ ?_ _) | (with_reducible refine Below.setCell ?_ ?_ _) | (with_reducible refine Below.drew ?_) | (with_reducible refine below_drewN ?_ _) | (with_reducible refine below_via ?_ (by with_reducible assumption) ?_) | omega | (simp; done) | (simp; omega)))))).mono ?_); rintro e w9 ⟨v9, rfl, hown9, hb9⟩; obtain ⟨fc9, fg9, hc9, hf9, hz9⟩ := bget hb9; (try simp at hz9)) | fail)
        go_ret2
        exact ⟨_, by rw [HQ.out]; rfl, by rw [HP.out]; exact hown9.mono (by first | omega | (simp; omega)), by (repeat' (first | (with_reducible exact Below.refl _ _) | (with_reducible assumption) | (with_reducible refine Below.alloc ?_ ?_ _) | (with_reducible refine Below.setCell ?_ ?_ _) | (with_reducible refine Below.drew ?_) | (with_reducible refine below_drewN ?_ _) | (with_reducible refine below_via ?_ (by with_reducible assumption) ?_) | omega | (simp; done) | (simp; omega)))⟩
end Go.Proofs.YtalgfpegaobacaaGreat

/- Layer 18's laws: Few, lives. -/
namespace Go.Proofs.YtalgfpegaobacaaGreat
open Go.RowKit
end Go.Proofs.YtalgfpegaobacaaGreat

/- Holds: contracts of hold.Lots, the reference's hold.Lots, Same; the law's Few. -/
namespace Go.Proofs.YtalgfpegaobacaaGreat
open Go.RowKit
theorem few_inHoldV (l : List Lot) (m : Nat) (hm : (l.take 20).length = m) (A : Option Addr) (c : Nat) (w : World) (hr : Rs w 3 (l.map encLot) A c) :
    Calls Tryz.prog 42 #[.slice A l.length c] w fun e w' => e = .returned (.slice A m c) ∧ Below w.heap.size w w' := hm ▸ law18Few l A c w hr
set_option maxRecDepth 100000 in
set_option maxHeartbeats 8000000 in
theorem holdOf (l : List HoldV) (u : Un) (A : Option Addr) (c : Nat) (w : World) (hl : l.length ≤ 1000000) (hr : Rd w A 3 (l.map encHoldV)) (hg : ∀ x ∈ l, GoodHoldV w x) :
    Calls Tryz.prog 24 #[.slice A l.length c, .agg #[.int .i64 u.acc, .int .i64 u.cli]] w fun e w' => ∃ v, e = .returned v ∧ Own w' w.heap.size 33 3 v ((ofK (l.map lgHoldV) u).map encLot) ∧ Below w.heap.size w w' := by
  have HR := Lib.hid hr
  have HG := Lib.hid hg
  clear hr hg
  go_enter Tryz.func24, Tryz.ntmps24
  go_wp2_with fail
  go_loopw [9] (fun i wr => ∃ k : Nat, k ≤ l.length ∧ i = .int .i64 k ∧ ofK (l.map lgHoldV) u = ofK ((l.drop k).map lgHoldV) u ∧ Below w.heap.size w wr ∧ w.heap.size < wr.heap.size ∧ wr.cell? ⟨w.heap.size, 0, none⟩ = some (.int .i64 u.acc) ∧ wr.cell? ⟨w.heap.size, 1, none⟩ = some (.int .i64 u.cli)) (fun i _ => l.length - (intOf i).toNat)
  case atStart => exact ⟨0, Nat.zero_le _, rfl, rfl, by (repeat' (first | (with_reducible exact Below.refl _ _) | (with_reducible assumption) | (with_reducible refine Below.alloc ?_ ?_ _) | (with_reducible refine Below.setCell ?_ ?_ _) | (with_reducible refine Below.drew ?_) | (with_reducible refine below_drewN ?_ _) | (with_reducible refine below_via ?_ (by with_reducible assumption) ?_) | omega | (simp; done) | (simp; omega))), by simp, by simp [go_sem], by simp [go_sem]⟩
  case round =>
    obtain ⟨k, hk, rfl, hv, hbl, hsz, g0, g1⟩ := hrel
    have HV := Lib.hid hv
    have Hbl := Lib.hid hbl
    have hz := hbl.size
    clear hv hbl
    by_cases hlt : k < l.length
    · have kl : (k : Int) < (l.length : Int) := by omega
      have dl : decide ((k : Int) < (l.length : Int)) = true := by simpa using hlt
      have hgk := HG.out l[k] (List.getElem_mem hlt)
      have hli := hgk.1
      have HGK := Lib.hid (hgk.2.keep Hbl.out)
      have hd := lg_atHoldV hlt
      clear hgk
      obtain ⟨b, o, rfl, hb, hc⟩ := HR.out k (encHoldV l[k]) (by simp [hlt])
      have e0 := (Hbl.out.cell (p := ⟨b, o + k * 3 + 0, none⟩) hb).trans (hc 0 _ rfl)
      have e1 := (Hbl.out.cell (p := ⟨b, o + k * 3 + 1, none⟩) hb).trans (hc 1 _ rfl)
      have e2 := (Hbl.out.cell (p := ⟨b, o + k * 3 + 2, none⟩) hb).trans (hc 2 _ rfl)
      simp only [Nat.add_zero] at e0
      clear hc
      have hbw : b < wr.heap.size := by omega
      rcases un_tHoldV (x := l[k].unit) (u := u) with h | h
      · have HN := Lib.hid (show ofK (l.map lgHoldV) u = l[k].lots.val from by rw [HV.out, hd]; unfold ofK; rw [if_pos (show (lgHoldV l[k]).unit = u from h)]; rfl)
        rw [h] at e0 e1
        clear hd h
        go_wp2_with (first | (go_at_call 53; (with_reducible refine (lotClone l[k].lots.val l[k].lots.A l[k].lots.c _ (by omega) (HGK.out.keep (by (repeat' (first | (with_reducible exact Below.refl _ _) | (with_reducible assumption) | (with_reducible refine Below.alloc ?_ ?_ _) | (with_reducible refine Below.setCell ?_ ?_ _) | (with_reducible refine Below.drew ?_) | (with_reducible refine below_drewN ?_ _) | (with_reducible refine below_via ?_ (by with_reducible assumption) ?_) | omega | (simp; done) | (simp; omega)))))).mono ?_); rintro e w3 ⟨v3, rfl, hown3, hb3⟩; obtain ⟨fc3, fg3, hc3, hf3, hz3⟩ := bget hb3; (try simp at hz3)) | fail)
        go_ret
        exact ⟨_, rfl, by rw [HN.out]; exact hown3.mono (by first | omega | (simp; done) | (simp; omega)), by have hbl := Hbl.out; (repeat' (first | (with_reducible exact Below.refl _ _) | (with_reducible assumption) | (with_reducible refine Below.alloc ?_ ?_ _) | (with_reducible refine Below.setCell ?_ ?_ _) | (with_reducible refine Below.drew ?_) | (with_reducible refine below_drewN ?_ _) | (with_reducible refine below_via ?_ (by with_reducible assumption) ?_) | omega | (simp; done) | (simp; omega)))⟩
      · have HN := Lib.hid (show ofK (l.map lgHoldV) u = ofK ((l.drop (k + 1)).map lgHoldV) u from by rw [HV.out, hd, ofK, if_neg (show ¬ (lgHoldV l[k]).unit = u from un_dHoldV h)])
        clear hd
        rcases h with h | h
        all_goals
          go_wp2_with fail
          go_roundw
          case rel => exact ⟨k + 1, by omega, by go_num, HN.out, by have hbl := Hbl.out; (repeat' (first | (with_reducible exact Below.refl _ _) | (with_reducible assumption) | (with_reducible refine Below.alloc ?_ ?_ _) | (with_reducible refine Below.setCell ?_ ?_ _) | (with_reducible refine Below.drew ?_) | (with_reducible refine below_drewN ?_ _) | (with_reducible refine below_via ?_ (by with_reducible assumption) ?_) | omega | (simp; done) | (simp; omega))), by simp; omega, by simp [go_sem, g0, hsz], by simp [go_sem, g1, hsz]⟩
          case measure => simp [intOf]; omega
    · have dl : decide ((k : Int) < (l.length : Int)) = false := by simpa using hlt
      have HD := Lib.hid (drop_all (l := l) (k := k) (by omega))
      go_wp2_with fail
      go_ret
      exact ⟨_, rfl, by rw [HV.out, HD.out]; exact Own.nil _ _ _ _, by have hbl := Hbl.out; (repeat' (first | (with_reducible exact Below.refl _ _) | (with_reducible assumption) | (with_reducible refine Below.alloc ?_ ?_ _) | (with_reducible refine Below.setCell ?_ ?_ _) | (with_reducible refine Below.drew ?_) | (with_reducible refine below_drewN ?_ _) | (with_reducible refine below_via ?_ (by with_reducible assumption) ?_) | omega | (simp; done) | (simp; omega)))⟩
set_option maxRecDepth 100000 in
set_option maxHeartbeats 8000000 in
theorem refHoldVOf (l : List HoldV) (u : Un) (A : Option Addr) (c : Nat) (w : World) (hl : l.length ≤ 1000000) (hr : Rd w A 3 (l.map encHoldV)) (hg : ∀ x ∈ l, GoodHoldV w x) :
    Calls Tryz.prog 29 #[.slice A l.length c, .agg #[.int .i64 u.acc, .int .i64 u.cli]] w fun e w' => ∃ A2 c2, e = .returned (.slice A2 (ofK (l.map lgHoldV) u).length c2) ∧ Rs w' 3 ((ofK (l.map lgHoldV) u).map encLot) A2 c2 ∧ Below w.heap.size w w' := by
  have HR := Lib.hid hr
  have HG := Lib.hid hg
  clear hr hg
  obtain ⟨R, hR⟩ : ∃ R, R = ofK (l.map lgHoldV) u := ⟨_, rfl⟩
  rw [← hR]
  have HRR := Lib.hid hR
  clear hR
  go_enter Tryz.func29, Tryz.ntmps29
  go_wp2_with fail
  go_loopw [5] (fun i wr => ∃ k : Nat, k ≤ l.length ∧ i = .int .i64 k ∧ R = ofK ((l.drop k).map lgHoldV) u ∧ Below w.heap.size w wr ∧ w.heap.size < wr.heap.size ∧ wr.cell? ⟨w.heap.size, 0, none⟩ = some (.int .i64 u.acc) ∧ wr.cell? ⟨w.heap.size, 1, none⟩ = some (.int .i64 u.cli)) (fun i _ => l.length - (intOf i).toNat)
  case atStart => exact ⟨0, Nat.zero_le _, rfl, HRR.out, by (repeat' (first | (with_reducible exact Below.refl _ _) | (with_reducible assumption) | (with_reducible refine Below.alloc ?_ ?_ _) | (with_reducible refine Below.setCell ?_ ?_ _) | (with_reducible refine Below.drew ?_) | (with_reducible refine below_drewN ?_ _) | (with_reducible refine below_via ?_ (by with_reducible assumption) ?_) | omega | (simp; done) | (simp; omega))), by simp, by simp [go_sem], by simp [go_sem]⟩
  case round =>
    obtain ⟨k, hk, rfl, hv, hbl, hsz, g0, g1⟩ := hrel
    have HV := Lib.hid hv
    have Hbl := Lib.hid hbl
    have hz := hbl.size
    clear hv hbl
    by_cases hlt : k < l.length
    · have kl : (k : Int) < (l.length : Int) := by omega
      have dl : decide ((k : Int) < (l.length : Int)) = true := by simpa using hlt
      have hgk := HG.out l[k] (List.getElem_mem hlt)
      have HGK := Lib.hid (hgk.2.keep Hbl.out)
      have hd := lg_atHoldV hlt
      clear hgk
      obtain ⟨b, o, rfl, hb, hc⟩ := HR.out k (encHoldV l[k]) (by simp [hlt])
      have e0 := (Hbl.out.cell (p := ⟨b, o + k * 3 + 0, none⟩) hb).trans (hc 0 _ rfl)
      have e1 := (Hbl.out.cell (p := ⟨b, o + k * 3 + 1, none⟩) hb).trans (hc 1 _ rfl)
      have e2 := (Hbl.out.cell (p := ⟨b, o + k * 3 + 2, none⟩) hb).trans (hc 2 _ rfl)
      simp only [Nat.add_zero] at e0
      clear hc
      have hbw : b < wr.heap.size := by omega
      rcases un_tHoldV (x := l[k].unit) (u := u) with h | h
      · have HN := Lib.hid (show R = l[k].lots.val from by rw [HV.out, hd]; unfold ofK; rw [if_pos (show (lgHoldV l[k]).unit = u from h)]; rfl)
        rw [h] at e0 e1
        clear hd h
        go_wp2_with fail
        go_quiet (fail)
        go_wp2_with fail
        go_ret
        exact ⟨l[k].lots.A, l[k].lots.c, by rw [HN.out]; rfl, by rw [HN.out]; exact HGK.out.keep (by (repeat' (first | (with_reducible exact Below.refl _ _) | (with_reducible assumption) | (with_reducible refine Below.alloc ?_ ?_ _) | (with_reducible refine Below.setCell ?_ ?_ _) | (with_reducible refine Below.drew ?_) | (with_reducible refine below_drewN ?_ _) | (with_reducible refine below_via ?_ (by with_reducible assumption) ?_) | omega | (simp; done) | (simp; omega)))), by have hbl := Hbl.out; (repeat' (first | (with_reducible exact Below.refl _ _) | (with_reducible assumption) | (with_reducible refine Below.alloc ?_ ?_ _) | (with_reducible refine Below.setCell ?_ ?_ _) | (with_reducible refine Below.drew ?_) | (with_reducible refine below_drewN ?_ _) | (with_reducible refine below_via ?_ (by with_reducible assumption) ?_) | omega | (simp; done) | (simp; omega)))⟩
      · have HN := Lib.hid (show R = ofK ((l.drop (k + 1)).map lgHoldV) u from by rw [HV.out, hd, ofK, if_neg (show ¬ (lgHoldV l[k]).unit = u from un_dHoldV h)])
        clear hd
        rcases h with h | h
        all_goals
          go_wp2_with fail
          go_quiet (fail)
          go_wp2_with fail
          go_roundw
          case rel => exact ⟨k + 1, by omega, by go_num, HN.out, by have hbl := Hbl.out; (repeat' (first | (with_reducible exact Below.refl _ _) | (with_reducible assumption) | (with_reducible refine Below.alloc ?_ ?_ _) | (with_reducible refine Below.setCell ?_ ?_ _) | (with_reducible refine Below.drew ?_) | (with_reducible refine below_drewN ?_ _) | (with_reducible refine below_via ?_ (by with_reducible assumption) ?_) | omega | (simp; done) | (simp; omega))), by simp; omega, by simp [go_sem, g0], by simp [go_sem, g1]⟩
          case measure => simp [intOf]; omega
    · have dl : decide ((k : Int) < (l.length : Int)) = false := by simpa using hlt
      have HD := Lib.hid (show R = [] from by rw [HV.out, drop_all (l := l) (k := k) (by omega)]; rfl)
      go_wp2_with fail
      go_ret
      exact ⟨none, 0, by rw [HD.out]; rfl, by rw [HD.out]; exact Rs.empty _ _, by have hbl := Hbl.out; (repeat' (first | (with_reducible exact Below.refl _ _) | (with_reducible assumption) | (with_reducible refine Below.alloc ?_ ?_ _) | (with_reducible refine Below.setCell ?_ ?_ _) | (with_reducible refine Below.drew ?_) | (with_reducible refine below_drewN ?_ _) | (with_reducible refine below_via ?_ (by with_reducible assumption) ?_) | omega | (simp; done) | (simp; omega)))⟩
theorem row3HoldV (a b : Int) (A : Option Addr) (n m : Nat) : ∀ r ∈ [[Value.int .i64 a, .int .i64 b, .slice A n m]], r.length = 3 ∧ ∀ u ∈ r, u.oneCell' = true := by
  intro r hr
  simp only [List.mem_singleton] at hr
  subst hr
  refine ⟨rfl, ?_⟩
  simp only [List.mem_cons, List.not_mem_nil, or_false, forall_eq_or_imp, forall_eq]
  exact ⟨rfl, rfl, rfl⟩
/-- A row with at most so many of its list. -/
def fewHoldV (x : HoldV) : HoldV := { x with lots := ⟨x.lots.A, x.lots.c, x.lots.val.take 20⟩ }
theorem fewHoldV_good {w : World} {x : HoldV} (h : Rs w 3 (x.lots.val.map encLot) x.lots.A x.lots.c) : GoodHoldV w (fewHoldV x) ∧ (fewHoldV x).lots.val.length ≤ 20 := by
  have h1 : (fewHoldV x).lots.val.length ≤ 20 := by simp [fewHoldV]; omega
  refine ⟨⟨by omega, ?_⟩, h1⟩
  have := h.take 20
  rw [← List.map_take] at this
  exact this
set_option maxRecDepth 100000 in
set_option maxHeartbeats 8000000 in
theorem law26Few (l : List HoldV) (A : Option Addr) (c : Nat) (w : World) (hl : l.length ≤ maxLen) (hr : Rd w A 3 (l.map encHoldV)) (hg : ∀ x ∈ l, Rs w 3 (x.lots.val.map encLot) x.lots.A x.lots.c) :
    Calls Tryz.prog 18 #[.slice A l.length c] w fun e w' => ∃ v, e = .returned v ∧ Own w' w.heap.size 97 3 v (((l.take 10).map fewHoldV).map encHoldV) ∧ Below w.heap.size w w' := by
  have HR := Lib.hid hr
  have HG := Lib.hid hg
  have hml : (l.length : Int) ≤ 9223372036854775807 := by unfold maxLen at hl; omega
  clear hr hg hl
  go_enter Tryz.func18, Tryz.ntmps18
  go_wp2_with fail
  go_loopw [3, 4] (fun v i wr => ∃ q : Nat, q ≤ l.length ∧ q ≤ 10 ∧ i = .int .i64 q ∧ Own wr w.heap.size 97 3 v (((l.take q).map fewHoldV).map encHoldV) ∧ Below w.heap.size w wr) (fun _ i _ => l.length - (intOf i).toNat)
  case atStart => exact ⟨0, Nat.zero_le _, Nat.zero_le _, rfl, Own.nil _ _ _ _, by (repeat' (first | (with_reducible exact Below.refl _ _) | (with_reducible assumption) | (with_reducible refine Below.alloc ?_ ?_ _) | (with_reducible refine Below.setCell ?_ ?_ _) | (with_reducible refine Below.drew ?_) | (with_reducible refine below_drewN ?_ _) | (with_reducible refine below_via ?_ (by with_reducible assumption) ?_) | omega | (simp; done) | (simp; omega)))⟩
  case round =>
    obtain ⟨k, hq, hq10, rfl, hown, hbl⟩ := hrel
    have Hown := Lib.hid hown
    have Hbl := Lib.hid hbl
    have hz := hbl.size
    clear hown hbl
    by_cases hgo : k < l.length ∧ k < 10
    · obtain ⟨hlt, h10⟩ := hgo
      have hqi : (k : Int) < (l.length : Int) := by omega
      have dl : decide ((k : Int) < (l.length : Int)) = true := by simpa using hlt
      have d10 : decide ((k : Int) < 10) = true := by simp; omega
      have hlen : ((l.take k).map fewHoldV).length ≤ 10 := by simp; omega
      have hx := HG.out l[k] (List.getElem_mem hlt)
      obtain ⟨b, o, rfl, hb, hc⟩ := HR.out k (encHoldV l[k]) (by simp [hlt])
      have e0 := (Hbl.out.cell (p := ⟨b, o + k * 3 + 0, none⟩) hb).trans (hc 0 _ rfl)
      have e1 := (Hbl.out.cell (p := ⟨b, o + k * 3 + 1, none⟩) hb).trans (hc 1 _ rfl)
      have e2 := (Hbl.out.cell (p := ⟨b, o + k * 3 + 2, none⟩) hb).trans (hc 2 _ rfl)
      simp only [Nat.add_zero] at e0
      clear hc
      have hbw : b < wr.heap.size := by omega
      obtain ⟨m, hm⟩ : ∃ m, (l[k].lots.val.take 20).length = m := ⟨_, rfl⟩
      have CF := Lib.hid (fun W (h : Below w.heap.size w W) => few_inHoldV l[k].lots.val m hm l[k].lots.A l[k].lots.c W (hx.keep h))
      have HS : Hid (((l.take (k + 1)).map fewHoldV).map encHoldV = ((l.take k).map fewHoldV).map encHoldV ++ [[.int .i64 l[k].unit.acc, .int .i64 l[k].unit.cli, .slice l[k].lots.A m l[k].lots.c]]) := by
        unfold Hid
        rw [map_snoc hlt fewHoldV, List.map_append]
        congr 1
        simp only [List.map_cons, List.map_nil, encHoldV, fewHoldV, hm]
      clear hx hm
      go_wp2_with fail
      go_region_held3 (fun w' => (w'.cell? ⟨b, o + k * 3, none⟩ = some (.int .i64 l[k].unit.acc) ∧ w'.cell? ⟨b, o + k * 3 + 1, none⟩ = some (.int .i64 l[k].unit.cli) ∧ w'.cell? ⟨b, o + k * 3 + 2, none⟩ = some (.slice l[k].lots.A l[k].lots.val.length l[k].lots.c))) (first | (simp [go_sem]; done) | (repeat' (first | (with_reducible assumption) | (with_reducible refine And.intro ?_ ?_) | (with_reducible refine cell_drew ?_) | (with_reducible refine cell_via (by with_reducible assumption) ?_ ?_) | (simp [*]; done) | (simp [go_sem]; done) | (with_reducible refine cell_alloc ?_ ?_) | (with_reducible refine cell_set_far ?_ ?_) | omega | (simp; omega)))) (first | (go_at_call 42; (with_reducible refine (CF.out _ (by have hbl := Hbl.out; (repeat' (first | (with_reducible exact Below.refl _ _) | (with_reducible assumption) | (with_reducible refine Below.alloc ?_ ?_ _) | (with_reducible refine Below.setCell ?_ ?_ _) | (with_reducible refine Below.drew ?_) | (with_reducible refine below_drewN ?_ _) | (with_reducible refine below_via ?_ (by with_reducible assumption) ?_) | omega | (simp; done) | (simp; omega))))).mono ?_); rintro e w1 ⟨rfl, hb1⟩; obtain ⟨fc1, fg1, hc1, hf1, hz1⟩ := bget hb1; (try simp at hz1)) | (refine step_app rfl _ _ _ rfl elHoldV w.heap.size _ _ rfl (Hown.out.keep (by (repeat' (first | (with_reducible exact Below.refl _ _) | (with_reducible assumption) | (with_reducible refine Below.alloc ?_ ?_ _) | (with_reducible refine Below.setCell ?_ ?_ _) | (with_reducible refine Below.drew ?_) | (with_reducible refine below_drewN ?_ _) | (with_reducible refine below_via ?_ (by with_reducible assumption) ?_) | omega | (simp; done) | (simp; omega))))) (some ⟨_, 0, none⟩) 1 1 rfl [[.int .i64 l[k].unit.acc, .int .i64 l[k].unit.cli, .slice l[k].lots.A m l[k].lots.c]] rfl (fun h => by cases h) (rd_oneN (by simp)) (row3HoldV _ _ _ _ _) (by unfold maxLen; simp; omega) (by simp; omega) (by first | omega | (simp; done) | (simp; omega)) ?_; intro v4 w4 hown4 hb4; have HO4 := Lib.hid hown4; clear hown4; obtain ⟨fc4, fg4, hc4, hf4, hz4⟩ := bget hb4; (try simp at hz4)) | fail)
      all_goals
        go_wp2_with fail
        go_roundw
        case rel => exact ⟨k + 1, by omega, by omega, by go_num, by rw [HS.out]; exact HO4.out, by have hbl := Hbl.out; (repeat' (first | (with_reducible exact Below.refl _ _) | (with_reducible assumption) | (with_reducible refine Below.alloc ?_ ?_ _) | (with_reducible refine Below.setCell ?_ ?_ _) | (with_reducible refine Below.drew ?_) | (with_reducible refine below_drewN ?_ _) | (with_reducible refine below_via ?_ (by with_reducible assumption) ?_) | omega | (simp; done) | (simp; omega)))⟩
        case measure => simp [intOf]; omega
    · have HT := Lib.hid (show l.take k = l.take 10 from by
        rcases Nat.lt_or_ge k 10 with h | h
        · rw [List.take_of_length_le (by omega), List.take_of_length_le (by omega)]
        · rw [show k = 10 by omega])
      by_cases hlt : k < l.length
      · have dl : decide ((k : Int) < (l.length : Int)) = true := by simpa using hlt
        have d10 : decide ((k : Int) < 10) = false := by simp; omega
        go_wp2_with fail
        go_ret
        exact ⟨_, rfl, by rw [← HT.out]; exact Hown.out, Hbl.out⟩
      · have dl : decide ((k : Int) < (l.length : Int)) = false := by simpa using hlt
        go_wp2_with fail
        go_ret
        exact ⟨_, rfl, by rw [← HT.out]; exact Hown.out, Hbl.out⟩
end Go.Proofs.YtalgfpegaobacaaGreat

/- Holds: contract of hold.set. -/
namespace Go.Proofs.YtalgfpegaobacaaGreat
open Go.RowKit
/-- Holds in memory of their own. -/
def HoldPost1 (w : World) (L : List (Row Lot)) (e : Ending) (w' : World) : Prop :=
  ∃ (v : Value) (ys : List HoldV), e = .returned v ∧ ys.map lgHoldV = L ∧ Own w' w.heap.size 97 3 v (ys.map encHoldV) ∧ (∀ y ∈ ys, GoodHoldV w' y) ∧ Below w.heap.size w w'
/-- Its list lies in no such block. -/
def OffB (g : Nat) (y : HoldV) : Prop := ∀ a, y.lots.A = some a → a.block ≠ g
/-- As HoldPost1, and no list lies in a block that S holds. -/
def HoldPostS1 (w : World) (S : Nat → Prop) (L : List (Row Lot)) (e : Ending) (w' : World) : Prop :=
  ∃ (v : Value) (ys : List HoldV), e = .returned v ∧ ys.map lgHoldV = L ∧ Own w' w.heap.size 97 3 v (ys.map encHoldV) ∧ (∀ y ∈ ys, GoodHoldV w' y) ∧ (∀ g, S g → ∀ y ∈ ys, OffB g y) ∧ Below w.heap.size w w'
theorem HoldPostS1.less {w : World} {S : Nat → Prop} {L : List (Row Lot)} {e : Ending} {w' : World} (h : HoldPostS1 w S L e w') : HoldPost1 w L e w' := by
  obtain ⟨v, ys, h1, h2, h3, h4, _, h5⟩ := h
  exact ⟨v, ys, h1, h2, h3, h4, h5⟩
theorem own_off {w : World} {base E k n c : Nat} {A : Option Addr} {rows : List (List Value)} (h : Own w base E k (.slice A n c) rows) {m : Nat} (hm : m ≤ base) : ∀ a, A = some a → m ≤ a.block := by
  intro a ha
  obtain ⟨A2, c2, hv, _, hf⟩ := h.rs
  injection hv with e1 _ _
  rcases hf with ⟨h1, _, _⟩ | ⟨g, h1, h2, _⟩
  · rw [e1, h1] at ha; cases ha
  · rw [e1, h1] at ha
    injection ha with ha
    subst ha
    exact Nat.le_trans hm h2
def OwnH (w : World) (base : Nat) (y : HoldV) : Prop := y.lots.val.length ≤ 1000000 ∧ Own w base 33 3 (.slice y.lots.A y.lots.val.length y.lots.c) (y.lots.val.map encLot)
theorem OwnH.good {w : World} {base : Nat} {y : HoldV} (h : OwnH w base y) : GoodHoldV w y := ⟨h.1, h.2.good⟩
theorem OwnH.away {w w' : World} {base : Nat} {y : HoldV} (h : OwnH w base y) (ha : Away 97 w w') : OwnH w' base y := ⟨h.1, h.2.away ha (by decide)⟩
/-- A list of the call's own, or one that was there ahead of it. -/
def MixH (n : Nat) (wo w : World) (y : HoldV) : Prop := OwnH w wo.heap.size y ∨ (GoodHoldV wo y ∧ ∀ a, y.lots.A = some a → n ≤ a.block)
theorem MixH.off {n : Nat} {wo w : World} {y : HoldV} (h : MixH n wo w y) (hn : n ≤ wo.heap.size) : ∀ a, y.lots.A = some a → n ≤ a.block := by
  rcases h with h | h
  · exact own_off h.2 hn
  · exact h.2
theorem MixH.away {n : Nat} {wo w w' : World} {y : HoldV} (h : MixH n wo w y) (ha : Away 97 w w') : MixH n wo w' y := by
  rcases h with h | h
  · exact .inl (h.away ha)
  · exact .inr h
theorem MixH.good {n : Nat} {wo w : World} {y : HoldV} (h : MixH n wo w y) (hb : Below wo.heap.size wo w) : GoodHoldV w y := by
  rcases h with h | h
  · exact h.good
  · exact h.1.keep hb
end Go.Proofs.YtalgfpegaobacaaGreat
