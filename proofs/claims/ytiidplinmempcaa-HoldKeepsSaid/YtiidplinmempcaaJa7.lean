/- Joined: Ref18e, LotL1, Ho2. -/
import Derived.Test.YtiidplinmempcaaJa5
import Derived.Test.YtiidplinmempcaaJa6
import Derived.Test.YtiidplinmempcaaJa4
import Derived.Test.YtiidplinmempcaaJz7
import Derived.Test.YtiidplinmempcaaJa3
/- Lots: contracts of the reference's Put, Take. -/
namespace Go.Proofs.Ytiidplinmempcaa
open Go.RowKit
theorem getL_in {l : List Lot} (hin : ∀ y ∈ l, In64 y.qty) (a t : Int) : In64 (getL l a t) := by
  unfold getL
  cases h : l.find? (fun x => x.asset == a && x.tag == t) with
  | none => show In64 0; unfold In64; omega
  | some y => exact hin y (List.mem_of_find?_eq_some h)
set_option maxRecDepth 100000 in
set_option maxHeartbeats 16000000 in
theorem ref18Put (l : List Lot) (x : Lot) (A : Option Addr) (c : Nat) (w : World) (hl : l.length ≤ 400000) (hin : ∀ y ∈ l, In64 y.qty) (hx : In64 x.qty) (hr : Rd w A 3 (l.map encLot)) :
    Calls Try.prog 118 #[.slice A l.length c, .agg #[.int .i64 x.asset, .int .i64 x.tag, .int .i64 x.qty]] w (LotsPost w (putLL l x) (putLC l x)) := by
  have HR := Lib.hid hr
  have c1 := fun W h => ref18Is l A c W (by omega) h
  have c2 := fun W => ref18one x W
  have c3 := fun W h => ref18Get l x.asset x.tag A c W (by omega) h
  clear hr
  cases h1 : isL l
  · have hc : codeL l x = 3 := by unfold codeL; rw [h1]; rfl
    have hq : putLC l x = 3 := by unfold putLC; rw [hc]; rfl
    have HQ := Lib.hid hq
    have HP := Lib.hid (show putLL l x = [] from if_neg (by rw [hq]; decide))
    rw [h1] at c1
    have C1 := Lib.hid c1
    clear c1 c2 c3 hc hq h1
    go_enter Try.func118, Try.ntmps118
    go_wp2_with (first | (go_at_call 113; (with_reducible refine (C1.out _ (HR.out.keep (by (repeat' (first | (with_reducible exact Below.refl _ _) | (with_reducible assumption) | (with_reducible refine Below.alloc ?_ ?_ _) | (with_reducible refine Below.setCell ?_ ?_ _) | (with_reducible refine Below.drew ?_) | (with_reducible refine below_drewN ?_ _) | (with_reducible refine below_via ?_ (by with_reducible assumption) ?_) | omega | (simp; done) | (simp; omega)))))).mono ?_); rintro e w1 ⟨rfl, hb1⟩; obtain ⟨fc1, fg1, hc1, hf1, hz1⟩ := bget hb1; (try simp at hz1)) | fail)
    go_ret2
    exact ⟨_, by rw [HQ.out]; rfl, by rw [HP.out]; exact Own.nil _ _ _ _, by (repeat' (first | (with_reducible exact Below.refl _ _) | (with_reducible assumption) | (with_reducible refine Below.alloc ?_ ?_ _) | (with_reducible refine Below.setCell ?_ ?_ _) | (with_reducible refine Below.drew ?_) | (with_reducible refine below_drewN ?_ _) | (with_reducible refine below_via ?_ (by with_reducible assumption) ?_) | omega | (simp; done) | (simp; omega)))⟩
  rw [h1] at c1
  have C1 := Lib.hid c1
  cases h2 : rightL x
  · have hc : codeL l x = 2 := by unfold codeL; rw [h1, h2]; rfl
    have hq : putLC l x = 2 := by unfold putLC; rw [hc]; rfl
    have HQ := Lib.hid hq
    have HP := Lib.hid (show putLL l x = [] from if_neg (by rw [hq]; decide))
    rw [h2] at c2
    have C2 := Lib.hid c2
    clear c1 c2 c3 hc hq h1 h2
    go_enter Try.func118, Try.ntmps118
    go_wp2_with (first | (go_at_call 113; (with_reducible refine (C1.out _ (HR.out.keep (by (repeat' (first | (with_reducible exact Below.refl _ _) | (with_reducible assumption) | (with_reducible refine Below.alloc ?_ ?_ _) | (with_reducible refine Below.setCell ?_ ?_ _) | (with_reducible refine Below.drew ?_) | (with_reducible refine below_drewN ?_ _) | (with_reducible refine below_via ?_ (by with_reducible assumption) ?_) | omega | (simp; done) | (simp; omega)))))).mono ?_); rintro e w1 ⟨rfl, hb1⟩; obtain ⟨fc1, fg1, hc1, hf1, hz1⟩ := bget hb1; (try simp at hz1)) | (go_at_call 147; (with_reducible refine (C2.out _).mono ?_); rintro e w2 ⟨rfl, hb2⟩; obtain ⟨fc2, fg2, hc2, hf2, hz2⟩ := bget hb2; (try simp at hz2)) | fail)
    go_ret2
    exact ⟨_, by rw [HQ.out]; rfl, by rw [HP.out]; exact Own.nil _ _ _ _, by (repeat' (first | (with_reducible exact Below.refl _ _) | (with_reducible assumption) | (with_reducible refine Below.alloc ?_ ?_ _) | (with_reducible refine Below.setCell ?_ ?_ _) | (with_reducible refine Below.drew ?_) | (with_reducible refine below_drewN ?_ _) | (with_reducible refine below_via ?_ (by with_reducible assumption) ?_) | omega | (simp; done) | (simp; omega)))⟩
  rw [h2] at c2
  have C2 := Lib.hid c2
  obtain ⟨hq0, hp0⟩ := put_ref h1 h2 hx
  have hh := getL_in hin x.asset x.tag
  have cs := fun W h => ref18set l (withQ x (getL l x.asset x.tag + x.qty)) A c W hl h
  clear c1 c2 h1 h2
  generalize getL l x.asset x.tag = had at *
  have C3 := Lib.hid c3
  clear c3
  cases h64 : in64 (had + x.qty)
  · rw [h64, if_pos rfl] at hq0
    have HQ := Lib.hid hq0
    have HP := Lib.hid (show putLL l x = [] from if_neg (by rw [hq0]; decide))
    clear hq0 hp0 cs
    have HF := Lib.hid h64
    clear h64
    go_enter Try.func118, Try.ntmps118
    go_wp2_with (first | (go_at_call 113; (with_reducible refine (C1.out _ (HR.out.keep (by (repeat' (first | (with_reducible exact Below.refl _ _) | (with_reducible assumption) | (with_reducible refine Below.alloc ?_ ?_ _) | (with_reducible refine Below.setCell ?_ ?_ _) | (with_reducible refine Below.drew ?_) | (with_reducible refine below_drewN ?_ _) | (with_reducible refine below_via ?_ (by with_reducible assumption) ?_) | omega | (simp; done) | (simp; omega)))))).mono ?_); rintro e w1 ⟨rfl, hb1⟩; obtain ⟨fc1, fg1, hc1, hf1, hz1⟩ := bget hb1; (try simp at hz1)) | (go_at_call 147; (with_reducible refine (C2.out _).mono ?_); rintro e w2 ⟨rfl, hb2⟩; obtain ⟨fc2, fg2, hc2, hf2, hz2⟩ := bget hb2; (try simp at hz2)) | (go_at_call 152; (with_reducible refine (C3.out _ (HR.out.keep (by (repeat' (first | (with_reducible exact Below.refl _ _) | (with_reducible assumption) | (with_reducible refine Below.alloc ?_ ?_ _) | (with_reducible refine Below.setCell ?_ ?_ _) | (with_reducible refine Below.drew ?_) | (with_reducible refine below_drewN ?_ _) | (with_reducible refine below_via ?_ (by with_reducible assumption) ?_) | omega | (simp; done) | (simp; omega)))))).mono ?_); rintro e w3 ⟨rfl, hb3⟩; obtain ⟨fc3, fg3, hc3, hf3, hz3⟩ := bget hb3; (try simp at hz3)) | fail)
    go_region_held3 (fun w' => w'.cell? ⟨w.heap.size, 2, none⟩ = some (.int .i64 x.qty)) (first | (simp [go_sem]; done) | (repeat' (first | (with_reducible assumption) | (with_reducible refine And.intro ?_ ?_) | (with_reducible refine cell_drew ?_) | (with_reducible refine cell_via (by with_reducible assumption) ?_ ?_) | (simp [*]; done) | (simp [go_sem]; done) | (with_reducible refine cell_alloc ?_ ?_) | (with_reducible refine cell_set_far ?_ ?_) | omega | (simp; omega)))) (first | (go_at_call 25; (with_reducible refine (bigOf had _ hh).mono ?_); rintro e w4 ⟨s4, A4, l4, c4, rfl, hB4, hl4, hb4⟩; have HB4 := Lib.hid hB4; clear hB4; obtain ⟨fc4, fg4, hc4, hf4, hz4⟩ := bget hb4; (try simp at hz4)) | (go_at_call 25; (with_reducible refine (bigOf x.qty _ hx).mono ?_); rintro e w5 ⟨s5, A5, l5, c5, rfl, hB5, hl5, hb5⟩; have HB5 := Lib.hid hB5; clear hB5; obtain ⟨fc5, fg5, hc5, hf5, hz5⟩ := bget hb5; (try simp at hz5)) | (go_at_call 24; (with_reducible refine (bigAdd had x.qty s4 s5 l4 l5 A4 A5 c4 c5 65 _ (by omega) hl4 hl5 (HB4.out.keep (by (repeat' (first | (with_reducible exact Below.refl _ _) | (with_reducible assumption) | (with_reducible refine Below.alloc ?_ ?_ _) | (with_reducible refine Below.setCell ?_ ?_ _) | (with_reducible refine Below.drew ?_) | (with_reducible refine below_drewN ?_ _) | (with_reducible refine below_via ?_ (by with_reducible assumption) ?_) | omega | (simp; done) | (simp; omega))))) (HB5.out.keep (by (repeat' (first | (with_reducible exact Below.refl _ _) | (with_reducible assumption) | (with_reducible refine Below.alloc ?_ ?_ _) | (with_reducible refine Below.setCell ?_ ?_ _) | (with_reducible refine Below.drew ?_) | (with_reducible refine below_drewN ?_ _) | (with_reducible refine below_via ?_ (by with_reducible assumption) ?_) | omega | (simp; done) | (simp; omega)))))).mono ?_); rintro e w6 ⟨s6, A6, l6, c6, rfl, hB6, hl6, hb6⟩; have HB6 := Lib.hid hB6; clear hB6; obtain ⟨fc6, fg6, hc6, hf6, hz6⟩ := bget hb6; (try simp at hz6)) | fail)
    all_goals
      go_wp2_with (first | (go_at_call 26; (with_reducible refine (bigFits (had + x.qty) s6 l6 A6 c6 66 _ (by omega) hl6 (by (repeat' (first | (focus ((refine (HB6.out).keep ?_); (repeat' (first | (with_reducible exact Below.refl _ _) | (with_reducible assumption) | (with_reducible refine Below.alloc ?_ ?_ _) | (with_reducible refine Below.setCell ?_ ?_ _) | (with_reducible refine Below.drew ?_) | (with_reducible refine below_drewN ?_ _) | (with_reducible refine below_via ?_ (by with_reducible assumption) ?_) | omega | (simp; done) | (simp; omega))); done)) | (refine IsBig.far (v0 := .slice none 0 0) ?_ ?_ ?_ _; rotate_left; (focus (simp [go_sem, *]; done)); (focus (simp; done))) | (refine IsBig.far (v0 := .bool false) ?_ ?_ ?_ _; rotate_left; (focus (first | (simp [go_sem, *]; done) | (simp [go_sem, *, ↓IntWalk.iteOmega]; done))); (focus (simp; done))) | fail)))).mono ?_); rw [HF.out]; rintro e w7 ⟨rfl, hb7⟩; obtain ⟨fc7, fg7, hc7, hf7, hz7⟩ := bget hb7; (try simp at hz7)) | fail)
      go_ret2
      exact ⟨_, by rw [HQ.out]; rfl, by rw [HP.out]; exact Own.nil _ _ _ _, by (repeat' (first | (with_reducible exact Below.refl _ _) | (with_reducible assumption) | (with_reducible refine Below.alloc ?_ ?_ _) | (with_reducible refine Below.setCell ?_ ?_ _) | (with_reducible refine Below.drew ?_) | (with_reducible refine below_drewN ?_ _) | (with_reducible refine below_via ?_ (by with_reducible assumption) ?_) | omega | (simp; done) | (simp; omega)))⟩
  rw [h64, if_neg (by simp)] at hq0
  have HF := Lib.hid h64
  have h64' := in64_iff.1 h64
  clear h64
  by_cases hf : had = 0 ∧ l.length = 16
  · rw [if_pos hf] at hq0
    have bz : (had == 0) = true := by simpa using hf.1
    have bl : ((l.length : Int) == 16) = true := by rw [hf.2]; rfl
    have HQ := Lib.hid hq0
    have HP := Lib.hid (show putLL l x = [] from if_neg (by rw [hq0]; decide))
    clear hq0 hp0 cs hf
    go_enter Try.func118, Try.ntmps118
    go_wp2_with (first | (go_at_call 113; (with_reducible refine (C1.out _ (HR.out.keep (by (repeat' (first | (with_reducible exact Below.refl _ _) | (with_reducible assumption) | (with_reducible refine Below.alloc ?_ ?_ _) | (with_reducible refine Below.setCell ?_ ?_ _) | (with_reducible refine Below.drew ?_) | (with_reducible refine below_drewN ?_ _) | (with_reducible refine below_via ?_ (by with_reducible assumption) ?_) | omega | (simp; done) | (simp; omega)))))).mono ?_); rintro e w1 ⟨rfl, hb1⟩; obtain ⟨fc1, fg1, hc1, hf1, hz1⟩ := bget hb1; (try simp at hz1)) | (go_at_call 147; (with_reducible refine (C2.out _).mono ?_); rintro e w2 ⟨rfl, hb2⟩; obtain ⟨fc2, fg2, hc2, hf2, hz2⟩ := bget hb2; (try simp at hz2)) | (go_at_call 152; (with_reducible refine (C3.out _ (HR.out.keep (by (repeat' (first | (with_reducible exact Below.refl _ _) | (with_reducible assumption) | (with_reducible refine Below.alloc ?_ ?_ _) | (with_reducible refine Below.setCell ?_ ?_ _) | (with_reducible refine Below.drew ?_) | (with_reducible refine below_drewN ?_ _) | (with_reducible refine below_via ?_ (by with_reducible assumption) ?_) | omega | (simp; done) | (simp; omega)))))).mono ?_); rintro e w3 ⟨rfl, hb3⟩; obtain ⟨fc3, fg3, hc3, hf3, hz3⟩ := bget hb3; (try simp at hz3)) | fail)
    go_region_held3 (fun w' => w'.cell? ⟨w.heap.size, 2, none⟩ = some (.int .i64 x.qty)) (first | (simp [go_sem]; done) | (repeat' (first | (with_reducible assumption) | (with_reducible refine And.intro ?_ ?_) | (with_reducible refine cell_drew ?_) | (with_reducible refine cell_via (by with_reducible assumption) ?_ ?_) | (simp [*]; done) | (simp [go_sem]; done) | (with_reducible refine cell_alloc ?_ ?_) | (with_reducible refine cell_set_far ?_ ?_) | omega | (simp; omega)))) (first | (go_at_call 25; (with_reducible refine (bigOf had _ hh).mono ?_); rintro e w4 ⟨s4, A4, l4, c4, rfl, hB4, hl4, hb4⟩; have HB4 := Lib.hid hB4; clear hB4; obtain ⟨fc4, fg4, hc4, hf4, hz4⟩ := bget hb4; (try simp at hz4)) | (go_at_call 25; (with_reducible refine (bigOf x.qty _ hx).mono ?_); rintro e w5 ⟨s5, A5, l5, c5, rfl, hB5, hl5, hb5⟩; have HB5 := Lib.hid hB5; clear hB5; obtain ⟨fc5, fg5, hc5, hf5, hz5⟩ := bget hb5; (try simp at hz5)) | (go_at_call 24; (with_reducible refine (bigAdd had x.qty s4 s5 l4 l5 A4 A5 c4 c5 65 _ (by omega) hl4 hl5 (HB4.out.keep (by (repeat' (first | (with_reducible exact Below.refl _ _) | (with_reducible assumption) | (with_reducible refine Below.alloc ?_ ?_ _) | (with_reducible refine Below.setCell ?_ ?_ _) | (with_reducible refine Below.drew ?_) | (with_reducible refine below_drewN ?_ _) | (with_reducible refine below_via ?_ (by with_reducible assumption) ?_) | omega | (simp; done) | (simp; omega))))) (HB5.out.keep (by (repeat' (first | (with_reducible exact Below.refl _ _) | (with_reducible assumption) | (with_reducible refine Below.alloc ?_ ?_ _) | (with_reducible refine Below.setCell ?_ ?_ _) | (with_reducible refine Below.drew ?_) | (with_reducible refine below_drewN ?_ _) | (with_reducible refine below_via ?_ (by with_reducible assumption) ?_) | omega | (simp; done) | (simp; omega)))))).mono ?_); rintro e w6 ⟨s6, A6, l6, c6, rfl, hB6, hl6, hb6⟩; have HB6 := Lib.hid hB6; clear hB6; obtain ⟨fc6, fg6, hc6, hf6, hz6⟩ := bget hb6; (try simp at hz6)) | fail)
    all_goals
      go_wp2_with (first | (go_at_call 26; (with_reducible refine (bigFits (had + x.qty) s6 l6 A6 c6 66 _ (by omega) hl6 (by (repeat' (first | (focus ((refine (HB6.out).keep ?_); (repeat' (first | (with_reducible exact Below.refl _ _) | (with_reducible assumption) | (with_reducible refine Below.alloc ?_ ?_ _) | (with_reducible refine Below.setCell ?_ ?_ _) | (with_reducible refine Below.drew ?_) | (with_reducible refine below_drewN ?_ _) | (with_reducible refine below_via ?_ (by with_reducible assumption) ?_) | omega | (simp; done) | (simp; omega))); done)) | (refine IsBig.far (v0 := .slice none 0 0) ?_ ?_ ?_ _; rotate_left; (focus (simp [go_sem, *]; done)); (focus (simp; done))) | (refine IsBig.far (v0 := .bool false) ?_ ?_ ?_ _; rotate_left; (focus (first | (simp [go_sem, *]; done) | (simp [go_sem, *, ↓IntWalk.iteOmega]; done))); (focus (simp; done))) | fail)))).mono ?_); rw [HF.out]; rintro e w7 ⟨rfl, hb7⟩; obtain ⟨fc7, fg7, hc7, hf7, hz7⟩ := bget hb7; (try simp at hz7)) | fail)
      go_ret2
      exact ⟨_, by rw [HQ.out]; rfl, by rw [HP.out]; exact Own.nil _ _ _ _, by (repeat' (first | (with_reducible exact Below.refl _ _) | (with_reducible assumption) | (with_reducible refine Below.alloc ?_ ?_ _) | (with_reducible refine Below.setCell ?_ ?_ _) | (with_reducible refine Below.drew ?_) | (with_reducible refine below_drewN ?_ _) | (with_reducible refine below_via ?_ (by with_reducible assumption) ?_) | omega | (simp; done) | (simp; omega)))⟩
  · rw [if_neg hf] at hq0
    have HQ := Lib.hid hq0
    have hp := hp0 hq0
    generalize hset : setG (withQ x (had + x.qty)) (had + x.qty == 0) l = L at *
    have HP := Lib.hid hp
    have CS := Lib.hid (fun W h => show Calls Try.prog 153 #[.slice A l.length c, .agg #[.int .i64 x.asset, .int .i64 x.tag, .int .i64 (had + x.qty)]] W fun e w' => ∃ v, e = .returned v ∧ Own w' W.heap.size 62 3 v (L.map encLot) ∧ Below W.heap.size W w' from by rw [← hset]; exact cs W h)
    clear hq0 hp0 cs hset hp
    have hor : (had == 0) = false ∨ ((had == 0) = true ∧ ((l.length : Int) == 16) = false) := by
      by_cases h : had = 0
      · exact .inr ⟨by simpa using h, by rw [beq_eq_false_iff_ne]; omega⟩
      · exact .inl (by simpa using h)
    clear hf
    rcases hor with bz | ⟨bz, bl⟩
    all_goals
      go_enter Try.func118, Try.ntmps118
      go_wp2_with (first | (go_at_call 113; (with_reducible refine (C1.out _ (HR.out.keep (by (repeat' (first | (with_reducible exact Below.refl _ _) | (with_reducible assumption) | (with_reducible refine Below.alloc ?_ ?_ _) | (with_reducible refine Below.setCell ?_ ?_ _) | (with_reducible refine Below.drew ?_) | (with_reducible refine below_drewN ?_ _) | (with_reducible refine below_via ?_ (by with_reducible assumption) ?_) | omega | (simp; done) | (simp; omega)))))).mono ?_); rintro e w1 ⟨rfl, hb1⟩; obtain ⟨fc1, fg1, hc1, hf1, hz1⟩ := bget hb1; (try simp at hz1)) | (go_at_call 147; (with_reducible refine (C2.out _).mono ?_); rintro e w2 ⟨rfl, hb2⟩; obtain ⟨fc2, fg2, hc2, hf2, hz2⟩ := bget hb2; (try simp at hz2)) | (go_at_call 152; (with_reducible refine (C3.out _ (HR.out.keep (by (repeat' (first | (with_reducible exact Below.refl _ _) | (with_reducible assumption) | (with_reducible refine Below.alloc ?_ ?_ _) | (with_reducible refine Below.setCell ?_ ?_ _) | (with_reducible refine Below.drew ?_) | (with_reducible refine below_drewN ?_ _) | (with_reducible refine below_via ?_ (by with_reducible assumption) ?_) | omega | (simp; done) | (simp; omega)))))).mono ?_); rintro e w3 ⟨rfl, hb3⟩; obtain ⟨fc3, fg3, hc3, hf3, hz3⟩ := bget hb3; (try simp at hz3)) | fail)
      go_region_held3 (fun w' => w'.cell? ⟨w.heap.size, 2, none⟩ = some (.int .i64 x.qty)) (first | (simp [go_sem]; done) | (repeat' (first | (with_reducible assumption) | (with_reducible refine And.intro ?_ ?_) | (with_reducible refine cell_drew ?_) | (with_reducible refine cell_via (by with_reducible assumption) ?_ ?_) | (simp [*]; done) | (simp [go_sem]; done) | (with_reducible refine cell_alloc ?_ ?_) | (with_reducible refine cell_set_far ?_ ?_) | omega | (simp; omega)))) (first | (go_at_call 25; (with_reducible refine (bigOf had _ hh).mono ?_); rintro e w4 ⟨s4, A4, l4, c4, rfl, hB4, hl4, hb4⟩; have HB4 := Lib.hid hB4; clear hB4; obtain ⟨fc4, fg4, hc4, hf4, hz4⟩ := bget hb4; (try simp at hz4)) | (go_at_call 25; (with_reducible refine (bigOf x.qty _ hx).mono ?_); rintro e w5 ⟨s5, A5, l5, c5, rfl, hB5, hl5, hb5⟩; have HB5 := Lib.hid hB5; clear hB5; obtain ⟨fc5, fg5, hc5, hf5, hz5⟩ := bget hb5; (try simp at hz5)) | (go_at_call 24; (with_reducible refine (bigAdd had x.qty s4 s5 l4 l5 A4 A5 c4 c5 65 _ (by omega) hl4 hl5 (HB4.out.keep (by (repeat' (first | (with_reducible exact Below.refl _ _) | (with_reducible assumption) | (with_reducible refine Below.alloc ?_ ?_ _) | (with_reducible refine Below.setCell ?_ ?_ _) | (with_reducible refine Below.drew ?_) | (with_reducible refine below_drewN ?_ _) | (with_reducible refine below_via ?_ (by with_reducible assumption) ?_) | omega | (simp; done) | (simp; omega))))) (HB5.out.keep (by (repeat' (first | (with_reducible exact Below.refl _ _) | (with_reducible assumption) | (with_reducible refine Below.alloc ?_ ?_ _) | (with_reducible refine Below.setCell ?_ ?_ _) | (with_reducible refine Below.drew ?_) | (with_reducible refine below_drewN ?_ _) | (with_reducible refine below_via ?_ (by with_reducible assumption) ?_) | omega | (simp; done) | (simp; omega)))))).mono ?_); rintro e w6 ⟨s6, A6, l6, c6, rfl, hB6, hl6, hb6⟩; have HB6 := Lib.hid hB6; clear hB6; obtain ⟨fc6, fg6, hc6, hf6, hz6⟩ := bget hb6; (try simp at hz6)) | fail)
      all_goals
        go_wp2_with (first | (go_at_call 26; (with_reducible refine (bigFits (had + x.qty) s6 l6 A6 c6 66 _ (by omega) hl6 (by (repeat' (first | (focus ((refine (HB6.out).keep ?_); (repeat' (first | (with_reducible exact Below.refl _ _) | (with_reducible assumption) | (with_reducible refine Below.alloc ?_ ?_ _) | (with_reducible refine Below.setCell ?_ ?_ _) | (with_reducible refine Below.drew ?_) | (with_reducible refine below_drewN ?_ _) | (with_reducible refine below_via ?_ (by with_reducible assumption) ?_) | omega | (simp; done) | (simp; omega))); done)) | (refine IsBig.far (v0 := .slice none 0 0) ?_ ?_ ?_ _; rotate_left; (focus (simp [go_sem, *]; done)); (focus (simp; done))) | (refine IsBig.far (v0 := .bool false) ?_ ?_ ?_ _; rotate_left; (focus (first | (simp [go_sem, *]; done) | (simp [go_sem, *, ↓IntWalk.iteOmega]; done))); (focus (simp; done))) | fail)))).mono ?_); rw [HF.out]; rintro e w7 ⟨rfl, hb7⟩; obtain ⟨fc7, fg7, hc7, hf7, hz7⟩ := bget hb7; (try simp at hz7)) | (go_at_call 27; (with_reducible refine (bigInt (had + x.qty) s6 l6 A6 c6 _ (by omega) h64' (by refine IsBig.keep ?_ hb7; (repeat' (first | (focus ((refine (HB6.out).keep ?_); (repeat' (first | (with_reducible exact Below.refl _ _) | (with_reducible assumption) | (with_reducible refine Below.alloc ?_ ?_ _) | (with_reducible refine Below.setCell ?_ ?_ _) | (with_reducible refine Below.drew ?_) | (with_reducible refine below_drewN ?_ _) | (with_reducible refine below_via ?_ (by with_reducible assumption) ?_) | omega | (simp; done) | (simp; omega))); done)) | (refine IsBig.far (v0 := .slice none 0 0) ?_ ?_ ?_ _; rotate_left; (focus (simp [go_sem, *]; done)); (focus (simp; done))) | (refine IsBig.far (v0 := .bool false) ?_ ?_ ?_ _; rotate_left; (focus (first | (simp [go_sem, *]; done) | (simp [go_sem, *, ↓IntWalk.iteOmega]; done))); (focus (simp; done))) | fail)))).mono ?_); rintro e w8 ⟨rfl, hb8⟩; obtain ⟨fc8, fg8, hc8, hf8, hz8⟩ := bget hb8; (try simp at hz8)) | (go_at_call 153; (with_reducible refine (CS.out _ (HR.out.keep (by (repeat' (first | (with_reducible exact Below.refl _ _) | (with_reducible assumption) | (with_reducible refine Below.alloc ?_ ?_ _) | (with_reducible refine Below.setCell ?_ ?_ _) | (with_reducible refine Below.drew ?_) | (with_reducible refine below_drewN ?_ _) | (with_reducible refine below_via ?_ (by with_reducible assumption) ?_) | omega | (simp; done) | (simp; omega)))))).mono ?_); rintro e w9 ⟨v9, rfl, hown9, hb9⟩; obtain ⟨fc9, fg9, hc9, hf9, hz9⟩ := bget hb9; (try simp at hz9)) | fail)
        go_ret2
        exact ⟨_, by rw [HQ.out]; rfl, by rw [HP.out]; exact hown9.mono (by first | omega | (simp; omega)), by (repeat' (first | (with_reducible exact Below.refl _ _) | (with_reducible assumption) | (with_reducible refine Below.alloc ?_ ?_ _) | (with_reducible refine Below.setCell ?_ ?_ _) | (with_reducible refine Below.drew ?_) | (with_reducible refine below_drewN ?_ _) | (with_reducible refine below_via ?_ (by with_reducible assumption) ?_) | omega | (simp; done) | (simp; omega)))⟩
set_option maxRecDepth 100000 in
set_option maxHeartbeats 16000000 in
theorem ref18Take (l : List Lot) (x : Lot) (A : Option Addr) (c : Nat) (w : World) (hl : l.length ≤ 400000) (hin : ∀ y ∈ l, In64 y.qty) (hx : In64 x.qty) (hr : Rd w A 3 (l.map encLot)) :
    Calls Try.prog 120 #[.slice A l.length c, .agg #[.int .i64 x.asset, .int .i64 x.tag, .int .i64 x.qty]] w (LotsPost w (takLL l x) (takLC l x)) := by
  have HR := Lib.hid hr
  have c1 := fun W h => ref18Is l A c W (by omega) h
  have c2 := fun W => ref18one x W
  have c3 := fun W h => ref18Get l x.asset x.tag A c W (by omega) h
  clear hr
  cases h1 : isL l
  · have hc : codeL l x = 3 := by unfold codeL; rw [h1]; rfl
    have hq : takLC l x = 3 := by unfold takLC; rw [hc]; rfl
    have HQ := Lib.hid hq
    have HP := Lib.hid (show takLL l x = [] from if_neg (by rw [hq]; decide))
    rw [h1] at c1
    have C1 := Lib.hid c1
    clear c1 c2 c3 hc hq h1
    go_enter Try.func120, Try.ntmps120
    go_wp2_with (first | (go_at_call 113; (with_reducible refine (C1.out _ (HR.out.keep (by (repeat' (first | (with_reducible exact Below.refl _ _) | (with_reducible assumption) | (with_reducible refine Below.alloc ?_ ?_ _) | (with_reducible refine Below.setCell ?_ ?_ _) | (with_reducible refine Below.drew ?_) | (with_reducible refine below_drewN ?_ _) | (with_reducible refine below_via ?_ (by with_reducible assumption) ?_) | omega | (simp; done) | (simp; omega)))))).mono ?_); rintro e w1 ⟨rfl, hb1⟩; obtain ⟨fc1, fg1, hc1, hf1, hz1⟩ := bget hb1; (try simp at hz1)) | fail)
    go_ret2
    exact ⟨_, by rw [HQ.out]; rfl, by rw [HP.out]; exact Own.nil _ _ _ _, by (repeat' (first | (with_reducible exact Below.refl _ _) | (with_reducible assumption) | (with_reducible refine Below.alloc ?_ ?_ _) | (with_reducible refine Below.setCell ?_ ?_ _) | (with_reducible refine Below.drew ?_) | (with_reducible refine below_drewN ?_ _) | (with_reducible refine below_via ?_ (by with_reducible assumption) ?_) | omega | (simp; done) | (simp; omega)))⟩
  rw [h1] at c1
  have C1 := Lib.hid c1
  cases h2 : rightL x
  · have hc : codeL l x = 2 := by unfold codeL; rw [h1, h2]; rfl
    have hq : takLC l x = 2 := by unfold takLC; rw [hc]; rfl
    have HQ := Lib.hid hq
    have HP := Lib.hid (show takLL l x = [] from if_neg (by rw [hq]; decide))
    rw [h2] at c2
    have C2 := Lib.hid c2
    clear c1 c2 c3 hc hq h1 h2
    go_enter Try.func120, Try.ntmps120
    go_wp2_with (first | (go_at_call 113; (with_reducible refine (C1.out _ (HR.out.keep (by (repeat' (first | (with_reducible exact Below.refl _ _) | (with_reducible assumption) | (with_reducible refine Below.alloc ?_ ?_ _) | (with_reducible refine Below.setCell ?_ ?_ _) | (with_reducible refine Below.drew ?_) | (with_reducible refine below_drewN ?_ _) | (with_reducible refine below_via ?_ (by with_reducible assumption) ?_) | omega | (simp; done) | (simp; omega)))))).mono ?_); rintro e w1 ⟨rfl, hb1⟩; obtain ⟨fc1, fg1, hc1, hf1, hz1⟩ := bget hb1; (try simp at hz1)) | (go_at_call 147; (with_reducible refine (C2.out _).mono ?_); rintro e w2 ⟨rfl, hb2⟩; obtain ⟨fc2, fg2, hc2, hf2, hz2⟩ := bget hb2; (try simp at hz2)) | fail)
    go_ret2
    exact ⟨_, by rw [HQ.out]; rfl, by rw [HP.out]; exact Own.nil _ _ _ _, by (repeat' (first | (with_reducible exact Below.refl _ _) | (with_reducible assumption) | (with_reducible refine Below.alloc ?_ ?_ _) | (with_reducible refine Below.setCell ?_ ?_ _) | (with_reducible refine Below.drew ?_) | (with_reducible refine below_drewN ?_ _) | (with_reducible refine below_via ?_ (by with_reducible assumption) ?_) | omega | (simp; done) | (simp; omega)))⟩
  rw [h2] at c2
  have C2 := Lib.hid c2
  obtain ⟨hq0, hp0⟩ := take_ref h1 h2
  have hxp := (rightL_iff.1 h2).2.2.2.2
  have hh := getL_in hin x.asset x.tag
  have cs := fun W h => ref18set l (withQ x (getL l x.asset x.tag - x.qty)) A c W hl h
  clear c1 c2 h1 h2
  generalize getL l x.asset x.tag = had at *
  have C3 := Lib.hid c3
  clear c3
  unfold In64 at hh hx
  by_cases hlo : had < x.qty
  · rw [if_pos hlo] at hq0
    have d1 := decide_eq_true hlo
    have HQ := Lib.hid hq0
    have HP := Lib.hid (show takLL l x = [] from if_neg (by rw [hq0]; decide))
    clear hq0 hp0 cs
    go_enter Try.func120, Try.ntmps120
    go_wp2_with (first | (go_at_call 113; (with_reducible refine (C1.out _ (HR.out.keep (by (repeat' (first | (with_reducible exact Below.refl _ _) | (with_reducible assumption) | (with_reducible refine Below.alloc ?_ ?_ _) | (with_reducible refine Below.setCell ?_ ?_ _) | (with_reducible refine Below.drew ?_) | (with_reducible refine below_drewN ?_ _) | (with_reducible refine below_via ?_ (by with_reducible assumption) ?_) | omega | (simp; done) | (simp; omega)))))).mono ?_); rintro e w1 ⟨rfl, hb1⟩; obtain ⟨fc1, fg1, hc1, hf1, hz1⟩ := bget hb1; (try simp at hz1)) | (go_at_call 147; (with_reducible refine (C2.out _).mono ?_); rintro e w2 ⟨rfl, hb2⟩; obtain ⟨fc2, fg2, hc2, hf2, hz2⟩ := bget hb2; (try simp at hz2)) | (go_at_call 152; (with_reducible refine (C3.out _ (HR.out.keep (by (repeat' (first | (with_reducible exact Below.refl _ _) | (with_reducible assumption) | (with_reducible refine Below.alloc ?_ ?_ _) | (with_reducible refine Below.setCell ?_ ?_ _) | (with_reducible refine Below.drew ?_) | (with_reducible refine below_drewN ?_ _) | (with_reducible refine below_via ?_ (by with_reducible assumption) ?_) | omega | (simp; done) | (simp; omega)))))).mono ?_); rintro e w3 ⟨rfl, hb3⟩; obtain ⟨fc3, fg3, hc3, hf3, hz3⟩ := bget hb3; (try simp at hz3)) | fail)
    go_ret2
    exact ⟨_, by rw [HQ.out]; rfl, by rw [HP.out]; exact Own.nil _ _ _ _, by (repeat' (first | (with_reducible exact Below.refl _ _) | (with_reducible assumption) | (with_reducible refine Below.alloc ?_ ?_ _) | (with_reducible refine Below.setCell ?_ ?_ _) | (with_reducible refine Below.drew ?_) | (with_reducible refine below_drewN ?_ _) | (with_reducible refine below_via ?_ (by with_reducible assumption) ?_) | omega | (simp; done) | (simp; omega)))⟩
  · rw [if_neg hlo] at hq0
    have d1 := decide_eq_false hlo
    have HQ := Lib.hid hq0
    have hp := hp0 hq0
    generalize hset : setG (withQ x (had - x.qty)) (had - x.qty == 0) l = L at *
    have HP := Lib.hid hp
    have CS := Lib.hid (fun W h => show Calls Try.prog 153 #[.slice A l.length c, .agg #[.int .i64 x.asset, .int .i64 x.tag, .int .i64 (had - x.qty)]] W fun e w' => ∃ v, e = .returned v ∧ Own w' W.heap.size 62 3 v (L.map encLot) ∧ Below W.heap.size W w' from by rw [← hset]; exact cs W h)
    clear hq0 hp0 cs hset hp
    go_enter Try.func120, Try.ntmps120
    go_wp2_with (first | (go_at_call 113; (with_reducible refine (C1.out _ (HR.out.keep (by (repeat' (first | (with_reducible exact Below.refl _ _) | (with_reducible assumption) | (with_reducible refine Below.alloc ?_ ?_ _) | (with_reducible refine Below.setCell ?_ ?_ _) | (with_reducible refine Below.drew ?_) | (with_reducible refine below_drewN ?_ _) | (with_reducible refine below_via ?_ (by with_reducible assumption) ?_) | omega | (simp; done) | (simp; omega)))))).mono ?_); rintro e w1 ⟨rfl, hb1⟩; obtain ⟨fc1, fg1, hc1, hf1, hz1⟩ := bget hb1; (try simp at hz1)) | (go_at_call 147; (with_reducible refine (C2.out _).mono ?_); rintro e w2 ⟨rfl, hb2⟩; obtain ⟨fc2, fg2, hc2, hf2, hz2⟩ := bget hb2; (try simp at hz2)) | (go_at_call 152; (with_reducible refine (C3.out _ (HR.out.keep (by (repeat' (first | (with_reducible exact Below.refl _ _) | (with_reducible assumption) | (with_reducible refine Below.alloc ?_ ?_ _) | (with_reducible refine Below.setCell ?_ ?_ _) | (with_reducible refine Below.drew ?_) | (with_reducible refine below_drewN ?_ _) | (with_reducible refine below_via ?_ (by with_reducible assumption) ?_) | omega | (simp; done) | (simp; omega)))))).mono ?_); rintro e w3 ⟨rfl, hb3⟩; obtain ⟨fc3, fg3, hc3, hf3, hz3⟩ := bget hb3; (try simp at hz3)) | (go_at_call 153; (with_reducible refine (CS.out _ (HR.out.keep (by (repeat' (first | (with_reducible exact Below.refl _ _) | (with_reducible assumption) | (with_reducible refine Below.alloc ?_ ?_ _) | (with_reducible refine Below.setCell ?_ ?_ _) | (with_reducible refine Below.drew ?_) | (with_reducible refine below_drewN ?_ _) | (with_reducible refine below_via ?_ (by with_reducible assumption) ?_) | omega | (simp; done) | (simp; omega)))))).mono ?_); rintro e w9 ⟨v9, rfl, hown9, hb9⟩; obtain ⟨fc9, fg9, hc9, hf9, hz9⟩ := bget hb9; (try simp at hz9)) | fail)
    go_ret2
    exact ⟨_, by rw [HQ.out]; rfl, by rw [HP.out]; exact hown9.mono (by first | omega | (simp; omega)), by (repeat' (first | (with_reducible exact Below.refl _ _) | (with_reducible assumption) | (with_reducible refine Below.alloc ?_ ?_ _) | (with_reducible refine Below.setCell ?_ ?_ _) | (with_reducible refine Below.drew ?_) | (with_reducible refine below_drewN ?_ _) | (with_reducible refine below_via ?_ (by with_reducible assumption) ?_) | omega | (simp; done) | (simp; omega)))⟩
end Go.Proofs.Ytiidplinmempcaa

/- Layer 18's laws: Few, lives. -/
namespace Go.Proofs.Ytiidplinmempcaa
open Go.RowKit
set_option maxRecDepth 100000 in
set_option maxHeartbeats 8000000 in
theorem law18Few (l : List Lot) (A : Option Addr) (c : Nat) (w : World) (hr : Rs w 3 (l.map encLot) A c) :
    Calls Try.prog 56 #[.slice A l.length c] w fun e w' => e = .returned (.slice A (l.take 20).length c) ∧ Below w.heap.size w w' := by
  have hlc : l.length ≤ c := by have := hr.cap; rw [List.length_map] at this; exact this
  have hcm := hr.room
  unfold maxLen at hcm
  by_cases h : 20 < l.length
  · have HN := Lib.hid (show (l.take 20).length = 20 from by rw [List.length_take]; omega)
    have d1 : decide (20 < (l.length : Int)) = true := by simp; omega
    obtain ⟨b, o, rfl, hq⟩ := hr.rd 0 (encLot (l[0]'(by omega))) (by rw [List.getElem?_map, List.getElem?_eq_getElem (by omega)]; rfl)
    rw [HN.out]
    clear hq hr
    go_enter Try.func56, Try.ntmps56
    go_wp2_with fail
    all_goals
      go_ret
      exact ⟨rfl, by (repeat' (first | (with_reducible exact Below.refl _ _) | (with_reducible assumption) | (with_reducible refine Below.alloc ?_ ?_ _) | (with_reducible refine Below.setCell ?_ ?_ _) | (with_reducible refine Below.drew ?_) | (with_reducible refine below_drewN ?_ _) | (with_reducible refine below_via ?_ (by with_reducible assumption) ?_) | omega | (simp; done) | (simp; omega)))⟩
  · rw [List.take_of_length_le (by omega)]
    have d1 : decide (20 < (l.length : Int)) = false := by simp; omega
    clear hr
    go_enter Try.func56, Try.ntmps56
    go_wp2_with fail
    go_ret
    exact ⟨rfl, by (repeat' (first | (with_reducible exact Below.refl _ _) | (with_reducible assumption) | (with_reducible refine Below.alloc ?_ ?_ _) | (with_reducible refine Below.setCell ?_ ?_ _) | (with_reducible refine Below.drew ?_) | (with_reducible refine below_drewN ?_ _) | (with_reducible refine below_via ?_ (by with_reducible assumption) ?_) | omega | (simp; done) | (simp; omega)))⟩
theorem rd_twoL {w : World} {b : Nat} {x y : Lot} (hb : b < w.heap.size) (h0 : w.cell? ⟨b, 0, none⟩ = some (.int .i64 x.asset)) (h1 : w.cell? ⟨b, 1, none⟩ = some (.int .i64 x.tag)) (h2 : w.cell? ⟨b, 2, none⟩ = some (.int .i64 x.qty)) (h3 : w.cell? ⟨b, 3, none⟩ = some (.int .i64 y.asset)) (h4 : w.cell? ⟨b, 4, none⟩ = some (.int .i64 y.tag)) (h5 : w.cell? ⟨b, 5, none⟩ = some (.int .i64 y.qty)) : Rd w (some ⟨b, 0, none⟩) 3 ([x, y].map encLot) := by
  intro i r hr
  match i, hr with
  | 0, hr =>
    simp [encLot] at hr; subst hr
    refine ⟨b, 0, rfl, hb, fun j z hz => ?_⟩
    match j with
    | 0 => simp at hz; subst hz; simpa using h0
    | 1 => simp at hz; subst hz; simpa using h1
    | 2 => simp at hz; subst hz; simpa using h2
    | j + 3 => simp at hz
  | 1, hr =>
    simp [encLot] at hr; subst hr
    refine ⟨b, 0, rfl, hb, fun j z hz => ?_⟩
    match j with
    | 0 => simp at hz; subst hz; simpa using h3
    | 1 => simp at hz; subst hz; simpa using h4
    | 2 => simp at hz; subst hz; simpa using h5
    | j + 3 => simp at hz
theorem same2 (A B : Option Addr) (c d : Nat) (w : World) (ha : Rd w A 3 ([(⟨1, 0, 5⟩ : Lot), ⟨1, 3, 2⟩].map encLot)) (hb : Rd w B 3 ([(⟨1, 0, 5⟩ : Lot), ⟨1, 3, 2⟩].map encLot)) :
    Calls Try.prog 60 #[.slice A 2 c, .slice B 2 d] w fun e w' => e = .returned (.bool true) ∧ Below w.heap.size w w' := ref18Same [⟨1, 0, 5⟩, ⟨1, 3, 2⟩] A B c d w (by simp) ha hb
theorem same1 (A B : Option Addr) (c d : Nat) (w : World) (ha : Rd w A 3 ([(⟨1, 3, 2⟩ : Lot)].map encLot)) (hb : Rd w B 3 ([(⟨1, 3, 2⟩ : Lot)].map encLot)) :
    Calls Try.prog 60 #[.slice A 1 c, .slice B 1 d] w fun e w' => e = .returned (.bool true) ∧ Below w.heap.size w w' := ref18Same [⟨1, 3, 2⟩] A B c d w (by simp) ha hb
end Go.Proofs.Ytiidplinmempcaa

/- Holds: contracts of hold.Lots, the reference's hold.Lots, Same; the law's Few. -/
namespace Go.Proofs.Ytiidplinmempcaa
open Go.RowKit
theorem few_inHoldV (l : List Lot) (m : Nat) (hm : (l.take 20).length = m) (A : Option Addr) (c : Nat) (w : World) (hr : Rs w 3 (l.map encLot) A c) :
    Calls Try.prog 56 #[.slice A l.length c] w fun e w' => e = .returned (.slice A m c) ∧ Below w.heap.size w w' := hm ▸ law18Few l A c w hr
set_option maxRecDepth 100000 in
set_option maxHeartbeats 8000000 in
theorem holdOf (l : List HoldV) (u : Un) (A : Option Addr) (c : Nat) (w : World) (hl : l.length ≤ 1000000) (hr : Rd w A 3 (l.map encHoldV)) (hg : ∀ x ∈ l, GoodHoldV w x) :
    Calls Try.prog 61 #[.slice A l.length c, .agg #[.int .i64 u.acc, .int .i64 u.cli]] w fun e w' => ∃ v, e = .returned v ∧ Own w' w.heap.size 62 3 v ((ofK (l.map lgHoldV) u).map encLot) ∧ Below w.heap.size w w' := by
  have HR := Lib.hid hr
  have HG := Lib.hid hg
  clear hr hg
  go_enter Try.func61, Try.ntmps61
  go_wp2_with fail
  go_loopw [9] (fun i wr => ∃ k : Nat, k ≤ l.length ∧ i = .int .i64 k ∧ ofK (l.map lgHoldV) u = ofK ((l.drop k).map lgHoldV) u ∧ Below w.heap.size w wr ∧ w.heap.size < wr.heap.size ∧ wr.cell? ⟨w.heap.size, 0, none⟩ = some (.int .i64 u.acc) ∧ wr.cell? ⟨w.heap.size, 1, none⟩ = some (.int .i64 u.cli)) (fun i _ => l.length - (intOf i).toNat)
  case atStart => exact ⟨0, Nat.zero_le _, rfl, rfl, by (repeat' (first | (with_reducible exact Below.refl _ _) | (with_reducible assumption) | (with_reducible refine Below.alloc ?_ ?_ _) | (with_reducible refine Below.setCell ?_ ?_ _) | (with_reducible refine Below.drew ?_) | (with_reducible refine below_drewN ?_ _) | (with_reducible refine below_via ?_ (by with_reducible assumption) ?_) | omega | (simp; done) | (simp; omega))), by simp, by simp [go_sem], by simp [go_sem]⟩
  case round =>
    obtain ⟨k, hk, rfl, hv, hbl, hsz, g0, g1⟩ := hrel
    have HV := Lib.hid hv
    have Hbl := Lib.hid hbl
    have hz := hbl.size
    clear hv hbl
    by_cases hlt : k < l.length
    · have kl : (k : Int) < (l.length : Int) := by omega
      have dl : decide ((k : Int) < (l.length : Int)) = true := by simpa using hlt
      have hgk := HG.out l[k] (List.getElem_mem hlt)
      have hli := hgk.1
      have HGK := Lib.hid (hgk.2.keep Hbl.out)
      have hd := lg_atHoldV hlt
      clear hgk
      obtain ⟨b, o, rfl, hb, hc⟩ := HR.out k (encHoldV l[k]) (by simp [hlt])
      have e0 := (Hbl.out.cell (p := ⟨b, o + k * 3 + 0, none⟩) hb).trans (hc 0 _ rfl)
      have e1 := (Hbl.out.cell (p := ⟨b, o + k * 3 + 1, none⟩) hb).trans (hc 1 _ rfl)
      have e2 := (Hbl.out.cell (p := ⟨b, o + k * 3 + 2, none⟩) hb).trans (hc 2 _ rfl)
      simp only [Nat.add_zero] at e0
      clear hc
      have hbw : b < wr.heap.size := by omega
      rcases un_tHoldV (x := l[k].unit) (u := u) with h | h
      · have HN := Lib.hid (show ofK (l.map lgHoldV) u = l[k].lots.val from by rw [HV.out, hd]; unfold ofK; rw [if_pos (show (lgHoldV l[k]).unit = u from h)]; rfl)
        rw [h] at e0 e1
        clear hd h
        go_wp2_with (first | (go_at_call 114; (with_reducible refine (lotClone l[k].lots.val l[k].lots.A l[k].lots.c _ (by omega) (HGK.out.keep (by (repeat' (first | (with_reducible exact Below.refl _ _) | (with_reducible assumption) | (with_reducible refine Below.alloc ?_ ?_ _) | (with_reducible refine Below.setCell ?_ ?_ _) | (with_reducible refine Below.drew ?_) | (with_reducible refine below_drewN ?_ _) | (with_reducible refine below_via ?_ (by with_reducible assumption) ?_) | omega | (simp; done) | (simp; omega)))))).mono ?_); rintro e w3 ⟨v3, rfl, hown3, hb3⟩; obtain ⟨fc3, fg3, hc3, hf3, hz3⟩ := bget hb3; (try simp at hz3)) | fail)
        go_ret
        exact ⟨_, rfl, by rw [HN.out]; exact hown3.mono (by first | omega | (simp; done) | (simp; omega)), by have hbl := Hbl.out; (repeat' (first | (with_reducible exact Below.refl _ _) | (with_reducible assumption) | (with_reducible refine Below.alloc ?_ ?_ _) | (with_reducible refine Below.setCell ?_ ?_ _) | (with_reducible refine Below.drew ?_) | (with_reducible refine below_drewN ?_ _) | (with_reducible refine below_via ?_ (by with_reducible assumption) ?_) | omega | (simp; done) | (simp; omega)))⟩
      · have HN := Lib.hid (show ofK (l.map lgHoldV) u = ofK ((l.drop (k + 1)).map lgHoldV) u from by rw [HV.out, hd, ofK, if_neg (show ¬ (lgHoldV l[k]).unit = u from un_dHoldV h)])
        clear hd
        rcases h with h | h
        all_goals
          go_wp2_with fail
          go_roundw
          case rel => exact ⟨k + 1, by omega, by go_num, HN.out, by have hbl := Hbl.out; (repeat' (first | (with_reducible exact Below.refl _ _) | (with_reducible assumption) | (with_reducible refine Below.alloc ?_ ?_ _) | (with_reducible refine Below.setCell ?_ ?_ _) | (with_reducible refine Below.drew ?_) | (with_reducible refine below_drewN ?_ _) | (with_reducible refine below_via ?_ (by with_reducible assumption) ?_) | omega | (simp; done) | (simp; omega))), by simp; omega, by simp [go_sem, g0, hsz], by simp [go_sem, g1, hsz]⟩
          case measure => simp [intOf]; omega
    · have dl : decide ((k : Int) < (l.length : Int)) = false := by simpa using hlt
      have HD := Lib.hid (drop_all (l := l) (k := k) (by omega))
      go_wp2_with fail
      go_ret
      exact ⟨_, rfl, by rw [HV.out, HD.out]; exact Own.nil _ _ _ _, by have hbl := Hbl.out; (repeat' (first | (with_reducible exact Below.refl _ _) | (with_reducible assumption) | (with_reducible refine Below.alloc ?_ ?_ _) | (with_reducible refine Below.setCell ?_ ?_ _) | (with_reducible refine Below.drew ?_) | (with_reducible refine below_drewN ?_ _) | (with_reducible refine below_via ?_ (by with_reducible assumption) ?_) | omega | (simp; done) | (simp; omega)))⟩
set_option maxRecDepth 100000 in
set_option maxHeartbeats 8000000 in
theorem refHoldVOf (l : List HoldV) (u : Un) (A : Option Addr) (c : Nat) (w : World) (hl : l.length ≤ 1000000) (hr : Rd w A 3 (l.map encHoldV)) (hg : ∀ x ∈ l, GoodHoldV w x) :
    Calls Try.prog 62 #[.slice A l.length c, .agg #[.int .i64 u.acc, .int .i64 u.cli]] w fun e w' => ∃ A2 c2, e = .returned (.slice A2 (ofK (l.map lgHoldV) u).length c2) ∧ Rs w' 3 ((ofK (l.map lgHoldV) u).map encLot) A2 c2 ∧ Below w.heap.size w w' := by
  have HR := Lib.hid hr
  have HG := Lib.hid hg
  clear hr hg
  obtain ⟨R, hR⟩ : ∃ R, R = ofK (l.map lgHoldV) u := ⟨_, rfl⟩
  rw [← hR]
  have HRR := Lib.hid hR
  clear hR
  go_enter Try.func62, Try.ntmps62
  go_wp2_with fail
  go_loopw [5] (fun i wr => ∃ k : Nat, k ≤ l.length ∧ i = .int .i64 k ∧ R = ofK ((l.drop k).map lgHoldV) u ∧ Below w.heap.size w wr ∧ w.heap.size < wr.heap.size ∧ wr.cell? ⟨w.heap.size, 0, none⟩ = some (.int .i64 u.acc) ∧ wr.cell? ⟨w.heap.size, 1, none⟩ = some (.int .i64 u.cli)) (fun i _ => l.length - (intOf i).toNat)
  case atStart => exact ⟨0, Nat.zero_le _, rfl, HRR.out, by (repeat' (first | (with_reducible exact Below.refl _ _) | (with_reducible assumption) | (with_reducible refine Below.alloc ?_ ?_ _) | (with_reducible refine Below.setCell ?_ ?_ _) | (with_reducible refine Below.drew ?_) | (with_reducible refine below_drewN ?_ _) | (with_reducible refine below_via ?_ (by with_reducible assumption) ?_) | omega | (simp; done) | (simp; omega))), by simp, by simp [go_sem], by simp [go_sem]⟩
  case round =>
    obtain ⟨k, hk, rfl, hv, hbl, hsz, g0, g1⟩ := hrel
    have HV := Lib.hid hv
    have Hbl := Lib.hid hbl
    have hz := hbl.size
    clear hv hbl
    by_cases hlt : k < l.length
    · have kl : (k : Int) < (l.length : Int) := by omega
      have dl : decide ((k : Int) < (l.length : Int)) = true := by simpa using hlt
      have hgk := HG.out l[k] (List.getElem_mem hlt)
      have HGK := Lib.hid (hgk.2.keep Hbl.out)
      have hd := lg_atHoldV hlt
      clear hgk
      obtain ⟨b, o, rfl, hb, hc⟩ := HR.out k (encHoldV l[k]) (by simp [hlt])
      have e0 := (Hbl.out.cell (p := ⟨b, o + k * 3 + 0, none⟩) hb).trans (hc 0 _ rfl)
      have e1 := (Hbl.out.cell (p := ⟨b, o + k * 3 + 1, none⟩) hb).trans (hc 1 _ rfl)
      have e2 := (Hbl.out.cell (p := ⟨b, o + k * 3 + 2, none⟩) hb).trans (hc 2 _ rfl)
      simp only [Nat.add_zero] at e0
      clear hc
      have hbw : b < wr.heap.size := by omega
      rcases un_tHoldV (x := l[k].unit) (u := u) with h | h
      · have HN := Lib.hid (show R = l[k].lots.val from by rw [HV.out, hd]; unfold ofK; rw [if_pos (show (lgHoldV l[k]).unit = u from h)]; rfl)
        rw [h] at e0 e1
        clear hd h
        go_wp2_with fail
        go_quiet (fail)
        go_wp2_with fail
        go_ret
        exact ⟨l[k].lots.A, l[k].lots.c, by rw [HN.out]; rfl, by rw [HN.out]; exact HGK.out.keep (by (repeat' (first | (with_reducible exact Below.refl _ _) | (with_reducible assumption) | (with_reducible refine Below.alloc ?_ ?_ _) | (with_reducible refine Below.setCell ?_ ?_ _) | (with_reducible refine Below.drew ?_) | (with_reducible refine below_drewN ?_ _) | (with_reducible refine below_via ?_ (by with_reducible assumption) ?_) | omega | (simp; done) | (simp; omega)))), by have hbl := Hbl.out; (repeat' (first | (with_reducible exact Below.refl _ _) | (with_reducible assumption) | (with_reducible refine Below.alloc ?_ ?_ _) | (with_reducible refine Below.setCell ?_ ?_ _) | (with_reducible refine Below.drew ?_) | (with_reducible refine below_drewN ?_ _) | (with_reducible refine below_via ?_ (by with_reducible assumption) ?_) | omega | (simp; done) | (simp; omega)))⟩
      · have HN := Lib.hid (show R = ofK ((l.drop (k + 1)).map lgHoldV) u from by rw [HV.out, hd, ofK, if_neg (show ¬ (lgHoldV l[k]).unit = u from un_dHoldV h)])
        clear hd
        rcases h with h | h
        all_goals
          go_wp2_with fail
          go_quiet (fail)
          go_wp2_with fail
          go_roundw
          case rel => exact ⟨k + 1, by omega, by go_num, HN.out, by have hbl := Hbl.out; (repeat' (first | (with_reducible exact Below.refl _ _) | (with_reducible assumption) | (with_reducible refine Below.alloc ?_ ?_ _) | (with_reducible refine Below.setCell ?_ ?_ _) | (with_reducible refine Below.drew ?_) | (with_reducible refine below_drewN ?_ _) | (with_reducible refine below_via ?_ (by with_reducible assumption) ?_) | omega | (simp; done) | (simp; omega))), by simp; omega, by simp [go_sem, g0], by simp [go_sem, g1]⟩
          case measure => simp [intOf]; omega
    · have dl : decide ((k : Int) < (l.length : Int)) = false := by simpa using hlt
      have HD := Lib.hid (show R = [] from by rw [HV.out, drop_all (l := l) (k := k) (by omega)]; rfl)
      go_wp2_with fail
      go_ret
      exact ⟨none, 0, by rw [HD.out]; rfl, by rw [HD.out]; exact Rs.empty _ _, by have hbl := Hbl.out; (repeat' (first | (with_reducible exact Below.refl _ _) | (with_reducible assumption) | (with_reducible refine Below.alloc ?_ ?_ _) | (with_reducible refine Below.setCell ?_ ?_ _) | (with_reducible refine Below.drew ?_) | (with_reducible refine below_drewN ?_ _) | (with_reducible refine below_via ?_ (by with_reducible assumption) ?_) | omega | (simp; done) | (simp; omega)))⟩
theorem lg_eqHoldV {x y : HoldV} (h : lgHoldV x = lgHoldV y) : x.unit.acc = y.unit.acc ∧ x.unit.cli = y.unit.cli ∧ x.lots.val = y.lots.val := by
  simp only [lgHoldV, Row.mk.injEq] at h
  exact ⟨by rw [h.1], by rw [h.1], h.2⟩
set_option maxRecDepth 100000 in
set_option maxHeartbeats 8000000 in
theorem refHoldVSame (l m : List HoldV) (A B : Option Addr) (c d : Nat) (w : World) (hlm : l.map lgHoldV = m.map lgHoldV) (hl : l.length ≤ 1000000) (ha : Rd w A 3 (l.map encHoldV)) (hb : Rd w B 3 (m.map encHoldV)) (hgl : ∀ x ∈ l, GoodHoldV w x) (hgm : ∀ x ∈ m, GoodHoldV w x) :
    Calls Try.prog 33 #[.slice A l.length c, .slice B m.length d] w fun e w' => e = .returned (.bool true) ∧ Below w.heap.size w w' := by
  have HA := Lib.hid ha
  have HB := Lib.hid hb
  have HGL := Lib.hid hgl
  have HGM := Lib.hid hgm
  have hml : m.length = l.length := by have := congrArg List.length hlm; simpa using this.symm
  have HE := Lib.hid (fun k (h1 : k < l.length) (h2 : k < m.length) => show lgHoldV l[k] = lgHoldV m[k] from by
    have h3 := congrArg (fun z => z[k]?) hlm
    simpa [List.getElem?_map, h1, h2] using h3)
  have HML := Lib.hid hml
  rw [hml]
  clear ha hb hgl hgm hlm hml
  go_enter Try.func33, Try.ntmps33
  go_wp2_with fail
  go_loopw [5] (fun i wr => ∃ k : Nat, k ≤ l.length ∧ i = .int .i64 k ∧ Below w.heap.size w wr) (fun i _ => l.length - (intOf i).toNat)
  case atStart => exact ⟨0, Nat.zero_le _, rfl, Below.refl _ _⟩
  case round =>
    obtain ⟨k, hk, rfl, hbl⟩ := hrel
    have Hbl := Lib.hid hbl
    have hz := hbl.size
    clear hbl
    by_cases hlt : k < l.length
    · have kl : (k : Int) < (l.length : Int) := by omega
      have dl : decide ((k : Int) < (l.length : Int)) = true := by simpa using hlt
      have hkm : k < m.length := by rw [HML.out]; exact hlt
      have hx := HGL.out l[k] (List.getElem_mem hlt)
      have hy := HGM.out m[k] (List.getElem_mem hkm)
      have he := lg_eqHoldV (HE.out k hlt hkm)
      obtain ⟨b1, o1, rfl, hb1, hc1⟩ := HA.out k (encHoldV l[k]) (by simp [hlt])
      obtain ⟨b2, o2, rfl, hb2, hc2⟩ := HB.out k (encHoldV m[k]) (by simp [hkm])
      unfold GoodHoldV at hy
      unfold encHoldV at hc2
      rw [← he.1, ← he.2.1, ← he.2.2] at hc2
      rw [← he.2.2] at hy
      generalize m[k].lots.A = B' at hc2 hy
      generalize m[k].lots.c = d' at hc2 hy
      have e0 := (Hbl.out.cell (p := ⟨b1, o1 + k * 3 + 0, none⟩) hb1).trans (hc1 0 _ rfl)
      have e1 := (Hbl.out.cell (p := ⟨b1, o1 + k * 3 + 1, none⟩) hb1).trans (hc1 1 _ rfl)
      have e2 := (Hbl.out.cell (p := ⟨b1, o1 + k * 3 + 2, none⟩) hb1).trans (hc1 2 _ rfl)
      have f0 := (Hbl.out.cell (p := ⟨b2, o2 + k * 3 + 0, none⟩) hb2).trans (hc2 0 _ rfl)
      have f1 := (Hbl.out.cell (p := ⟨b2, o2 + k * 3 + 1, none⟩) hb2).trans (hc2 1 _ rfl)
      have f2 := (Hbl.out.cell (p := ⟨b2, o2 + k * 3 + 2, none⟩) hb2).trans (hc2 2 _ rfl)
      simp only [Nat.add_zero] at e0 f0
      have HX := Lib.hid (fun W (h : Below w.heap.size w W) => ref18Same l[k].lots.val l[k].lots.A B' l[k].lots.c d' W (by have := hx.1; omega) (hx.2.keep h).rd (hy.2.keep h).rd)
      clear hc1 hc2 he hx hy
      go_wp2_with fail
      go_region_held3 (fun w' => (w'.cell? ⟨b1, o1 + k * 3, none⟩ = some (.int .i64 l[k].unit.acc) ∧ w'.cell? ⟨b1, o1 + k * 3 + 1, none⟩ = some (.int .i64 l[k].unit.cli) ∧ w'.cell? ⟨b1, o1 + k * 3 + 2, none⟩ = some (.slice l[k].lots.A l[k].lots.val.length l[k].lots.c)) ∧ w'.cell? ⟨b2, o2 + k * 3, none⟩ = some (.int .i64 l[k].unit.acc) ∧ w'.cell? ⟨b2, o2 + k * 3 + 1, none⟩ = some (.int .i64 l[k].unit.cli) ∧ w'.cell? ⟨b2, o2 + k * 3 + 2, none⟩ = some (.slice B' l[k].lots.val.length d')) (first | (simp [go_sem]; done) | (repeat' (first | (with_reducible assumption) | (with_reducible refine And.intro ?_ ?_) | (with_reducible refine cell_drew ?_) | (with_reducible refine cell_via (by with_reducible assumption) ?_ ?_) | (simp [*]; done) | (simp [go_sem]; done) | (with_reducible refine cell_alloc ?_ ?_) | (with_reducible refine cell_set_far ?_ ?_) | omega | (simp; omega)))) (first | (go_at_call 60; (with_reducible refine (HX.out _ (by have hbl := Hbl.out; (repeat' (first | (with_reducible exact Below.refl _ _) | (with_reducible assumption) | (with_reducible refine Below.alloc ?_ ?_ _) | (with_reducible refine Below.setCell ?_ ?_ _) | (with_reducible refine Below.drew ?_) | (with_reducible refine below_drewN ?_ _) | (with_reducible refine below_via ?_ (by with_reducible assumption) ?_) | omega | (simp; done) | (simp; omega))))).mono ?_); rintro e w1 ⟨rfl, hb1⟩; obtain ⟨fc1, fg1, hc1, hf1, hz1⟩ := bget hb1; (try simp at hz1)) | fail)
      all_goals
        go_wp2_with fail
        go_roundw
        case rel => exact ⟨k + 1, by omega, by go_num, by have hbl := Hbl.out; (repeat' (first | (with_reducible exact Below.refl _ _) | (with_reducible assumption) | (with_reducible refine Below.alloc ?_ ?_ _) | (with_reducible refine Below.setCell ?_ ?_ _) | (with_reducible refine Below.drew ?_) | (with_reducible refine below_drewN ?_ _) | (with_reducible refine below_via ?_ (by with_reducible assumption) ?_) | omega | (simp; done) | (simp; omega)))⟩
        case measure => simp [intOf]; omega
    · have dl : decide ((k : Int) < (l.length : Int)) = false := by simpa using hlt
      go_wp2_with fail
      go_ret
      exact ⟨rfl, by have hbl := Hbl.out; (repeat' (first | (with_reducible exact Below.refl _ _) | (with_reducible assumption) | (with_reducible refine Below.alloc ?_ ?_ _) | (with_reducible refine Below.setCell ?_ ?_ _) | (with_reducible refine Below.drew ?_) | (with_reducible refine below_drewN ?_ _) | (with_reducible refine below_via ?_ (by with_reducible assumption) ?_) | omega | (simp; done) | (simp; omega)))⟩
theorem row3HoldV (a b : Int) (A : Option Addr) (n m : Nat) : ∀ r ∈ [[Value.int .i64 a, .int .i64 b, .slice A n m]], r.length = 3 ∧ ∀ u ∈ r, u.oneCell' = true := by
  intro r hr
  simp only [List.mem_singleton] at hr
  subst hr
  refine ⟨rfl, ?_⟩
  simp only [List.mem_cons, List.not_mem_nil, or_false, forall_eq_or_imp, forall_eq]
  exact ⟨rfl, rfl, rfl⟩
/-- A row with at most so many of its list. -/
def fewHoldV (x : HoldV) : HoldV := { x with lots := ⟨x.lots.A, x.lots.c, x.lots.val.take 20⟩ }
theorem fewHoldV_good {w : World} {x : HoldV} (h : Rs w 3 (x.lots.val.map encLot) x.lots.A x.lots.c) : GoodHoldV w (fewHoldV x) ∧ (fewHoldV x).lots.val.length ≤ 20 := by
  have h1 : (fewHoldV x).lots.val.length ≤ 20 := by simp [fewHoldV]; omega
  refine ⟨⟨by omega, ?_⟩, h1⟩
  have := h.take 20
  rw [← List.map_take] at this
  exact this
set_option maxRecDepth 100000 in
set_option maxHeartbeats 8000000 in
theorem law26Few (l : List HoldV) (A : Option Addr) (c : Nat) (w : World) (hl : l.length ≤ maxLen) (hr : Rd w A 3 (l.map encHoldV)) (hg : ∀ x ∈ l, Rs w 3 (x.lots.val.map encLot) x.lots.A x.lots.c) :
    Calls Try.prog 28 #[.slice A l.length c] w fun e w' => ∃ v, e = .returned v ∧ Own w' w.heap.size 137 3 v (((l.take 10).map fewHoldV).map encHoldV) ∧ Below w.heap.size w w' := by
  have HR := Lib.hid hr
  have HG := Lib.hid hg
  have hml : (l.length : Int) ≤ 9223372036854775807 := by unfold maxLen at hl; omega
  clear hr hg hl
  go_enter Try.func28, Try.ntmps28
  go_wp2_with fail
  go_loopw [3, 4] (fun v i wr => ∃ q : Nat, q ≤ l.length ∧ q ≤ 10 ∧ i = .int .i64 q ∧ Own wr w.heap.size 137 3 v (((l.take q).map fewHoldV).map encHoldV) ∧ Below w.heap.size w wr) (fun _ i _ => l.length - (intOf i).toNat)
  case atStart => exact ⟨0, Nat.zero_le _, Nat.zero_le _, rfl, Own.nil _ _ _ _, by (repeat' (first | (with_reducible exact Below.refl _ _) | (with_reducible assumption) | (with_reducible refine Below.alloc ?_ ?_ _) | (with_reducible refine Below.setCell ?_ ?_ _) | (with_reducible refine Below.drew ?_) | (with_reducible refine below_drewN ?_ _) | (with_reducible refine below_via ?_ (by with_reducible assumption) ?_) | omega | (simp; done) | (simp; omega)))⟩
  case round =>
    obtain ⟨k, hq, hq10, rfl, hown, hbl⟩ := hrel
    have Hown := Lib.hid hown
    have Hbl := Lib.hid hbl
    have hz := hbl.size
    clear hown hbl
    by_cases hgo : k < l.length ∧ k < 10
    · obtain ⟨hlt, h10⟩ := hgo
      have hqi : (k : Int) < (l.length : Int) := by omega
      have dl : decide ((k : Int) < (l.length : Int)) = true := by simpa using hlt
      have d10 : decide ((k : Int) < 10) = true := by simp; omega
      have hlen : ((l.take k).map fewHoldV).length ≤ 10 := by simp; omega
      have hx := HG.out l[k] (List.getElem_mem hlt)
      obtain ⟨b, o, rfl, hb, hc⟩ := HR.out k (encHoldV l[k]) (by simp [hlt])
      have e0 := (Hbl.out.cell (p := ⟨b, o + k * 3 + 0, none⟩) hb).trans (hc 0 _ rfl)
      have e1 := (Hbl.out.cell (p := ⟨b, o + k * 3 + 1, none⟩) hb).trans (hc 1 _ rfl)
      have e2 := (Hbl.out.cell (p := ⟨b, o + k * 3 + 2, none⟩) hb).trans (hc 2 _ rfl)
      simp only [Nat.add_zero] at e0
      clear hc
      have hbw : b < wr.heap.size := by omega
      obtain ⟨m, hm⟩ : ∃ m, (l[k].lots.val.take 20).length = m := ⟨_, rfl⟩
      have CF := Lib.hid (fun W (h : Below w.heap.size w W) => few_inHoldV l[k].lots.val m hm l[k].lots.A l[k].lots.c W (hx.keep h))
      have HS : Hid (((l.take (k + 1)).map fewHoldV).map encHoldV = ((l.take k).map fewHoldV).map encHoldV ++ [[.int .i64 l[k].unit.acc, .int .i64 l[k].unit.cli, .slice l[k].lots.A m l[k].lots.c]]) := by
        unfold Hid
        rw [map_snoc hlt fewHoldV, List.map_append]
        congr 1
        simp only [List.map_cons, List.map_nil, encHoldV, fewHoldV, hm]
      clear hx hm
      go_wp2_with fail
      go_region_held3 (fun w' => (w'.cell? ⟨b, o + k * 3, none⟩ = some (.int .i64 l[k].unit.acc) ∧ w'.cell? ⟨b, o + k * 3 + 1, none⟩ = some (.int .i64 l[k].unit.cli) ∧ w'.cell? ⟨b, o + k * 3 + 2, none⟩ = some (.slice l[k].lots.A l[k].lots.val.length l[k].lots.c))) (first | (simp [go_sem]; done) | (repeat' (first | (with_reducible assumption) | (with_reducible refine And.intro ?_ ?_) | (with_reducible refine cell_drew ?_) | (with_reducible refine cell_via (by with_reducible assumption) ?_ ?_) | (simp [*]; done) | (simp [go_sem]; done) | (with_reducible refine cell_alloc ?_ ?_) | (with_reducible refine cell_set_far ?_ ?_) | omega | (simp; omega)))) (first | (go_at_call 56; (with_reducible refine (CF.out _ (by have hbl := Hbl.out; (repeat' (first | (with_reducible exact Below.refl _ _) | (with_reducible assumption) | (with_reducible refine Below.alloc ?_ ?_ _) | (with_reducible refine Below.setCell ?_ ?_ _) | (with_reducible refine Below.drew ?_) | (with_reducible refine below_drewN ?_ _) | (with_reducible refine below_via ?_ (by with_reducible assumption) ?_) | omega | (simp; done) | (simp; omega))))).mono ?_); rintro e w1 ⟨rfl, hb1⟩; obtain ⟨fc1, fg1, hc1, hf1, hz1⟩ := bget hb1; (try simp at hz1)) | (refine step_app rfl _ _ _ rfl elHoldV w.heap.size _ _ rfl (Hown.out.keep (by (repeat' (first | (with_reducible exact Below.refl _ _) | (with_reducible assumption) | (with_reducible refine Below.alloc ?_ ?_ _) | (with_reducible refine Below.setCell ?_ ?_ _) | (with_reducible refine Below.drew ?_) | (with_reducible refine below_drewN ?_ _) | (with_reducible refine below_via ?_ (by with_reducible assumption) ?_) | omega | (simp; done) | (simp; omega))))) (some ⟨_, 0, none⟩) 1 1 rfl [[.int .i64 l[k].unit.acc, .int .i64 l[k].unit.cli, .slice l[k].lots.A m l[k].lots.c]] rfl (fun h => by cases h) (rd_oneN (by simp)) (row3HoldV _ _ _ _ _) (by unfold maxLen; simp; omega) (by simp; omega) (by first | omega | (simp; done) | (simp; omega)) ?_; intro v4 w4 hown4 hb4; have HO4 := Lib.hid hown4; clear hown4; obtain ⟨fc4, fg4, hc4, hf4, hz4⟩ := bget hb4; (try simp at hz4)) | fail)
      all_goals
        go_wp2_with fail
        go_roundw
        case rel => exact ⟨k + 1, by omega, by omega, by go_num, by rw [HS.out]; exact HO4.out, by have hbl := Hbl.out; (repeat' (first | (with_reducible exact Below.refl _ _) | (with_reducible assumption) | (with_reducible refine Below.alloc ?_ ?_ _) | (with_reducible refine Below.setCell ?_ ?_ _) | (with_reducible refine Below.drew ?_) | (with_reducible refine below_drewN ?_ _) | (with_reducible refine below_via ?_ (by with_reducible assumption) ?_) | omega | (simp; done) | (simp; omega)))⟩
        case measure => simp [intOf]; omega
    · have HT := Lib.hid (show l.take k = l.take 10 from by
        rcases Nat.lt_or_ge k 10 with h | h
        · rw [List.take_of_length_le (by omega), List.take_of_length_le (by omega)]
        · rw [show k = 10 by omega])
      by_cases hlt : k < l.length
      · have dl : decide ((k : Int) < (l.length : Int)) = true := by simpa using hlt
        have d10 : decide ((k : Int) < 10) = false := by simp; omega
        go_wp2_with fail
        go_ret
        exact ⟨_, rfl, by rw [← HT.out]; exact Hown.out, Hbl.out⟩
      · have dl : decide ((k : Int) < (l.length : Int)) = false := by simpa using hlt
        go_wp2_with fail
        go_ret
        exact ⟨_, rfl, by rw [← HT.out]; exact Hown.out, Hbl.out⟩
end Go.Proofs.Ytiidplinmempcaa
