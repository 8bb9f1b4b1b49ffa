/- Joined: BkL, Frame, Open, LegOpen, UnOpen, PosOpen. -/
import Derived.Test.YtiidplinmempcaaJz15
import Derived.Test.YtiidplinmempcaaJz1
import Derived.Test.YtiidplinmempcaaJz4
import Derived.Test.YtiidplinmempcaaJz2
import Derived.Test.YtiidplinmempcaaJz6
import Derived.Test.YtiidplinmempcaaChecked
import Derived.ProofKit
import Derived.Lib.SmallJoins
import Derived.Deep.Slices
import Derived.Test.YtiidplinmempcaaRows
/- Layer 19's laws: lives, BookShifts. -/
namespace Go.Proofs.Ytiidplinmempcaa
open Go.RowKit
theorem rs_leg1 {W : World} (g : Nat) (x : Leg) (hg : g < W.heap.size) (c0 : W.cell? ⟨g, 0, none⟩ = some (.int .i64 x.inst)) (c1 : W.cell? ⟨g, 1, none⟩ = some (.int .i64 x.qty)) : Rs W 2 ([x].map encLeg) (some ⟨g, 0, none⟩) 1 := by
  obtain ⟨A, c, h1, h2⟩ := isl_one g x hg c0 c1
  injection h1 with e1 e2 e3
  subst e1
  obtain rfl : 1 = c := e3
  exact h2
def liveB : List (Row Leg) := [⟨⟨1, 0⟩, [⟨1, -5⟩]⟩, ⟨⟨2, 0⟩, [⟨1, 5⟩]⟩]
theorem live_book : mvC [] ⟨1, 0⟩ ⟨2, 0⟩ [⟨1, 5⟩] = 0 ∧ mvL [] ⟨1, 0⟩ ⟨2, 0⟩ [⟨1, 5⟩] = liveB ∧ ofK liveB ⟨1, 0⟩ = [⟨1, -5⟩] ∧ bal liveB = true := by
  refine ⟨by decide, by kernel_rfl, by decide, by decide⟩
set_option maxRecDepth 100000 in
set_option maxHeartbeats 16000000 in
theorem law19lives (w : World) : Calls Try.prog 46 #[] w fun e w' => e = .returned (.bool true) ∧ Below w.heap.size w w' := by
  have cm := fun W g (h : Rs W 2 ([(⟨1, 5⟩ : Leg)].map encLeg) (some ⟨g, 0, none⟩) 1) => bookMove [] ⟨1, 0⟩ ⟨2, 0⟩ [⟨1, 5⟩] none (some ⟨g, 0, none⟩) 0 1 W (by simp) (by simp) (by intro r hr; cases hr) (by intro y hy; simp at hy; subst hy; simp [In64]) (Rs.empty _ _).rd (by simp) h
  simp only [List.length_nil, List.length_cons, Nat.zero_add, List.map_nil] at cm
  rw [live_book.1, live_book.2.1] at cm
  have hs := fun (W : World) (A B : Option Addr) (c d : Nat) (h : Rd W A 2 ([(⟨1, -5⟩ : Leg)].map encLeg)) (h' : Rd W B 2 ([(⟨1, -5⟩ : Leg)].map encLeg)) => ref11Same [⟨1, -5⟩] A B c d W (by simp) h h'
  simp only [List.length_cons, List.length_nil, Nat.zero_add] at hs
  have CM := Lib.hid cm
  have HS := Lib.hid hs
  clear cm hs
  go_enter Try.func46, Try.ntmps46
  go_wp2_with (first | (go_at_call 43; (with_reducible refine (CM.out _ _ ?_).mono ?_); (focus (refine rs_leg1 _ ⟨1, 5⟩ ?_ ?_ ?_; (focus (simp; done)); (focus (simp [go_sem]; done)); (focus (simp [go_sem]; done)))); intro e w1 hp; obtain ⟨ys, A1, c1, rfl, hlg, hrs, hgd, hb1⟩ := book_rs hp; have hy2 : ys.length = 2 := (by have h1 := congrArg List.length hlg; rw [List.length_map] at h1; exact h1); have hq2 : ((ys.length : Int) == 2) = true := (by rw [hy2]; rfl); have HLG := Lib.hid hlg; have H1 := Lib.hid hrs.rd; have HG1 := Lib.hid hgd; have HY := Lib.hid hy2; clear hp hlg hrs hgd hy2; obtain ⟨fc1, fg1, hc1, hf1, hz1⟩ := bget hb1; (try simp at hz1)) | (go_at_call 39; (with_reducible refine (bookOf ys ⟨1, 0⟩ A1 c1 _ (by have := HY.out; omega) (H1.out.keep (by (repeat' (first | (with_reducible exact Below.refl _ _) | (with_reducible assumption) | (with_reducible refine Below.alloc ?_ ?_ _) | (with_reducible refine Below.setCell ?_ ?_ _) | (with_reducible refine Below.drew ?_) | (with_reducible refine below_drewN ?_ _) | (with_reducible refine below_via ?_ (by with_reducible assumption) ?_) | omega | (simp; done) | (simp; omega))))) (fun y hy => (HG1.out y hy).keep (by (repeat' (first | (with_reducible exact Below.refl _ _) | (with_reducible assumption) | (with_reducible refine Below.alloc ?_ ?_ _) | (with_reducible refine Below.setCell ?_ ?_ _) | (with_reducible refine Below.drew ?_) | (with_reducible refine below_drewN ?_ _) | (with_reducible refine below_via ?_ (by with_reducible assumption) ?_) | omega | (simp; done) | (simp; omega)))))).mono ?_); rintro e w2 ⟨v2, rfl, hown2, hb2⟩; rw [HLG.out, live_book.2.2.1] at hown2; obtain ⟨A2, c2, rfl, hrs2, _⟩ := hown2.rs; simp only [List.length_map, List.length_cons, List.length_nil, Nat.zero_add]; have H2 := Lib.hid hrs2.rd; clear hown2 hrs2; obtain ⟨fc2, fg2, hc2, hf2, hz2⟩ := bget hb2; (try simp at hz2)) | (go_at_call 38; (with_reducible refine (HS.out _ _ _ _ _ ?_ ?_).mono ?_); (focus (refine H2.out.keep ?_; (repeat' (first | (with_reducible exact Below.refl _ _) | (with_reducible assumption) | (with_reducible refine Below.alloc ?_ ?_ _) | (with_reducible refine Below.setCell ?_ ?_ _) | (with_reducible refine Below.drew ?_) | (with_reducible refine below_drewN ?_ _) | (with_reducible refine below_via ?_ (by with_reducible assumption) ?_) | omega | (simp; done) | (simp; omega))); done)); (focus (refine (rs_leg1 _ ⟨1, -5⟩ ?_ ?_ ?_).rd; (focus (simp; done)); (focus (simp [go_sem]; done)); (focus (simp [go_sem]; done)))); rintro e w3 ⟨rfl, hb3⟩; obtain ⟨fc3, fg3, hc3, hf3, hz3⟩ := bget hb3; (try simp at hz3)) | (go_at_call 48; (with_reducible refine (bookBalanced ys A1 c1 _ (by have := HY.out; omega) ?_ (H1.out.keep (by (repeat' (first | (with_reducible exact Below.refl _ _) | (with_reducible assumption) | (with_reducible refine Below.alloc ?_ ?_ _) | (with_reducible refine Below.setCell ?_ ?_ _) | (with_reducible refine Below.drew ?_) | (with_reducible refine below_drewN ?_ _) | (with_reducible refine below_via ?_ (by with_reducible assumption) ?_) | omega | (simp; done) | (simp; omega))))) (fun y hy => (HG1.out y hy).keep (by (repeat' (first | (with_reducible exact Below.refl _ _) | (with_reducible assumption) | (with_reducible refine Below.alloc ?_ ?_ _) | (with_reducible refine Below.setCell ?_ ?_ _) | (with_reducible refine Below.drew ?_) | (with_reducible refine below_drewN ?_ _) | (with_reducible refine below_via ?_ (by with_reducible assumption) ?_) | omega | (simp; done) | (simp; omega)))))).mono ?_); (focus (rw [HLG.out]; intro r hr; simp only [liveB, List.mem_cons, List.not_mem_nil, or_false] at hr; rcases hr with rfl | rfl <;> (intro y hy; simp at hy; subst hy; simp [In64]))); rw [HLG.out, live_book.2.2.2]; rintro e w4 ⟨rfl, hb4⟩; obtain ⟨fc4, fg4, hc4, hf4, hz4⟩ := bget hb4; (try simp at hz4)) | fail)
  go_ret
  exact ⟨rfl, by (repeat' (first | (with_reducible exact Below.refl _ _) | (with_reducible assumption) | (with_reducible refine Below.alloc ?_ ?_ _) | (with_reducible refine Below.setCell ?_ ?_ _) | (with_reducible refine Below.drew ?_) | (with_reducible refine below_drewN ?_ _) | (with_reducible refine below_via ?_ (by with_reducible assumption) ?_) | omega | (simp; done) | (simp; omega)))⟩
set_option maxRecDepth 100000 in
set_option maxHeartbeats 32000000 in
theorem bookShiftsAt (l0 fl : List PosV) (u v : Un) (g0 g : List Leg) (A B : Option Addr) (c d : Nat) (w : World) (hfl : fl.length ≤ 12) (hgl : g.length ≤ 12) (h64 : L64 (fl.map lgPosV)) (g64 : Legs64 g) (hfg : ∀ x ∈ fl, GoodPosV w x)
    (hrg : ∀ W, Below w.heap.size w W → Rs W 2 (g.map encLeg) B d)
    (c20 : ∀ W, Below w.heap.size w W → Calls Try.prog 35 #[.slice A l0.length c] W fun e w' => ∃ v, e = .returned v ∧ Own w' W.heap.size 140 3 v (fl.map encPosV) ∧ Below W.heap.size W w')
    (c21 : ∀ W, Below w.heap.size w W → Calls Try.prog 13 #[.slice B g0.length d] W fun e w' => e = .returned (.slice B g.length d) ∧ W = w') :
    Calls Try.prog 7 #[.slice A l0.length c, .agg #[.int .i64 u.acc, .int .i64 u.cli], .agg #[.int .i64 v.acc, .int .i64 v.cli], .slice B g0.length d] w fun e w' => e = .returned (.bool true) ∧ Below w.heap.size w w' := by
  have C20 := Lib.hid c20
  have C21 := Lib.hid c21
  have HRG := Lib.hid hrg
  have HFG := Lib.hid hfg
  have H64 := Lib.hid h64
  have G64 := Lib.hid g64
  have hsl := shL_len (fl.map lgPosV) u g
  rw [List.length_map] at hsl
  have hml : (mvL (fl.map lgPosV) u v g).length ≤ 14 := by
    unfold mvL
    split
    · have h1 := shL_len (shL (fl.map lgPosV) u (negL g)) v g
      have h2 := shL_len (fl.map lgPosV) u (negL g)
      rw [List.length_map] at h2
      omega
    · simp
  clear c20 c21 hrg hfg h64 g64
  generalize l0.length = n0 at *
  generalize g0.length = n1 at *
  go_enter Try.func7, Try.ntmps7
  go_wp2_with (first | (go_at_call 35; (with_reducible refine (C20.out _ (by (repeat' (first | (with_reducible exact Below.refl _ _) | (with_reducible assumption) | (with_reducible refine Below.alloc ?_ ?_ _) | (with_reducible refine Below.setCell ?_ ?_ _) | (with_reducible refine Below.drew ?_) | (with_reducible refine below_drewN ?_ _) | (with_reducible refine below_via ?_ (by with_reducible assumption) ?_) | omega | (simp; done) | (simp; omega))))).mono ?_); rintro e w1 ⟨v1, rfl, hown1, hb1⟩; obtain ⟨A1, c1, hv1, hrs1, _⟩ := hown1.rs; (rw [List.length_map] at hv1); subst hv1; have H1 := Lib.hid hrs1.rd; clear hown1 hrs1; obtain ⟨fc1, fg1, hc1, hf1, hz1⟩ := bget hb1; (try simp at hz1)) | (go_at_call 13; (with_reducible refine (C21.out _ (by (repeat' (first | (with_reducible exact Below.refl _ _) | (with_reducible assumption) | (with_reducible refine Below.alloc ?_ ?_ _) | (with_reducible refine Below.setCell ?_ ?_ _) | (with_reducible refine Below.drew ?_) | (with_reducible refine below_drewN ?_ _) | (with_reducible refine below_via ?_ (by with_reducible assumption) ?_) | omega | (simp; done) | (simp; omega))))).mono ?_); rintro e w2 ⟨rfl, rfl⟩) | fail)
  have x0 : w1.cell? ⟨w.heap.size, 0, none⟩ = some (.int .i64 u.acc) := by simp [hc1, go_sem]
  have x1 : w1.cell? ⟨w.heap.size, 1, none⟩ = some (.int .i64 u.cli) := by simp [hc1, go_sem]
  have HII := Lib.hid (show isPosV fl = isPosV fl from rfl)
  obtain ⟨ib, hib⟩ : ∃ ib, isPosV fl = ib := ⟨_, rfl⟩
  have HIB := Lib.hid hib
  clear hib
  go_region_held3 (fun w' => w'.cell? ⟨w.heap.size, 0, none⟩ = some (.int .i64 u.acc) ∧ w'.cell? ⟨w.heap.size, 1, none⟩ = some (.int .i64 u.cli)) (first | (simp [go_sem]; done) | (repeat' (first | (with_reducible assumption) | (with_reducible refine And.intro ?_ ?_) | (with_reducible refine cell_drew ?_) | (with_reducible refine cell_via (by with_reducible assumption) ?_ ?_) | (simp [*]; done) | (simp [go_sem]; done) | (with_reducible refine cell_alloc ?_ ?_) | (with_reducible refine cell_set_far ?_ ?_) | omega | (simp; omega)))) (first | (go_at_call 36; (with_reducible refine (bookIs fl A1 c1 _ (by omega) (H1.out.keep (by (repeat' (first | (with_reducible exact Below.refl _ _) | (with_reducible assumption) | (with_reducible refine Below.alloc ?_ ?_ _) | (with_reducible refine Below.setCell ?_ ?_ _) | (with_reducible refine Below.drew ?_) | (with_reducible refine below_drewN ?_ _) | (with_reducible refine below_via ?_ (by with_reducible assumption) ?_) | omega | (simp; done) | (simp; omega))))) (fun y hy => (HFG.out y hy).keep (by (repeat' (first | (with_reducible exact Below.refl _ _) | (with_reducible assumption) | (with_reducible refine Below.alloc ?_ ?_ _) | (with_reducible refine Below.setCell ?_ ?_ _) | (with_reducible refine Below.drew ?_) | (with_reducible refine below_drewN ?_ _) | (with_reducible refine below_via ?_ (by with_reducible assumption) ?_) | omega | (simp; done) | (simp; omega)))))).mono ?_); rw [HIB.out]; rintro e w3 ⟨rfl, hb3⟩; obtain ⟨fc3, fg3, hc3, hf3, hz3⟩ := bget hb3; (try simp at hz3)) | (go_at_call 37; (with_reducible refine (refPosVIs fl A1 c1 _ (by omega) (H1.out.keep (by (repeat' (first | (with_reducible exact Below.refl _ _) | (with_reducible assumption) | (with_reducible refine Below.alloc ?_ ?_ _) | (with_reducible refine Below.setCell ?_ ?_ _) | (with_reducible refine Below.drew ?_) | (with_reducible refine below_drewN ?_ _) | (with_reducible refine below_via ?_ (by with_reducible assumption) ?_) | omega | (simp; done) | (simp; omega))))) (fun y hy => (HFG.out y hy).keep (by (repeat' (first | (with_reducible exact Below.refl _ _) | (with_reducible assumption) | (with_reducible refine Below.alloc ?_ ?_ _) | (with_reducible refine Below.setCell ?_ ?_ _) | (with_reducible refine Below.drew ?_) | (with_reducible refine below_drewN ?_ _) | (with_reducible refine below_via ?_ (by with_reducible assumption) ?_) | omega | (simp; done) | (simp; omega)))))).mono ?_); rw [HIB.out]; rintro e w4 ⟨rfl, hb4⟩; obtain ⟨fc4, fg4, hc4, hf4, hz4⟩ := bget hb4; (try simp at hz4)) | (go_at_call 39; (with_reducible refine (bookOf fl u A1 c1 _ (by omega) (H1.out.keep (by (repeat' (first | (with_reducible exact Below.refl _ _) | (with_reducible assumption) | (with_reducible refine Below.alloc ?_ ?_ _) | (with_reducible refine Below.setCell ?_ ?_ _) | (with_reducible refine Below.drew ?_) | (with_reducible refine below_drewN ?_ _) | (with_reducible refine below_via ?_ (by with_reducible assumption) ?_) | omega | (simp; done) | (simp; omega))))) (fun y hy => (HFG.out y hy).keep (by (repeat' (first | (with_reducible exact Below.refl _ _) | (with_reducible assumption) | (with_reducible refine Below.alloc ?_ ?_ _) | (with_reducible refine Below.setCell ?_ ?_ _) | (with_reducible refine Below.drew ?_) | (with_reducible refine below_drewN ?_ _) | (with_reducible refine below_via ?_ (by with_reducible assumption) ?_) | omega | (simp; done) | (simp; omega)))))).mono ?_); rintro e w5 ⟨v5, rfl, hown5, hb5⟩; obtain ⟨A5, c5, hv5, hrs5, _⟩ := hown5.rs; (rw [List.length_map] at hv5); subst hv5; have H5 := Lib.hid hrs5.rd; clear hown5 hrs5; obtain ⟨fc5, fg5, hc5, hf5, hz5⟩ := bget hb5; (try simp at hz5)) | (go_at_call 40; (with_reducible refine (refPosVOf fl u A1 c1 _ (by omega) (H1.out.keep (by (repeat' (first | (with_reducible exact Below.refl _ _) | (with_reducible assumption) | (with_reducible refine Below.alloc ?_ ?_ _) | (with_reducible refine Below.setCell ?_ ?_ _) | (with_reducible refine Below.drew ?_) | (with_reducible refine below_drewN ?_ _) | (with_reducible refine below_via ?_ (by with_reducible assumption) ?_) | omega | (simp; done) | (simp; omega))))) (fun y hy => (HFG.out y hy).keep (by (repeat' (first | (with_reducible exact Below.refl _ _) | (with_reducible assumption) | (with_reducible refine Below.alloc ?_ ?_ _) | (with_reducible refine Below.setCell ?_ ?_ _) | (with_reducible refine Below.drew ?_) | (with_reducible refine below_drewN ?_ _) | (with_reducible refine below_via ?_ (by with_reducible assumption) ?_) | omega | (simp; done) | (simp; omega)))))).mono ?_); rintro e w6 ⟨A6, c6, rfl, hrs6, hb6⟩; have H6 := Lib.hid hrs6.rd; clear hrs6; obtain ⟨fc6, fg6, hc6, hf6, hz6⟩ := bget hb6; (try simp at hz6)) | (go_at_call 38; (with_reducible refine (ref11Same (ofK (fl.map lgPosV) u) A5 A6 c5 c6 _ (by have h1 := of_len HFG.out u; omega) (H5.out.keep (by (repeat' (first | (with_reducible exact Below.refl _ _) | (with_reducible assumption) | (with_reducible refine Below.alloc ?_ ?_ _) | (with_reducible refine Below.setCell ?_ ?_ _) | (with_reducible refine Below.drew ?_) | (with_reducible refine below_drewN ?_ _) | (with_reducible refine below_via ?_ (by with_reducible assumption) ?_) | omega | (simp; done) | (simp; omega))))) (H6.out.keep (by (repeat' (first | (with_reducible exact Below.refl _ _) | (with_reducible assumption) | (with_reducible refine Below.alloc ?_ ?_ _) | (with_reducible refine Below.setCell ?_ ?_ _) | (with_reducible refine Below.drew ?_) | (with_reducible refine below_drewN ?_ _) | (with_reducible refine below_via ?_ (by with_reducible assumption) ?_) | omega | (simp; done) | (simp; omega)))))).mono ?_); rintro e w7 ⟨rfl, hb7⟩; obtain ⟨fc7, fg7, hc7, hf7, hz7⟩ := bget hb7; (try simp at hz7)) | fail)
  all_goals
    go_wp2_with (first | (go_at_call 41; (with_reducible refine (bookShift fl u g A1 B c1 d _ (by omega) (by omega) H64.out G64.out (H1.out.keep (by (repeat' (first | (with_reducible exact Below.refl _ _) | (with_reducible assumption) | (with_reducible refine Below.alloc ?_ ?_ _) | (with_reducible refine Below.setCell ?_ ?_ _) | (with_reducible refine Below.drew ?_) | (with_reducible refine below_drewN ?_ _) | (with_reducible refine below_via ?_ (by with_reducible assumption) ?_) | omega | (simp; done) | (simp; omega))))) (fun y hy => (HFG.out y hy).keep (by (repeat' (first | (with_reducible exact Below.refl _ _) | (with_reducible assumption) | (with_reducible refine Below.alloc ?_ ?_ _) | (with_reducible refine Below.setCell ?_ ?_ _) | (with_reducible refine Below.drew ?_) | (with_reducible refine below_drewN ?_ _) | (with_reducible refine below_via ?_ (by with_reducible assumption) ?_) | omega | (simp; done) | (simp; omega))))) (HRG.out _ (by (repeat' (first | (with_reducible exact Below.refl _ _) | (with_reducible assumption) | (with_reducible refine Below.alloc ?_ ?_ _) | (with_reducible refine Below.setCell ?_ ?_ _) | (with_reducible refine Below.drew ?_) | (with_reducible refine below_drewN ?_ _) | (with_reducible refine below_via ?_ (by with_reducible assumption) ?_) | omega | (simp; done) | (simp; omega)))))).mono ?_); intro e w8 hp8; obtain ⟨ys8, A8, c8, rfl, hlg8, hrs8, hgd8, hb8⟩ := book_rs hp8; have LG8 := Lib.hid hlg8; have H8 := Lib.hid hrs8.rd; have G8 := Lib.hid hgd8; clear hp8 hlg8 hrs8 hgd8; obtain ⟨fc8, fg8, hc8, hf8, hz8⟩ := bget hb8; (try simp at hz8)) | (go_at_call 42; (with_reducible refine (ref19Shift fl u g A1 B c1 d _ (by omega) (by omega) H64.out G64.out (H1.out.keep (by (repeat' (first | (with_reducible exact Below.refl _ _) | (with_reducible assumption) | (with_reducible refine Below.alloc ?_ ?_ _) | (with_reducible refine Below.setCell ?_ ?_ _) | (with_reducible refine Below.drew ?_) | (with_reducible refine below_drewN ?_ _) | (with_reducible refine below_via ?_ (by with_reducible assumption) ?_) | omega | (simp; done) | (simp; omega))))) (fun y hy => (HFG.out y hy).keep (by (repeat' (first | (with_reducible exact Below.refl _ _) | (with_reducible assumption) | (with_reducible refine Below.alloc ?_ ?_ _) | (with_reducible refine Below.setCell ?_ ?_ _) | (with_reducible refine Below.drew ?_) | (with_reducible refine below_drewN ?_ _) | (with_reducible refine below_via ?_ (by with_reducible assumption) ?_) | omega | (simp; done) | (simp; omega))))) (HRG.out _ (by (repeat' (first | (with_reducible exact Below.refl _ _) | (with_reducible assumption) | (with_reducible refine Below.alloc ?_ ?_ _) | (with_reducible refine Below.setCell ?_ ?_ _) | (with_reducible refine Below.drew ?_) | (with_reducible refine below_drewN ?_ _) | (with_reducible refine below_via ?_ (by with_reducible assumption) ?_) | omega | (simp; done) | (simp; omega)))))).mono ?_); intro e w9 hp9; obtain ⟨ys9, A9, c9, rfl, hlg9, hrs9, hgd9, hb9⟩ := book_rs hp9; have LG9 := Lib.hid hlg9; have H9 := Lib.hid hrs9.rd; have G9 := Lib.hid hgd9; clear hp9 hlg9 hrs9 hgd9; obtain ⟨fc9, fg9, hc9, hf9, hz9⟩ := bget hb9; (try simp at hz9)) | (go_at_call 43; (with_reducible refine (bookMove fl u v g A1 B c1 d _ (by omega) (by omega) H64.out G64.out (H1.out.keep (by (repeat' (first | (with_reducible exact Below.refl _ _) | (with_reducible assumption) | (with_reducible refine Below.alloc ?_ ?_ _) | (with_reducible refine Below.setCell ?_ ?_ _) | (with_reducible refine Below.drew ?_) | (with_reducible refine below_drewN ?_ _) | (with_reducible refine below_via ?_ (by with_reducible assumption) ?_) | omega | (simp; done) | (simp; omega))))) (fun y hy => (HFG.out y hy).keep (by (repeat' (first | (with_reducible exact Below.refl _ _) | (with_reducible assumption) | (with_reducible refine Below.alloc ?_ ?_ _) | (with_reducible refine Below.setCell ?_ ?_ _) | (with_reducible refine Below.drew ?_) | (with_reducible refine below_drewN ?_ _) | (with_reducible refine below_via ?_ (by with_reducible assumption) ?_) | omega | (simp; done) | (simp; omega))))) (HRG.out _ (by (repeat' (first | (with_reducible exact Below.refl _ _) | (with_reducible assumption) | (with_reducible refine Below.alloc ?_ ?_ _) | (with_reducible refine Below.setCell ?_ ?_ _) | (with_reducible refine Below.drew ?_) | (with_reducible refine below_drewN ?_ _) | (with_reducible refine below_via ?_ (by with_reducible assumption) ?_) | omega | (simp; done) | (simp; omega)))))).mono ?_); intro e w10 hp10; obtain ⟨ys10, A10, c10, rfl, hlg10, hrs10, hgd10, hb10⟩ := book_rs hp10; have LG10 := Lib.hid hlg10; have H10 := Lib.hid hrs10.rd; have G10 := Lib.hid hgd10; clear hp10 hlg10 hrs10 hgd10; obtain ⟨fc10, fg10, hc10, hf10, hz10⟩ := bget hb10; (try simp at hz10)) | (go_at_call 44; (with_reducible refine (ref19Move fl u v g A1 B c1 d _ (by omega) (by omega) H64.out G64.out (H1.out.keep (by (repeat' (first | (with_reducible exact Below.refl _ _) | (with_reducible assumption) | (with_reducible refine Below.alloc ?_ ?_ _) | (with_reducible refine Below.setCell ?_ ?_ _) | (with_reducible refine Below.drew ?_) | (with_reducible refine below_drewN ?_ _) | (with_reducible refine below_via ?_ (by with_reducible assumption) ?_) | omega | (simp; done) | (simp; omega))))) (fun y hy => (HFG.out y hy).keep (by (repeat' (first | (with_reducible exact Below.refl _ _) | (with_reducible assumption) | (with_reducible refine Below.alloc ?_ ?_ _) | (with_reducible refine Below.setCell ?_ ?_ _) | (with_reducible refine Below.drew ?_) | (with_reducible refine below_drewN ?_ _) | (with_reducible refine below_via ?_ (by with_reducible assumption) ?_) | omega | (simp; done) | (simp; omega))))) (HRG.out _ (by (repeat' (first | (with_reducible exact Below.refl _ _) | (with_reducible assumption) | (with_reducible refine Below.alloc ?_ ?_ _) | (with_reducible refine Below.setCell ?_ ?_ _) | (with_reducible refine Below.drew ?_) | (with_reducible refine below_drewN ?_ _) | (with_reducible refine below_via ?_ (by with_reducible assumption) ?_) | omega | (simp; done) | (simp; omega)))))).mono ?_); intro e w11 hp11; obtain ⟨ys11, A11, c11, rfl, hlg11, hrs11, hgd11, hb11⟩ := book_rs hp11; have LG11 := Lib.hid hlg11; have H11 := Lib.hid hrs11.rd; have G11 := Lib.hid hgd11; clear hp11 hlg11 hrs11 hgd11; obtain ⟨fc11, fg11, hc11, hf11, hz11⟩ := bget hb11; (try simp at hz11)) | (go_at_call 45; (with_reducible refine (refPosVSame ys8 ys9 A8 A9 c8 c9 _ (LG8.out.trans LG9.out.symm) (by have h1 := congrArg List.length LG8.out; rw [List.length_map] at h1; omega) (H8.out.keep (by (repeat' (first | (with_reducible exact Below.refl _ _) | (with_reducible assumption) | (with_reducible refine Below.alloc ?_ ?_ _) | (with_reducible refine Below.setCell ?_ ?_ _) | (with_reducible refine Below.drew ?_) | (with_reducible refine below_drewN ?_ _) | (with_reducible refine below_via ?_ (by with_reducible assumption) ?_) | omega | (simp; done) | (simp; omega))))) (H9.out.keep (by (repeat' (first | (with_reducible exact Below.refl _ _) | (with_reducible assumption) | (with_reducible refine Below.alloc ?_ ?_ _) | (with_reducible refine Below.setCell ?_ ?_ _) | (with_reducible refine Below.drew ?_) | (with_reducible refine below_drewN ?_ _) | (with_reducible refine below_via ?_ (by with_reducible assumption) ?_) | omega | (simp; done) | (simp; omega))))) (fun y hy => (G8.out y hy).keep (by (repeat' (first | (with_reducible exact Below.refl _ _) | (with_reducible assumption) | (with_reducible refine Below.alloc ?_ ?_ _) | (with_reducible refine Below.setCell ?_ ?_ _) | (with_reducible refine Below.drew ?_) | (with_reducible refine below_drewN ?_ _) | (with_reducible refine below_via ?_ (by with_reducible assumption) ?_) | omega | (simp; done) | (simp; omega))))) (fun y hy => (G9.out y hy).keep (by (repeat' (first | (with_reducible exact Below.refl _ _) | (with_reducible assumption) | (with_reducible refine Below.alloc ?_ ?_ _) | (with_reducible refine Below.setCell ?_ ?_ _) | (with_reducible refine Below.drew ?_) | (with_reducible refine below_drewN ?_ _) | (with_reducible refine below_via ?_ (by with_reducible assumption) ?_) | omega | (simp; done) | (simp; omega)))))).mono ?_); rintro e w12 ⟨rfl, hb12⟩; obtain ⟨fc12, fg12, hc12, hf12, hz12⟩ := bget hb12; (try simp at hz12)) | (go_at_call 45; (with_reducible refine (refPosVSame ys10 ys11 A10 A11 c10 c11 _ (LG10.out.trans LG11.out.symm) (by have h1 := congrArg List.length LG10.out; rw [List.length_map] at h1; omega) (H10.out.keep (by (repeat' (first | (with_reducible exact Below.refl _ _) | (with_reducible assumption) | (with_reducible refine Below.alloc ?_ ?_ _) | (with_reducible refine Below.setCell ?_ ?_ _) | (with_reducible refine Below.drew ?_) | (with_reducible refine below_drewN ?_ _) | (with_reducible refine below_via ?_ (by with_reducible assumption) ?_) | omega | (simp; done) | (simp; omega))))) (H11.out.keep (by (repeat' (first | (with_reducible exact Below.refl _ _) | (with_reducible assumption) | (with_reducible refine Below.alloc ?_ ?_ _) | (with_reducible refine Below.setCell ?_ ?_ _) | (with_reducible refine Below.drew ?_) | (with_reducible refine below_drewN ?_ _) | (with_reducible refine below_via ?_ (by with_reducible assumption) ?_) | omega | (simp; done) | (simp; omega))))) (fun y hy => (G10.out y hy).keep (by (repeat' (first | (with_reducible exact Below.refl _ _) | (with_reducible assumption) | (with_reducible refine Below.alloc ?_ ?_ _) | (with_reducible refine Below.setCell ?_ ?_ _) | (with_reducible refine Below.drew ?_) | (with_reducible refine below_drewN ?_ _) | (with_reducible refine below_via ?_ (by with_reducible assumption) ?_) | omega | (simp; done) | (simp; omega))))) (fun y hy => (G11.out y hy).keep (by (repeat' (first | (with_reducible exact Below.refl _ _) | (with_reducible assumption) | (with_reducible refine Below.alloc ?_ ?_ _) | (with_reducible refine Below.setCell ?_ ?_ _) | (with_reducible refine Below.drew ?_) | (with_reducible refine below_drewN ?_ _) | (with_reducible refine below_via ?_ (by with_reducible assumption) ?_) | omega | (simp; done) | (simp; omega)))))).mono ?_); rintro e w13 ⟨rfl, hb13⟩; obtain ⟨fc13, fg13, hc13, hf13, hz13⟩ := bget hb13; (try simp at hz13)) | (go_at_call 46; (with_reducible refine (law19lives _).mono ?_); rintro e w14 ⟨rfl, hb14⟩; obtain ⟨fc14, fg14, hc14, hf14, hz14⟩ := bget hb14; (try simp at hz14)) | fail)
    go_ret
    exact ⟨rfl, by (repeat' (first | (with_reducible exact Below.refl _ _) | (with_reducible assumption) | (with_reducible refine Below.alloc ?_ ?_ _) | (with_reducible refine Below.setCell ?_ ?_ _) | (with_reducible refine Below.drew ?_) | (with_reducible refine below_drewN ?_ _) | (with_reducible refine below_via ?_ (by with_reducible assumption) ?_) | omega | (simp; done) | (simp; omega)))⟩
/-- What a row of positions handed in is, as the laws take it. -/
structure FewOk (w : World) (fl : List PosV) : Prop where
  len : fl.length ≤ 12
  good : ∀ x ∈ fl, GoodPosV w x
  all64 : L64 (fl.map lgPosV)
theorem few_ok {w : World} {l0 : List PosV} (hg : ∀ x ∈ l0, Rs w 2 (x.legs.val.map encLeg) x.legs.A x.legs.c) (h64 : ∀ x ∈ l0, Legs64 x.legs.val) : FewOk w ((l0.take 12).map fewPosV) := by
  refine ⟨by rw [List.length_map, List.length_take]; omega, fun x hx => ?_, fun r hr => ?_⟩
  · obtain ⟨y, hy, rfl⟩ := List.mem_map.1 hx
    exact (fewPosV_good (hg y (List.mem_of_mem_take hy))).1
  · obtain ⟨x, hx, rfl⟩ := List.mem_map.1 hr
    obtain ⟨y, hy, rfl⟩ := List.mem_map.1 hx
    intro z hz
    exact h64 y (List.mem_of_mem_take hy) z (List.mem_of_mem_take hz)
theorem bookShiftsW (l0 : List PosV) (u v : Un) (g0 : List Leg) (A B : Option Addr) (c d : Nat) (w : World) (hl : l0.length ≤ maxLen) (hgl : g0.length ≤ maxLen) (hr : Rd w A 3 (l0.map encPosV)) (hg : ∀ x ∈ l0, Rs w 2 (x.legs.val.map encLeg) x.legs.A x.legs.c) (h64 : ∀ x ∈ l0, Legs64 x.legs.val) (g64 : Legs64 g0) (hrg : Rs w 2 (g0.map encLeg) B d) :
    Calls Try.prog 7 #[.slice A l0.length c, .agg #[.int .i64 u.acc, .int .i64 u.cli], .agg #[.int .i64 v.acc, .int .i64 v.cli], .slice B g0.length d] w fun e w' => e = .returned (.bool true) ∧ Below w.heap.size w w' := by
  obtain ⟨g, hge, lg, gg64, rg⟩ := take12 hrg g64
  have hf := few_ok hg h64
  exact bookShiftsAt l0 ((l0.take 12).map fewPosV) u v g0 g A B c d w hf.len lg hf.all64 gg64 hf.good (fun W h => rg.keep h)
    (fun W h => law19Few l0 A c W hl (hr.keep h) (fun x hx => (hg x hx).keep h))
    (fun W h => law11FewN g0 g.length (Lib.hid (by rw [hge])) B d W hgl (hrg.keep h))
end Go.Proofs.Ytiidplinmempcaa

/- What every law's row asks of the call's end: the arguments read on as they did, where nothing below the heap's old size has turned. -/
namespace Go.Proofs.Ytiidplinmempcaa
open Go.ChangeShapes Go.WideShapes Go.ChangeAt Go.RowKit Go.Joins
theorem Try.own : ownKnob Try.prog.godebug = none := by kernel_rfl
theorem Try.laidOut : laidOutB Try.prog = true := by kernel_rfl
theorem in64_of_wf {x : Int} (h : (Lit.int .i64 x).wf = true) : In64 x := by
  simp [Lit.wf, IntKind.min, IntKind.max, IntKind.signed, IntKind.bits] at h
  exact ⟨by omega, by omega⟩
theorem word_of_wf {x : Int} (h : (Lit.int .u64 x).wf = true) : 0 ≤ x ∧ x < 18446744073709551616 := by
  simp [Lit.wf, IntKind.min, IntKind.max, IntKind.signed, IntKind.bits] at h
  exact ⟨by omega, by omega⟩
theorem reads_on {H : Type} {enc : TypeId × Value → H} {W W' : World} (hb : Below W.heap.size W W') : ∀ {ts : List TypeId} {vs : List Value} {ds : List (DataW H)} {ps : List MemPlace},
    (∀ t ∈ ts, Try.prog.readableRec t = true ∧ t < Try.prog.types.size) → DataW.TrodAll enc Try.prog W 0 (fun _ => true) true ts vs ds ps → (∀ x ∈ ps, x.block < W.heap.size) →
    DataW.TrodAll enc Try.prog W' 0 (fun b => decide (b < W.heap.size)) true ts vs ds ps
  | [], _, _, _, _, h, _ => by
    obtain ⟨rfl, rfl, rfl⟩ := trodAll_nil h
    exact trodAll_mk0
  | t :: ts, _, _, _, ht, h, hl => by
    obtain ⟨v, vs, d, ds, p, q, rfl, rfl, rfl, h1, h2⟩ := trodAll_cons h
    have h3 := ht t (by simp)
    exact ⟨p, q, Below.trod Try.laidOut h3.1 h3.2 h1 hb (fun x hx => hl x (by simp [hx])), reads_on hb (fun t ht' => ht t (by simp [ht'])) h2 (fun x hx => hl x (by simp [hx])), rfl⟩
theorem law_ends {H : Type} {enc : TypeId × Value → H} {f : Func} {s : ChangeSpec} {W W' : World} {args : Array Value} {ds gs : List (DataW H)} {before : List MemPlace}
    (hW : DataW.Whole enc Try.prog f.params.toList s.vars false W args.toList ds gs before) (hvars : s.vars = []) (hts : ∀ t ∈ f.params.toList, Try.prog.readableRec t = true ∧ t < Try.prog.types.size)
    (hrt : f.resultTypes = #[4]) (hr : (s.fn H (ds ++ gs)).results = [.lit (.bool true)]) (ha : (s.fn H (ds ++ gs)).args = ds) (hv : (s.fn H (ds ++ gs)).vars = []) (hb : Below W.heap.size W W') :
    s.post enc Try.prog f false true false false W args (.bool true) W' := by
  have hW' := hW
  obtain ⟨p, q, hA, hV, rfl, hfz, hnd⟩ := hW
  rw [hvars] at hV
  obtain ⟨rfl, rfl⟩ := trodVars_none hV
  refine ⟨ds, [], _, [], p, [], hW', ?_, ?_, ?_, hb.frame _, fun h => by cases h⟩
  · rw [hrt, hr]; exact trodAll_mk1 (shut_bool Try.underlying4 _)
  · rw [ha]; exact reads_on hb hts hA (fun x hx => by simpa using hW'.lt x (by simp [hx]))
  · rw [hv, hvars]; rfl
end Go.Proofs.Ytiidplinmempcaa

/- A slice, handed in: the list that it reads as. -/
namespace Go.Proofs.Ytiidplinmempcaa
open Go.ChangeShapes Go.WideShapes Go.ChangeAt Go.RowKit Go.Joins Go.Deep
theorem block_lt {w : World} {a : Addr} {v : Value} (h : w.cell? a = some v) : a.block < w.heap.size := by
  rcases Nat.lt_or_ge a.block w.heap.size with h1 | h1
  · exact h1
  · unfold World.cell? at h
    rw [Array.getElem?_eq_none h1] at h
    split at h <;> simp_all
theorem list_choose {α : Type} {n : Nat} {p : Nat → α → Prop} (h : ∀ i, i < n → ∃ x, p i x) : ∃ l : List α, l.length = n ∧ ∀ i (hi : i < l.length), p i l[i] := by
  induction n with
  | zero => exact ⟨[], rfl, fun i hi => absurd hi (by simp)⟩
  | succ n ih =>
    obtain ⟨l, hl, hp⟩ := ih (fun i hi => h i (by omega))
    obtain ⟨x, hx⟩ := h n (by omega)
    refine ⟨l ++ [x], by simp [hl], fun i hi => ?_⟩
    simp at hi
    rcases Nat.lt_or_ge i l.length with h1 | h1
    · rw [List.getElem_append_left h1]; exact hp i h1
    · obtain rfl : i = l.length := by omega
      simp [hl]; exact hx
theorem slice_open0 {H : Type} {enc : TypeId × Value → H} {P : Program} {w : World} {spare : Nat → Bool} {held : Bool} {t e : TypeId} {k : Nat} {α : Type} {ok : α → Prop} {enc1 : α → List Value} {fuel : Nat} {cs0 : List Value} {y0 : DataW H × List MemPlace}
    (ht : P.underlying t = some (.slice e)) (ce : P.cellsOf e = k) (helem : ∀ (cs : List Value) (n : Nat) y, cs.length = k → DataW.trod enc P w 0 spare held n e cs = some y → ∃ x : α, ok x ∧ cs = enc1 x)
    (hk : ∀ x, ok x → (enc1 x).length = k) (hk0 : 0 < k) (hf : DataW.trod enc P w 0 spare held fuel t cs0 = some y0) :
    ∃ (l : List α) (A : Option Addr) (c : Nat), cs0 = [.slice A l.length c] ∧ (∀ x ∈ l, ok x) ∧ l.length ≤ c ∧ c ≤ maxLen ∧ (A = none → c = 0) ∧ Rd w A k (l.map enc1) := by
  rcases open_slice ht hf with ⟨hcs, _⟩ | ⟨a, len, cap, m, n, D, Pl, hcs, _, hl, hm, hmm, _, hall⟩
  · subst hcs
    exact ⟨[], none, 0, rfl, by simp, by simp, by simp, fun _ => rfl, fun i r hr => by simp at hr⟩
  · subst hcs
    have each : ∀ i, i < len → ∃ x : α, ok x ∧ ∀ j v, (enc1 x)[j]? = some v → w.cell? ((a.add (i * k)).add j) = some v := by
      intro i hi
      obtain ⟨cs, h1, h2⟩ := hall i (by rw [hmm]; split <;> omega)
      rw [ce] at h1
      obtain ⟨_, hlen, hcell⟩ := World.cells?_some h1
      obtain ⟨x, hx, rfl⟩ := helem cs n _ hlen h2
      refine ⟨x, hx, fun j v hv => ?_⟩
      have hj : j < k := by
        rw [← hlen]
        rcases Nat.lt_or_ge j (enc1 x).length with h3 | h3
        · exact h3
        · rw [List.getElem?_eq_none h3] at hv; cases hv
      rw [hcell j hj, hv]
    obtain ⟨l, hll, hp⟩ := list_choose each
    subst hll
    refine ⟨l, some a, cap, rfl, fun x hx => ?_, hl, hm, (fun h => by cases h), fun i r hr => ?_⟩
    · obtain ⟨i, hi, rfl⟩ := List.mem_iff_getElem.1 hx
      exact (hp i hi).1
    · rw [List.getElem?_map] at hr
      cases hli : l[i]? with
      | none => rw [hli] at hr; cases hr
      | some x =>
        rw [hli] at hr
        simp at hr
        subst hr
        obtain ⟨hi, rfl⟩ := List.getElem?_eq_some_iff.1 hli
        have hp2 := (hp i hi).2
        have hlk := hk _ (hp i hi).1
        obtain ⟨u, hu⟩ : ∃ u, (enc1 l[i])[0]? = some u := ⟨(enc1 l[i])[0], List.getElem?_eq_getElem (by omega)⟩
        have h0 := hp2 0 u hu
        obtain ⟨b, off, spot⟩ := a
        have hb : b < w.heap.size := by
          have := block_lt h0
          unfold Addr.add at this
          split at this <;> split at this <;> exact this
        by_cases hi0 : i = 0
        · subst hi0
          have hspot : spot = none := by simpa [Addr.add] using World.cell?_spot h0
          subst hspot
          refine ⟨b, off, rfl, hb, fun j v hv => ?_⟩
          have := hp2 j v hv
          rwa [add_plain, add_plain] at this
        · have hl0 : 0 < l.length := by omega
          have hlk0 := hk _ (hp 0 hl0).1
          obtain ⟨u0, hu0⟩ : ∃ u, (enc1 l[0])[0]? = some u := ⟨(enc1 l[0])[0], List.getElem?_eq_getElem (by omega)⟩
          have h00 := (hp 0 hl0).2 0 u0 hu0
          have hspot : spot = none := by simpa [Addr.add] using World.cell?_spot h00
          subst hspot
          refine ⟨b, off, rfl, hb, fun j v hv => ?_⟩
          have := hp2 j v hv
          rwa [add_plain, add_plain] at this
/-- A slice handed in, read row by row by a relation. -/
theorem slice_rel {H : Type} {enc : TypeId × Value → H} {P : Program} {w : World} {spare : Nat → Bool} {held : Bool} {t e : TypeId} {k : Nat} {α : Type} {R : List Value → α → Prop} {fuel : Nat} {cs0 : List Value} {y0 : DataW H × List MemPlace}
    (ht : P.underlying t = some (.slice e)) (ce : P.cellsOf e = k) (helem : ∀ (cs : List Value) (n : Nat) y, cs.length = k → DataW.trod enc P w 0 spare held n e cs = some y → ∃ x : α, R cs x ∧ cs.length = k)
    (hk0 : 0 < k) (hf : DataW.trod enc P w 0 spare held fuel t cs0 = some y0) :
    ∃ (l : List α) (rows : List (List Value)) (A : Option Addr) (c : Nat), cs0 = [.slice A l.length c] ∧ Each R rows l ∧ Rs w k rows A c := by
  obtain ⟨rows, A, c, h1, h2, h3, h4, h5, h6⟩ := slice_open0 (α := List Value) (ok := fun r => (∃ x, R r x) ∧ r.length = k) (enc1 := fun r => r) ht ce (fun cs n y hl hy => by
    obtain ⟨x, hx, hlen⟩ := helem cs n y hl hy
    exact ⟨cs, ⟨⟨x, hx⟩, hlen⟩, rfl⟩) (fun r h => h.2) hk0 hf
  obtain ⟨l, hl, hp⟩ := list_choose (n := rows.length) (p := fun i x => ∃ r, rows[i]? = some r ∧ R r x) (fun i hi => by
    obtain ⟨⟨x, hx⟩, _⟩ := h2 rows[i] (List.getElem_mem hi)
    exact ⟨x, rows[i], List.getElem?_eq_getElem hi, hx⟩)
  rw [List.map_id'] at h6
  refine ⟨l, rows, A, c, by rw [hl]; exact h1, ⟨hl.symm, fun i a b ha hb => ?_⟩, ⟨h6, h3, h4, h5⟩⟩
  obtain ⟨hi, rfl⟩ := List.getElem?_eq_some_iff.1 hb
  obtain ⟨r, hr, hx⟩ := hp i hi
  rw [ha] at hr
  injection hr with hr
  subst hr
  exact hx
theorem slice_open {H : Type} {enc : TypeId × Value → H} {P : Program} {w : World} {spare : Nat → Bool} {held : Bool} {t e : TypeId} {k : Nat} {α : Type} {ok : α → Prop} {enc1 : α → List Value} {v : Value} {d : DataW H} {ps : List MemPlace}
    (ht : P.underlying t = some (.slice e)) (ce : P.cellsOf e = k) (helem : ∀ (cs : List Value) (n : Nat) y, cs.length = k → DataW.trod enc P w 0 spare held n e cs = some y → ∃ x : α, ok x ∧ cs = enc1 x)
    (hk : ∀ x, ok x → (enc1 x).length = k) (hk0 : 0 < k) {r : Reach} {b0 : Nat} (hval : Value.okWide P w r b0 t v) (h : DataW.Trod enc P w 0 spare held t v d ps) :
    ∃ (l : List α) (A : Option Addr) (c : Nat), v = .slice A l.length c ∧ (∀ x ∈ l, ok x) ∧ l.length ≤ c ∧ c ≤ maxLen ∧ (A = none → c = 0) ∧ Rd w A k (l.map enc1) := by
  obtain ⟨a0, len0, cap0, rfl⟩ := okWide_slice ht hval
  obtain ⟨fuel, hf⟩ := h
  rcases open_slice ht hf with ⟨hcs, _⟩ | ⟨a, len, cap, m, n, D, Pl, hcs, _, hl, hm, hmm, _, hall⟩
  · simp [Value.cells] at hcs
    obtain ⟨rfl, rfl, rfl⟩ := hcs
    exact ⟨[], none, 0, rfl, by simp, by simp, by simp, fun _ => rfl, fun i r hr => by simp at hr⟩
  · simp [Value.cells] at hcs
    obtain ⟨rfl, rfl, rfl⟩ := hcs
    have each : ∀ i, i < len0 → ∃ x : α, ok x ∧ ∀ j v, (enc1 x)[j]? = some v → w.cell? ((a.add (i * k)).add j) = some v := by
      intro i hi
      obtain ⟨cs, h1, h2⟩ := hall i (by rw [hmm]; split <;> omega)
      rw [ce] at h1
      obtain ⟨_, hlen, hcell⟩ := World.cells?_some h1
      obtain ⟨x, hx, rfl⟩ := helem cs n _ hlen h2
      refine ⟨x, hx, fun j v hv => ?_⟩
      have hj : j < k := by
        rw [← hlen]
        rcases Nat.lt_or_ge j (enc1 x).length with h3 | h3
        · exact h3
        · rw [List.getElem?_eq_none h3] at hv; cases hv
      rw [hcell j hj, hv]
    obtain ⟨l, hll, hp⟩ := list_choose each
    subst hll
    refine ⟨l, some a, cap0, rfl, fun x hx => ?_, hl, hm, (fun h => by cases h), fun i r hr => ?_⟩
    · obtain ⟨i, hi, rfl⟩ := List.mem_iff_getElem.1 hx
      exact (hp i hi).1
    · rw [List.getElem?_map] at hr
      cases hli : l[i]? with
      | none => rw [hli] at hr; cases hr
      | some x =>
        rw [hli] at hr
        simp at hr
        subst hr
        obtain ⟨hi, rfl⟩ := List.getElem?_eq_some_iff.1 hli
        have hp2 := (hp i hi).2
        have hlk := hk _ (hp i hi).1
        obtain ⟨u, hu⟩ : ∃ u, (enc1 l[i])[0]? = some u := ⟨(enc1 l[i])[0], List.getElem?_eq_getElem (by omega)⟩
        have h0 := hp2 0 u hu
        obtain ⟨b, off, spot⟩ := a
        have hb : b < w.heap.size := by
          have := block_lt h0
          unfold Addr.add at this
          split at this <;> split at this <;> exact this
        by_cases hi0 : i = 0
        · subst hi0
          have hspot : spot = none := by simpa [Addr.add] using World.cell?_spot h0
          subst hspot
          refine ⟨b, off, rfl, hb, fun j v hv => ?_⟩
          have := hp2 j v hv
          rwa [add_plain, add_plain] at this
        · have hl0 : 0 < l.length := by omega
          have hlk0 := hk _ (hp 0 hl0).1
          obtain ⟨u0, hu0⟩ : ∃ u, (enc1 l[0])[0]? = some u := ⟨(enc1 l[0])[0], List.getElem?_eq_getElem (by omega)⟩
          have h00 := (hp 0 hl0).2 0 u0 hu0
          have hspot : spot = none := by simpa [Addr.add] using World.cell?_spot h00
          subst hspot
          refine ⟨b, off, rfl, hb, fun j v hv => ?_⟩
          have := hp2 j v hv
          rwa [add_plain, add_plain] at this
end Go.Proofs.Ytiidplinmempcaa

/- Legs handed in. -/
namespace Go.Proofs.Ytiidplinmempcaa
open Go.ChangeShapes Go.WideShapes Go.ChangeAt Go.RowKit Go.Joins
set_option maxRecDepth 100000 in
theorem Leg_cells {H : Type} {enc : TypeId × Value → H} {W : World} {spare : Nat → Bool} {held : Bool} (cs : List Value) (n : Nat) (y : DataW H × List MemPlace) (hlen : cs.length = 2) (h : DataW.trod enc Try.prog W 0 spare held n 116 cs = some y) : ∃ x : Leg, okLeg x ∧ cs = encLeg x := by
  obtain ⟨xs, n, _, rfl, _, hxs, hf⟩ := DataW.trod_struct Try.underlying116 h
  match cs, hlen, xs, hxs with
  | [c0, c1], _, [y0, y1], _ =>
    have h0 : DataW.trod enc Try.prog W 0 spare held n 3 (([c0, c1].drop 0).take (Try.prog.cellsOf 3)) = some y0 := hf 0 _ rfl
    have h1 : DataW.trod enc Try.prog W 0 spare held n 2 (([c0, c1].drop 1).take (Try.prog.cellsOf 2)) = some y1 := hf 1 _ rfl
    obtain ⟨x0, e0, _, w0⟩ := DataW.trod_int (k := .i64) (by kernel_rfl) h0
    rw [show Try.prog.cellsOf _ = 1 from by kernel_rfl] at e0
    simp at e0
    subst e0
    obtain ⟨x1, e1, _, w1⟩ := DataW.trod_int (k := .i64) (by kernel_rfl) h1
    rw [show Try.prog.cellsOf _ = 1 from by kernel_rfl] at e1
    simp at e1
    subst e1
    exact ⟨⟨x0, x1⟩, ⟨in64_of_wf w0, in64_of_wf w1⟩, rfl⟩
set_option maxRecDepth 100000 in
theorem Leg_open {H : Type} {enc : TypeId × Value → H} {W : World} {spare : Nat → Bool} {held : Bool} {r : Reach} {b0 : Nat} {v : Value} {d : DataW H} {p : List MemPlace} (hv : Value.okWide Try.prog W r b0 116 v) (h : DataW.Trod enc Try.prog W 0 spare held 116 v d p) : ∃ x : Leg, okLeg x ∧ v = .agg #[.int .i64 x.inst, .int .i64 x.qty] := by
  obtain ⟨cs, rfl, hsz⟩ := okWide_struct Try.underlying116 hv
  obtain ⟨fuel, hf⟩ := h
  rw [show Try.prog.cellsOf _ = 2 from by kernel_rfl] at hsz
  obtain ⟨x, hx, he⟩ := Leg_cells cs.toList fuel _ (by simpa using hsz) (by simpa [Value.cells] using hf)
  refine ⟨x, hx, ?_⟩
  obtain ⟨l⟩ := cs
  simp only at he
  rw [he]; rfl
set_option maxRecDepth 100000 in
theorem legs_cells {H : Type} {enc : TypeId × Value → H} {W : World} {spare : Nat → Bool} {held : Bool} {fuel : Nat} {cs : List Value} {y : DataW H × List MemPlace} (h : DataW.trod enc Try.prog W 0 spare held fuel 23 cs = some y) :
    ∃ (l : List Leg) (A : Option Addr) (c : Nat), cs = [.slice A l.length c] ∧ (∀ x ∈ l, okLeg x) ∧ Rs W 2 (l.map encLeg) A c := by
  obtain ⟨l, A, c, h1, h2, h3, h4, h5, h6⟩ := slice_open0 (enc1 := encLeg) Try.underlying23 (by kernel_rfl) (fun cs n y => Leg_cells cs n y) (fun _ _ => rfl) (by omega) h
  exact ⟨l, A, c, h1, h2, ⟨h6, by rw [List.length_map]; exact h3, h4, h5⟩⟩
set_option maxRecDepth 100000 in
theorem legs_open {H : Type} {enc : TypeId × Value → H} {W : World} {spare : Nat → Bool} {held : Bool} {base : Nat} {r : Reach} {v : Value} {d : DataW H} {p : List MemPlace}
    (hv : Value.okWide Try.prog W r base 23 v) (h : DataW.Trod enc Try.prog W 0 spare held 23 v d p) :
    ∃ (l : List Leg) (A : Option Addr) (c : Nat), v = .slice A l.length c ∧ (∀ x ∈ l, okLeg x) ∧ Rs W 2 (l.map encLeg) A c := by
  obtain ⟨a0, len0, cap0, rfl⟩ := okWide_slice Try.underlying23 hv
  obtain ⟨fuel, hf⟩ := h
  obtain ⟨l, A, c, h1, h2, h3⟩ := legs_cells hf
  simp [Value.cells] at h1
  obtain ⟨rfl, rfl, rfl⟩ := h1
  exact ⟨l, _, _, rfl, h2, h3⟩
set_option maxRecDepth 100000 in
theorem legss_open {H : Type} {enc : TypeId × Value → H} {W : World} {spare : Nat → Bool} {held : Bool} {base : Nat} {r : Reach} {v : Value} {d : DataW H} {p : List MemPlace}
    (hv : Value.okWide Try.prog W r base 51 v) (h : DataW.Trod enc Try.prog W 0 spare held 51 v d p) :
    ∃ (ls : List (List Leg)) (A : Option Addr) (c : Nat), v = .slice A ls.length c ∧ (∀ l ∈ ls, (∀ x ∈ l, okLeg x) ∧ l.length ≤ maxLen) ∧ RsS 2 encLeg W ls A c ∧ ls.length ≤ maxLen := by
  obtain ⟨a0, len0, cap0, rfl⟩ := okWide_slice Try.underlying51 hv
  obtain ⟨fuel, hf⟩ := h
  obtain ⟨ls, rows, A, c, h1, h2, h3⟩ := slice_rel (R := fun r (l : List Leg) => (∃ v, r = enc1 v ∧ IsSl 2 encLeg W v l) ∧ (∀ x ∈ l, okLeg x) ∧ l.length ≤ maxLen) Try.underlying51 (k := 1) (by kernel_rfl) (fun cs n y hlen hy => by
    obtain ⟨l, A, c, rfl, hok, hrs⟩ := legs_cells hy
    have hc := hrs.cap
    rw [List.length_map] at hc
    exact ⟨l, ⟨⟨_, rfl, isl hrs⟩, hok, Nat.le_trans hc hrs.room⟩, rfl⟩) (by omega) hf
  simp [Value.cells] at h1
  obtain ⟨rfl, rfl, rfl⟩ := h1
  obtain ⟨vs, hvl, hvp⟩ := list_choose (n := ls.length) (p := fun i v => ∃ l, ls[i]? = some l ∧ rows[i]? = some (enc1 v) ∧ IsSl 2 encLeg W v l) (fun i hi => by
    obtain ⟨r, hr, ⟨v, rfl, hv⟩, _⟩ := h2.get hi
    exact ⟨v, ls[i], List.getElem?_eq_getElem hi, hr, hv⟩)
  have hrows : rows = vs.map enc1 := by
    apply List.ext_getElem?
    intro i
    rw [List.getElem?_map]
    rcases Nat.lt_or_ge i vs.length with hi | hi
    · obtain ⟨l, _, h5, _⟩ := hvp i hi
      rw [h5, List.getElem?_eq_getElem hi]; rfl
    · rw [List.getElem?_eq_none hi, List.getElem?_eq_none (by rw [h2.len]; omega)]; rfl
  refine ⟨ls, _, _, rfl, fun l hl => ?_, ⟨⟨vs, ⟨hvl, fun i a b ha hb => ?_⟩, by rw [← hrows]; exact h3⟩⟩, ?_⟩
  · obtain ⟨i, hi, rfl⟩ := List.mem_iff_getElem.1 hl
    obtain ⟨r, _, _, h6⟩ := h2.get hi
    exact h6
  · obtain ⟨hi, rfl⟩ := List.getElem?_eq_some_iff.1 ha
    obtain ⟨l, h5, _, h6⟩ := hvp i hi
    rw [hb] at h5
    injection h5 with h5
    subst h5
    exact h6
  · have := h3.cap
    have := h3.room
    rw [h2.len] at *
    omega
end Go.Proofs.Ytiidplinmempcaa

/- Units handed in. -/
namespace Go.Proofs.Ytiidplinmempcaa
open Go.ChangeShapes Go.WideShapes Go.ChangeAt Go.RowKit Go.Joins
set_option maxRecDepth 100000 in
theorem Un_cells {H : Type} {enc : TypeId × Value → H} {W : World} {spare : Nat → Bool} {held : Bool} (cs : List Value) (n : Nat) (y : DataW H × List MemPlace) (hlen : cs.length = 2) (h : DataW.trod enc Try.prog W 0 spare held n 60 cs = some y) : ∃ x : Un, okUn x ∧ cs = encUn x := by
  obtain ⟨xs, n, _, rfl, _, hxs, hf⟩ := DataW.trod_struct Try.underlying60 h
  match cs, hlen, xs, hxs with
  | [c0, c1], _, [y0, y1], _ =>
    have h0 : DataW.trod enc Try.prog W 0 spare held n 3 (([c0, c1].drop 0).take (Try.prog.cellsOf 3)) = some y0 := hf 0 _ rfl
    have h1 : DataW.trod enc Try.prog W 0 spare held n 3 (([c0, c1].drop 1).take (Try.prog.cellsOf 3)) = some y1 := hf 1 _ rfl
    obtain ⟨x0, e0, _, w0⟩ := DataW.trod_int (k := .i64) (by kernel_rfl) h0
    rw [show Try.prog.cellsOf _ = 1 from by kernel_rfl] at e0
    simp at e0
    subst e0
    obtain ⟨x1, e1, _, w1⟩ := DataW.trod_int (k := .i64) (by kernel_rfl) h1
    rw [show Try.prog.cellsOf _ = 1 from by kernel_rfl] at e1
    simp at e1
    subst e1
    exact ⟨⟨x0, x1⟩, ⟨in64_of_wf w0, in64_of_wf w1⟩, rfl⟩
set_option maxRecDepth 100000 in
theorem Un_open {H : Type} {enc : TypeId × Value → H} {W : World} {spare : Nat → Bool} {held : Bool} {r : Reach} {b0 : Nat} {v : Value} {d : DataW H} {p : List MemPlace} (hv : Value.okWide Try.prog W r b0 60 v) (h : DataW.Trod enc Try.prog W 0 spare held 60 v d p) : ∃ x : Un, okUn x ∧ v = .agg #[.int .i64 x.acc, .int .i64 x.cli] := by
  obtain ⟨cs, rfl, hsz⟩ := okWide_struct Try.underlying60 hv
  obtain ⟨fuel, hf⟩ := h
  rw [show Try.prog.cellsOf _ = 2 from by kernel_rfl] at hsz
  obtain ⟨x, hx, he⟩ := Un_cells cs.toList fuel _ (by simpa using hsz) (by simpa [Value.cells] using hf)
  refine ⟨x, hx, ?_⟩
  obtain ⟨l⟩ := cs
  simp only at he
  rw [he]; rfl
end Go.Proofs.Ytiidplinmempcaa

/- Positions handed in. -/
namespace Go.Proofs.Ytiidplinmempcaa
open Go.ChangeShapes Go.WideShapes Go.ChangeAt Go.RowKit Go.Joins
theorem legs_lenB {w : World} {l : List Leg} {A : Option Addr} {c : Nat} (h : Rs w 2 (l.map encLeg) A c) : l.length ≤ maxLen := by
  have h1 := h.cap
  have h2 := h.room
  rw [List.length_map] at h1; omega
set_option maxRecDepth 100000 in
theorem PosV_cells {H : Type} {enc : TypeId × Value → H} {W : World} {spare : Nat → Bool} {held : Bool} (cs : List Value) (n : Nat) (y : DataW H × List MemPlace) (hlen : cs.length = 3) (h : DataW.trod enc Try.prog W 0 spare held n 140 cs = some y) :
    ∃ x : PosV, cs = encPosV x ∧ (∀ z ∈ x.legs.val, okLeg z) ∧ Rs W 2 (x.legs.val.map encLeg) x.legs.A x.legs.c := by
  obtain ⟨xs, n, _, rfl, _, hxs, hf⟩ := DataW.trod_struct Try.underlying140 h
  match cs, hlen, xs, hxs with
  | [c0, c1, c2], _, [y0, y1], _ =>
    have h0 : DataW.trod enc Try.prog W 0 spare held n 60 (([c0, c1, c2].drop 0).take (Try.prog.cellsOf 60)) = some y0 := hf 0 _ rfl
    have h1 : DataW.trod enc Try.prog W 0 spare held n 23 (([c0, c1, c2].drop 2).take (Try.prog.cellsOf 23)) = some y1 := hf 1 _ rfl
    rw [show Try.prog.cellsOf _ = 2 from by kernel_rfl] at h0
    obtain ⟨x0, _, e0⟩ := Un_cells [c0, c1] n _ rfl h0
    simp only [encUn, List.cons.injEq, and_true] at e0
    obtain ⟨rfl, rfl⟩ := e0
    rw [show Try.prog.cellsOf _ = 1 from by kernel_rfl] at h1
    obtain ⟨l, A, c, e1, hok, hrs⟩ := legs_cells h1
    simp at e1
    subst e1
    exact ⟨⟨x0, ⟨A, c, l⟩⟩, rfl, hok, hrs⟩
set_option maxRecDepth 100000 in
theorem PosV_open {H : Type} {enc : TypeId × Value → H} {W : World} {spare : Nat → Bool} {held : Bool} {base : Nat} {r : Reach} {v : Value} {d : DataW H} {p : List MemPlace}
    (hv : Value.okWide Try.prog W r base 72 v) (h : DataW.Trod enc Try.prog W 0 spare held 72 v d p) :
    ∃ (l : List PosV) (A : Option Addr) (c : Nat), v = .slice A l.length c ∧ l.length ≤ maxLen ∧ Rd W A 3 (l.map encPosV) ∧ (∀ x ∈ l, Rs W 2 (x.legs.val.map encLeg) x.legs.A x.legs.c) ∧ ∀ x ∈ l, ∀ z ∈ x.legs.val, okLeg z := by
  obtain ⟨a0, len0, cap0, rfl⟩ := okWide_slice Try.underlying72 hv
  obtain ⟨fuel, hf⟩ := h
  obtain ⟨ls, rows, A, c, h1, h2, h3⟩ := slice_rel (R := fun r (x : PosV) => r = encPosV x ∧ (∀ z ∈ x.legs.val, okLeg z) ∧ Rs W 2 (x.legs.val.map encLeg) x.legs.A x.legs.c) Try.underlying72 (k := 3) (by kernel_rfl) (fun cs n y hlen hy => by
    obtain ⟨x, e, hok, hrs⟩ := PosV_cells cs n y hlen hy
    exact ⟨x, ⟨e, hok, hrs⟩, by rw [e]; rfl⟩) (by omega) hf
  simp [Value.cells] at h1
  obtain ⟨rfl, rfl, rfl⟩ := h1
  have hrows : rows = ls.map encPosV := by
    apply List.ext_getElem?
    intro i
    rw [List.getElem?_map]
    rcases Nat.lt_or_ge i ls.length with hi | hi
    · obtain ⟨r, hr, hq, _⟩ := h2.get hi
      rw [hr, List.getElem?_eq_getElem hi, hq]; rfl
    · rw [List.getElem?_eq_none hi, List.getElem?_eq_none (by rw [h2.len]; omega)]; rfl
  have hcap := h3.cap
  have hroom := h3.room
  rw [h2.len] at hcap
  refine ⟨ls, _, _, rfl, by omega, by rw [← hrows]; exact h3.rd, fun x hx => ?_, fun x hx => ?_⟩
  · obtain ⟨i, hi, rfl⟩ := List.mem_iff_getElem.1 hx
    obtain ⟨r, _, _, _, hg⟩ := h2.get hi
    exact hg
  · obtain ⟨i, hi, rfl⟩ := List.mem_iff_getElem.1 hx
    obtain ⟨r, _, _, hg, _⟩ := h2.get hi
    exact hg
end Go.Proofs.Ytiidplinmempcaa
