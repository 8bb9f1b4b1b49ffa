/- Joined: Bk5. -/
import Derived.Test.YtiidplinmempcaaJb14
import Derived.Test.YtiidplinmempcaaJz4
/- Books: contracts of Move, the reference's Move, Open, Balanced. -/
namespace Go.Proofs.Ytiidplinmempcaa
open Go.RowKit
theorem neg_code {l : List Leg} (h : negC l ≠ 0) : negL l = [] := neg_no (by simpa using h)
theorem book_rs {w : World} {L : List (Row Leg)} {code : Int} {e : Ending} {w' : World} (h : BookPost w L code e w') : ∃ (ys : List PosV) (A : Option Addr) (c : Nat), e = .returned (.tuple #[.slice A ys.length c, .int .i64 code]) ∧ ys.map lgPosV = L ∧ Rs w' 3 (ys.map encPosV) A c ∧ (∀ y ∈ ys, GoodPosV w' y) ∧ Below w.heap.size w w' := by
  obtain ⟨v, ys, rfl, hl, hown, hg, hb⟩ := h
  obtain ⟨A, c, hv, hrs, _⟩ := hown.rs
  rw [List.length_map] at hv
  subst hv
  exact ⟨ys, A, c, rfl, hl, hrs, hg, hb⟩
set_option maxRecDepth 100000 in
set_option maxHeartbeats 16000000 in
theorem bookMove (l : List PosV) (a b : Un) (legs : List Leg) (A B : Option Addr) (c d : Nat) (w : World) (hl : l.length ≤ 1000) (hgl : legs.length ≤ 1000000) (h64 : L64 (l.map lgPosV)) (hg64 : Legs64 legs) (hr : Rd w A 3 (l.map encPosV)) (hg : ∀ x ∈ l, GoodPosV w x) (hrg : Rs w 2 (legs.map encLeg) B d) :
    Calls Try.prog 43 #[.slice A l.length c, .agg #[.int .i64 a.acc, .int .i64 a.cli], .agg #[.int .i64 b.acc, .int .i64 b.cli], .slice B legs.length d] w (BookPost w (mvL (l.map lgPosV) a b legs) (mvC (l.map lgPosV) a b legs)) := by
  have ci := fun W (h : Below w.heap.size w W) => bookIs l A c W (by omega) (hr.keep h) (fun x hx => (hg x hx).keep h)
  have hib : isPosV l = isK isV (l.map lgPosV) := rfl
  rw [hib] at ci
  have cn := fun W (h : Below w.heap.size w W) => vecNeg legs B d W (by omega) hg64 (hrg.keep h).rd
  have hnl := negL_len legs
  have cs := fun W B2 d2 (h : Below w.heap.size w W) (hr2 : Rs W 2 ((negL legs).map encLeg) B2 d2) => bookShift l a (negL legs) A B2 c d2 W (by omega) (by omega) h64 neg64 (hr.keep h) (fun x hx => (hg x hx).keep h) hr2
  have hsl := shL_len (l.map lgPosV) a (negL legs)
  rw [List.length_map] at hsl
  have ct := fun (ys : List PosV) W A3 c3 (h : Below w.heap.size w W) (hlg : ys.map lgPosV = shL (l.map lgPosV) a (negL legs)) (hr3 : Rd W A3 3 (ys.map encPosV)) (hg3 : ∀ y ∈ ys, GoodPosV W y) => hlg ▸ bookShift ys b legs A3 B c3 d W (by have h1 := congrArg List.length hlg; rw [List.length_map] at h1; omega) hgl (by rw [hlg]; exact sh64 h64 a _) hg64 hr3 hg3 (hrg.keep h)
  have hmc : mvC (l.map lgPosV) a b legs = if isK isV (l.map lgPosV) then (if negC legs = 0 then (if shC (l.map lgPosV) a (negL legs) = 0 then shC (shL (l.map lgPosV) a (negL legs)) b legs else shC (l.map lgPosV) a (negL legs)) else negC legs) else 3 := rfl
  have hml : mvL (l.map lgPosV) a b legs = if mvC (l.map lgPosV) a b legs = 0 then shL (shL (l.map lgPosV) a (negL legs)) b legs else [] := rfl
  have hsn := fun h => sh_no (l := shL (l.map lgPosV) a (negL legs)) (u := b) (legs := legs) h
  have CI := Lib.hid ci
  have CN := Lib.hid cn
  have CS := Lib.hid cs
  have CT := Lib.hid ct
  clear ci cn cs ct hib hsl
  generalize mvL (l.map lgPosV) a b legs = R at *
  generalize mvC (l.map lgPosV) a b legs = code at *
  generalize shC (shL (l.map lgPosV) a (negL legs)) b legs = code2 at *
  generalize shL (shL (l.map lgPosV) a (negL legs)) b legs = R2 at *
  generalize shC (l.map lgPosV) a (negL legs) = code1 at *
  generalize shL (l.map lgPosV) a (negL legs) = R1 at *
  generalize isK isV (l.map lgPosV) = ib at *
  generalize negL legs = G at *
  generalize negC legs = cg at *
  clear hr hg hrg h64 hg64
  cases ib
  · simp only [Bool.false_eq_true, if_false] at hmc
    subst hmc
    have HR := Lib.hid (show R = [] from hml)
    clear hml hsn
    go_enter Try.func43, Try.ntmps43
    go_wp2_with (first | (go_at_call 36; (with_reducible refine (CI.out _ (by (repeat' (first | (with_reducible exact Below.refl _ _) | (with_reducible assumption) | (with_reducible refine Below.alloc ?_ ?_ _) | (with_reducible refine Below.setCell ?_ ?_ _) | (with_reducible refine Below.drew ?_) | (with_reducible refine below_drewN ?_ _) | (with_reducible refine below_via ?_ (by with_reducible assumption) ?_) | omega | (simp; done) | (simp; omega))))).mono ?_); rintro e w1 ⟨rfl, hb1⟩; obtain ⟨fc1, fg1, hc1, hf1, hz1⟩ := bget hb1; (try simp at hz1)) | fail)
    go_ret2
    exact ⟨_, [], rfl, HR.out.symm, Own.nil _ _ _ _, fun y hy => absurd hy (by simp), by (repeat' (first | (with_reducible exact Below.refl _ _) | (with_reducible assumption) | (with_reducible refine Below.alloc ?_ ?_ _) | (with_reducible refine Below.setCell ?_ ?_ _) | (with_reducible refine Below.drew ?_) | (with_reducible refine below_drewN ?_ _) | (with_reducible refine below_via ?_ (by with_reducible assumption) ?_) | omega | (simp; done) | (simp; omega)))⟩
  simp only [if_true] at hmc
  cases h1 : (cg == 0)
  · have e1 : (cg != 0) = true := by simp only [bne, h1]; rfl
    have hne : cg ≠ 0 := by simpa using h1
    rw [if_neg hne] at hmc
    subst hmc
    rw [if_neg hne] at hml
    have HR := Lib.hid hml
    clear hml hsn hne
    go_enter Try.func43, Try.ntmps43
    go_wp2_with (first | (go_at_call 36; (with_reducible refine (CI.out _ (by (repeat' (first | (with_reducible exact Below.refl _ _) | (with_reducible assumption) | (with_reducible refine Below.alloc ?_ ?_ _) | (with_reducible refine Below.setCell ?_ ?_ _) | (with_reducible refine Below.drew ?_) | (with_reducible refine below_drewN ?_ _) | (with_reducible refine below_via ?_ (by with_reducible assumption) ?_) | omega | (simp; done) | (simp; omega))))).mono ?_); rintro e w1 ⟨rfl, hb1⟩; obtain ⟨fc1, fg1, hc1, hf1, hz1⟩ := bget hb1; (try simp at hz1)) | (go_at_call 101; (with_reducible refine (CN.out _ (by (repeat' (first | (with_reducible exact Below.refl _ _) | (with_reducible assumption) | (with_reducible refine Below.alloc ?_ ?_ _) | (with_reducible refine Below.setCell ?_ ?_ _) | (with_reducible refine Below.drew ?_) | (with_reducible refine below_drewN ?_ _) | (with_reducible refine below_via ?_ (by with_reducible assumption) ?_) | omega | (simp; done) | (simp; omega))))).mono ?_); rintro e w2 ⟨v2, rfl, hown2, hb2⟩; obtain ⟨A2, c2, hv2, hrs2, hfm2⟩ := hown2.rs; (rw [List.length_map] at hv2); subst hv2; have H2 := Lib.hid hrs2; clear hown2 hrs2 hfm2; obtain ⟨fc2, fg2, hc2, hf2, hz2⟩ := bget hb2; (try simp at hz2)) | fail)
    go_ret2
    exact ⟨_, [], rfl, HR.out.symm, Own.nil _ _ _ _, fun y hy => absurd hy (by simp), by (repeat' (first | (with_reducible exact Below.refl _ _) | (with_reducible assumption) | (with_reducible refine Below.alloc ?_ ?_ _) | (with_reducible refine Below.setCell ?_ ?_ _) | (with_reducible refine Below.drew ?_) | (with_reducible refine below_drewN ?_ _) | (with_reducible refine below_via ?_ (by with_reducible assumption) ?_) | omega | (simp; done) | (simp; omega)))⟩
  have e1 : (cg != 0) = false := by simp only [bne, h1]; rfl
  rw [if_pos (by simpa using h1)] at hmc
  cases h2 : (code1 == 0)
  · have e2 : (code1 != 0) = true := by simp only [bne, h2]; rfl
    have hne : code1 ≠ 0 := by simpa using h2
    rw [if_neg hne] at hmc
    subst hmc
    rw [if_neg hne] at hml
    have HR := Lib.hid hml
    clear hml hsn hne
    go_enter Try.func43, Try.ntmps43
    go_wp2_with (first | (go_at_call 36; (with_reducible refine (CI.out _ (by (repeat' (first | (with_reducible exact Below.refl _ _) | (with_reducible assumption) | (with_reducible refine Below.alloc ?_ ?_ _) | (with_reducible refine Below.setCell ?_ ?_ _) | (with_reducible refine Below.drew ?_) | (with_reducible refine below_drewN ?_ _) | (with_reducible refine below_via ?_ (by with_reducible assumption) ?_) | omega | (simp; done) | (simp; omega))))).mono ?_); rintro e w1 ⟨rfl, hb1⟩; obtain ⟨fc1, fg1, hc1, hf1, hz1⟩ := bget hb1; (try simp at hz1)) | (go_at_call 101; (with_reducible refine (CN.out _ (by (repeat' (first | (with_reducible exact Below.refl _ _) | (with_reducible assumption) | (with_reducible refine Below.alloc ?_ ?_ _) | (with_reducible refine Below.setCell ?_ ?_ _) | (with_reducible refine Below.drew ?_) | (with_reducible refine below_drewN ?_ _) | (with_reducible refine below_via ?_ (by with_reducible assumption) ?_) | omega | (simp; done) | (simp; omega))))).mono ?_); rintro e w2 ⟨v2, rfl, hown2, hb2⟩; obtain ⟨A2, c2, hv2, hrs2, hfm2⟩ := hown2.rs; (rw [List.length_map] at hv2); subst hv2; have H2 := Lib.hid hrs2; clear hown2 hrs2 hfm2; obtain ⟨fc2, fg2, hc2, hf2, hz2⟩ := bget hb2; (try simp at hz2)) | (go_at_call 41; (with_reducible refine (CS.out _ _ _ (by (repeat' (first | (with_reducible exact Below.refl _ _) | (with_reducible assumption) | (with_reducible refine Below.alloc ?_ ?_ _) | (with_reducible refine Below.setCell ?_ ?_ _) | (with_reducible refine Below.drew ?_) | (with_reducible refine below_drewN ?_ _) | (with_reducible refine below_via ?_ (by with_reducible assumption) ?_) | omega | (simp; done) | (simp; omega)))) (H2.out.keep (by (repeat' (first | (with_reducible exact Below.refl _ _) | (with_reducible assumption) | (with_reducible refine Below.alloc ?_ ?_ _) | (with_reducible refine Below.setCell ?_ ?_ _) | (with_reducible refine Below.drew ?_) | (with_reducible refine below_drewN ?_ _) | (with_reducible refine below_via ?_ (by with_reducible assumption) ?_) | omega | (simp; done) | (simp; omega)))))).mono ?_); intro e w3 hp3; obtain ⟨ys, A3, c3, rfl, hlg3, hrs3, hgd3, hb3⟩ := book_rs hp3; have HLG := Lib.hid hlg3; have H3 := Lib.hid hrs3; have HG3 := Lib.hid hgd3; clear hp3 hlg3 hrs3 hgd3; obtain ⟨fc3, fg3, hc3, hf3, hz3⟩ := bget hb3; (try simp at hz3)) | fail)
    go_ret2
    exact ⟨_, [], rfl, HR.out.symm, Own.nil _ _ _ _, fun y hy => absurd hy (by simp), by (repeat' (first | (with_reducible exact Below.refl _ _) | (with_reducible assumption) | (with_reducible refine Below.alloc ?_ ?_ _) | (with_reducible refine Below.setCell ?_ ?_ _) | (with_reducible refine Below.drew ?_) | (with_reducible refine below_drewN ?_ _) | (with_reducible refine below_via ?_ (by with_reducible assumption) ?_) | omega | (simp; done) | (simp; omega)))⟩
  have e2 : (code1 != 0) = false := by simp only [bne, h2]; rfl
  rw [if_pos (by simpa using h2)] at hmc
  subst hmc
  have HR := Lib.hid (show R2 = R from by
    rw [hml]
    by_cases h : code = 0
    · rw [if_pos h]
    · rw [if_neg h, hsn h])
  clear hml hsn
  go_enter Try.func43, Try.ntmps43
  go_wp2_with (first | (go_at_call 36; (with_reducible refine (CI.out _ (by (repeat' (first | (with_reducible exact Below.refl _ _) | (with_reducible assumption) | (with_reducible refine Below.alloc ?_ ?_ _) | (with_reducible refine Below.setCell ?_ ?_ _) | (with_reducible refine Below.drew ?_) | (with_reducible refine below_drewN ?_ _) | (with_reducible refine below_via ?_ (by with_reducible assumption) ?_) | omega | (simp; done) | (simp; omega))))).mono ?_); rintro e w1 ⟨rfl, hb1⟩; obtain ⟨fc1, fg1, hc1, hf1, hz1⟩ := bget hb1; (try simp at hz1)) | (go_at_call 101; (with_reducible refine (CN.out _ (by (repeat' (first | (with_reducible exact Below.refl _ _) | (with_reducible assumption) | (with_reducible refine Below.alloc ?_ ?_ _) | (with_reducible refine Below.setCell ?_ ?_ _) | (with_reducible refine Below.drew ?_) | (with_reducible refine below_drewN ?_ _) | (with_reducible refine below_via ?_ (by with_reducible assumption) ?_) | omega | (simp; done) | (simp; omega))))).mono ?_); rintro e w2 ⟨v2, rfl, hown2, hb2⟩; obtain ⟨A2, c2, hv2, hrs2, hfm2⟩ := hown2.rs; (rw [List.length_map] at hv2); subst hv2; have H2 := Lib.hid hrs2; clear hown2 hrs2 hfm2; obtain ⟨fc2, fg2, hc2, hf2, hz2⟩ := bget hb2; (try simp at hz2)) | (go_at_call 41; (with_reducible refine (CS.out _ _ _ (by (repeat' (first | (with_reducible exact Below.refl _ _) | (with_reducible assumption) | (with_reducible refine Below.alloc ?_ ?_ _) | (with_reducible refine Below.setCell ?_ ?_ _) | (with_reducible refine Below.drew ?_) | (with_reducible refine below_drewN ?_ _) | (with_reducible refine below_via ?_ (by with_reducible assumption) ?_) | omega | (simp; done) | (simp; omega)))) (H2.out.keep (by (repeat' (first | (with_reducible exact Below.refl _ _) | (with_reducible assumption) | (with_reducible refine Below.alloc ?_ ?_ _) | (with_reducible refine Below.setCell ?_ ?_ _) | (with_reducible refine Below.drew ?_) | (with_reducible refine below_drewN ?_ _) | (with_reducible refine below_via ?_ (by with_reducible assumption) ?_) | omega | (simp; done) | (simp; omega)))))).mono ?_); intro e w3 hp3; obtain ⟨ys, A3, c3, rfl, hlg3, hrs3, hgd3, hb3⟩ := book_rs hp3; have HLG := Lib.hid hlg3; have H3 := Lib.hid hrs3; have HG3 := Lib.hid hgd3; clear hp3 hlg3 hrs3 hgd3; obtain ⟨fc3, fg3, hc3, hf3, hz3⟩ := bget hb3; (try simp at hz3)) | (go_at_call 41; (with_reducible refine (CT.out _ _ _ _ (by (repeat' (first | (with_reducible exact Below.refl _ _) | (with_reducible assumption) | (with_reducible refine Below.alloc ?_ ?_ _) | (with_reducible refine Below.setCell ?_ ?_ _) | (with_reducible refine Below.drew ?_) | (with_reducible refine below_drewN ?_ _) | (with_reducible refine below_via ?_ (by with_reducible assumption) ?_) | omega | (simp; done) | (simp; omega)))) HLG.out (H3.out.keep (by (repeat' (first | (with_reducible exact Below.refl _ _) | (with_reducible assumption) | (with_reducible refine Below.alloc ?_ ?_ _) | (with_reducible refine Below.setCell ?_ ?_ _) | (with_reducible refine Below.drew ?_) | (with_reducible refine below_drewN ?_ _) | (with_reducible refine below_via ?_ (by with_reducible assumption) ?_) | omega | (simp; done) | (simp; omega))))).rd (fun y hy => (HG3.out y hy).keep (by (repeat' (first | (with_reducible exact Below.refl _ _) | (with_reducible assumption) | (with_reducible refine Below.alloc ?_ ?_ _) | (with_reducible refine Below.setCell ?_ ?_ _) | (with_reducible refine Below.drew ?_) | (with_reducible refine below_drewN ?_ _) | (with_reducible refine below_via ?_ (by with_reducible assumption) ?_) | omega | (simp; done) | (simp; omega)))))).mono ?_); intro e w4 hp4; obtain ⟨v4, zs, rfl, hlg4, hown4, hgd4, hb4⟩ := hp4; have HLG4 := Lib.hid hlg4; have HO4 := Lib.hid hown4; have HG4 := Lib.hid hgd4; clear hlg4 hown4 hgd4; obtain ⟨fc4, fg4, hc4, hf4, hz4⟩ := bget hb4; (try simp at hz4)) | fail)
  go_ret2
  exact ⟨_, zs, rfl, HLG4.out.trans HR.out, HO4.out.mono (by first | omega | (simp; done) | (simp; omega)), HG4.out, by (repeat' (first | (with_reducible exact Below.refl _ _) | (with_reducible assumption) | (with_reducible refine Below.alloc ?_ ?_ _) | (with_reducible refine Below.setCell ?_ ?_ _) | (with_reducible refine Below.drew ?_) | (with_reducible refine below_drewN ?_ _) | (with_reducible refine below_via ?_ (by with_reducible assumption) ?_) | omega | (simp; done) | (simp; omega)))⟩
set_option maxRecDepth 100000 in
set_option maxHeartbeats 16000000 in
theorem ref19Move (l : List PosV) (a b : Un) (legs : List Leg) (A B : Option Addr) (c d : Nat) (w : World) (hl : l.length ≤ 1000) (hgl : legs.length ≤ 1000000) (h64 : L64 (l.map lgPosV)) (hg64 : Legs64 legs) (hr : Rd w A 3 (l.map encPosV)) (hg : ∀ x ∈ l, GoodPosV w x) (hrg : Rs w 2 (legs.map encLeg) B d) :
    Calls Try.prog 44 #[.slice A l.length c, .agg #[.int .i64 a.acc, .int .i64 a.cli], .agg #[.int .i64 b.acc, .int .i64 b.cli], .slice B legs.length d] w (BookPost w (mvL (l.map lgPosV) a b legs) (mvC (l.map lgPosV) a b legs)) := by
  have ci := fun W (h : Below w.heap.size w W) => refPosVIs l A c W (by omega) (hr.keep h) (fun x hx => (hg x hx).keep h)
  have hib : isPosV l = isK isV (l.map lgPosV) := rfl
  rw [hib] at ci
  have cn := fun W (h : Below w.heap.size w W) => ref11Neg legs B d W (by omega) hg64 (hrg.keep h).rd
  have hnl := negL_len legs
  have cs := fun W B2 d2 (h : Below w.heap.size w W) (hr2 : Rs W 2 ((negL legs).map encLeg) B2 d2) => ref19Shift l a (negL legs) A B2 c d2 W (by omega) (by omega) h64 neg64 (hr.keep h) (fun x hx => (hg x hx).keep h) hr2
  have hsl := shL_len (l.map lgPosV) a (negL legs)
  rw [List.length_map] at hsl
  have ct := fun (ys : List PosV) W A3 c3 (h : Below w.heap.size w W) (hlg : ys.map lgPosV = shL (l.map lgPosV) a (negL legs)) (hr3 : Rd W A3 3 (ys.map encPosV)) (hg3 : ∀ y ∈ ys, GoodPosV W y) => hlg ▸ ref19Shift ys b legs A3 B c3 d W (by have h1 := congrArg List.length hlg; rw [List.length_map] at h1; omega) hgl (by rw [hlg]; exact sh64 h64 a _) hg64 hr3 hg3 (hrg.keep h)
  have hmc : mvC (l.map lgPosV) a b legs = if isK isV (l.map lgPosV) then (if negC legs = 0 then (if shC (l.map lgPosV) a (negL legs) = 0 then shC (shL (l.map lgPosV) a (negL legs)) b legs else shC (l.map lgPosV) a (negL legs)) else negC legs) else 3 := rfl
  have hml : mvL (l.map lgPosV) a b legs = if mvC (l.map lgPosV) a b legs = 0 then shL (shL (l.map lgPosV) a (negL legs)) b legs else [] := rfl
  have hsn := fun h => sh_no (l := shL (l.map lgPosV) a (negL legs)) (u := b) (legs := legs) h
  have CI := Lib.hid ci
  have CN := Lib.hid cn
  have CS := Lib.hid cs
  have CT := Lib.hid ct
  clear ci cn cs ct hib hsl
  generalize mvL (l.map lgPosV) a b legs = R at *
  generalize mvC (l.map lgPosV) a b legs = code at *
  generalize shC (shL (l.map lgPosV) a (negL legs)) b legs = code2 at *
  generalize shL (shL (l.map lgPosV) a (negL legs)) b legs = R2 at *
  generalize shC (l.map lgPosV) a (negL legs) = code1 at *
  generalize shL (l.map lgPosV) a (negL legs) = R1 at *
  generalize isK isV (l.map lgPosV) = ib at *
  generalize negL legs = G at *
  generalize negC legs = cg at *
  clear hr hg hrg h64 hg64
  cases ib
  · simp only [Bool.false_eq_true, if_false] at hmc
    subst hmc
    have HR := Lib.hid (show R = [] from hml)
    clear hml hsn
    go_enter Try.func44, Try.ntmps44
    go_wp2_with (first | (go_at_call 37; (with_reducible refine (CI.out _ (by (repeat' (first | (with_reducible exact Below.refl _ _) | (with_reducible assumption) | (with_reducible refine Below.alloc ?_ ?_ _) | (with_reducible refine Below.setCell ?_ ?_ _) | (with_reducible refine Below.drew ?_) | (with_reducible refine below_drewN ?_ _) | (with_reducible refine below_via ?_ (by with_reducible assumption) ?_) | omega | (simp; done) | (simp; omega))))).mono ?_); rintro e w1 ⟨rfl, hb1⟩; obtain ⟨fc1, fg1, hc1, hf1, hz1⟩ := bget hb1; (try simp at hz1)) | fail)
    go_ret2
    exact ⟨_, [], rfl, HR.out.symm, Own.nil _ _ _ _, fun y hy => absurd hy (by simp), by (repeat' (first | (with_reducible exact Below.refl _ _) | (with_reducible assumption) | (with_reducible refine Below.alloc ?_ ?_ _) | (with_reducible refine Below.setCell ?_ ?_ _) | (with_reducible refine Below.drew ?_) | (with_reducible refine below_drewN ?_ _) | (with_reducible refine below_via ?_ (by with_reducible assumption) ?_) | omega | (simp; done) | (simp; omega)))⟩
  simp only [if_true] at hmc
  cases h1 : (cg == 0)
  · have e1 : (cg != 0) = true := by simp only [bne, h1]; rfl
    have hne : cg ≠ 0 := by simpa using h1
    rw [if_neg hne] at hmc
    subst hmc
    rw [if_neg hne] at hml
    have HR := Lib.hid hml
    clear hml hsn hne
    go_enter Try.func44, Try.ntmps44
    go_wp2_with (first | (go_at_call 37; (with_reducible refine (CI.out _ (by (repeat' (first | (with_reducible exact Below.refl _ _) | (with_reducible assumption) | (with_reducible refine Below.alloc ?_ ?_ _) | (with_reducible refine Below.setCell ?_ ?_ _) | (with_reducible refine Below.drew ?_) | (with_reducible refine below_drewN ?_ _) | (with_reducible refine below_via ?_ (by with_reducible assumption) ?_) | omega | (simp; done) | (simp; omega))))).mono ?_); rintro e w1 ⟨rfl, hb1⟩; obtain ⟨fc1, fg1, hc1, hf1, hz1⟩ := bget hb1; (try simp at hz1)) | (go_at_call 102; (with_reducible refine (CN.out _ (by (repeat' (first | (with_reducible exact Below.refl _ _) | (with_reducible assumption) | (with_reducible refine Below.alloc ?_ ?_ _) | (with_reducible refine Below.setCell ?_ ?_ _) | (with_reducible refine Below.drew ?_) | (with_reducible refine below_drewN ?_ _) | (with_reducible refine below_via ?_ (by with_reducible assumption) ?_) | omega | (simp; done) | (simp; omega))))).mono ?_); rintro e w2 ⟨v2, rfl, hown2, hb2⟩; obtain ⟨A2, c2, hv2, hrs2, hfm2⟩ := hown2.rs; (rw [List.length_map] at hv2); subst hv2; have H2 := Lib.hid hrs2; clear hown2 hrs2 hfm2; obtain ⟨fc2, fg2, hc2, hf2, hz2⟩ := bget hb2; (try simp at hz2)) | fail)
    go_ret2
    exact ⟨_, [], rfl, HR.out.symm, Own.nil _ _ _ _, fun y hy => absurd hy (by simp), by (repeat' (first | (with_reducible exact Below.refl _ _) | (with_reducible assumption) | (with_reducible refine Below.alloc ?_ ?_ _) | (with_reducible refine Below.setCell ?_ ?_ _) | (with_reducible refine Below.drew ?_) | (with_reducible refine below_drewN ?_ _) | (with_reducible refine below_via ?_ (by with_reducible assumption) ?_) | omega | (simp; done) | (simp; omega)))⟩
  have e1 : (cg != 0) = false := by simp only [bne, h1]; rfl
  rw [if_pos (by simpa using h1)] at hmc
  cases h2 : (code1 == 0)
  · have e2 : (code1 != 0) = true := by simp only [bne, h2]; rfl
    have hne : code1 ≠ 0 := by simpa using h2
    rw [if_neg hne] at hmc
    subst hmc
    rw [if_neg hne] at hml
    have HR := Lib.hid hml
    clear hml hsn hne
    go_enter Try.func44, Try.ntmps44
    go_wp2_with (first | (go_at_call 37; (with_reducible refine (CI.out _ (by (repeat' (first | (with_reducible exact Below.refl _ _) | (with_reducible assumption) | (with_reducible refine Below.alloc ?_ ?_ _) | (with_reducible refine Below.setCell ?_ ?_ _) | (with_reducible refine Below.drew ?_) | (with_reducible refine below_drewN ?_ _) | (with_reducible refine below_via ?_ (by with_reducible assumption) ?_) | omega | (simp; done) | (simp; omega))))).mono ?_); rintro e w1 ⟨rfl, hb1⟩; obtain ⟨fc1, fg1, hc1, hf1, hz1⟩ := bget hb1; (try simp at hz1)) | (go_at_call 102; (with_reducible refine (CN.out _ (by (repeat' (first | (with_reducible exact Below.refl _ _) | (with_reducible assumption) | (with_reducible refine Below.alloc ?_ ?_ _) | (with_reducible refine Below.setCell ?_ ?_ _) | (with_reducible refine Below.drew ?_) | (with_reducible refine below_drewN ?_ _) | (with_reducible refine below_via ?_ (by with_reducible assumption) ?_) | omega | (simp; done) | (simp; omega))))).mono ?_); rintro e w2 ⟨v2, rfl, hown2, hb2⟩; obtain ⟨A2, c2, hv2, hrs2, hfm2⟩ := hown2.rs; (rw [List.length_map] at hv2); subst hv2; have H2 := Lib.hid hrs2; clear hown2 hrs2 hfm2; obtain ⟨fc2, fg2, hc2, hf2, hz2⟩ := bget hb2; (try simp at hz2)) | (go_at_call 42; (with_reducible refine (CS.out _ _ _ (by (repeat' (first | (with_reducible exact Below.refl _ _) | (with_reducible assumption) | (with_reducible refine Below.alloc ?_ ?_ _) | (with_reducible refine Below.setCell ?_ ?_ _) | (with_reducible refine Below.drew ?_) | (with_reducible refine below_drewN ?_ _) | (with_reducible refine below_via ?_ (by with_reducible assumption) ?_) | omega | (simp; done) | (simp; omega)))) (H2.out.keep (by (repeat' (first | (with_reducible exact Below.refl _ _) | (with_reducible assumption) | (with_reducible refine Below.alloc ?_ ?_ _) | (with_reducible refine Below.setCell ?_ ?_ _) | (with_reducible refine Below.drew ?_) | (with_reducible refine below_drewN ?_ _) | (with_reducible refine below_via ?_ (by with_reducible assumption) ?_) | omega | (simp; done) | (simp; omega)))))).mono ?_); intro e w3 hp3; obtain ⟨ys, A3, c3, rfl, hlg3, hrs3, hgd3, hb3⟩ := book_rs hp3; have HLG := Lib.hid hlg3; have H3 := Lib.hid hrs3; have HG3 := Lib.hid hgd3; clear hp3 hlg3 hrs3 hgd3; obtain ⟨fc3, fg3, hc3, hf3, hz3⟩ := bget hb3; (try simp at hz3)) | fail)
    go_ret2
    exact ⟨_, [], rfl, HR.out.symm, Own.nil _ _ _ _, fun y hy => absurd hy (by simp), by (repeat' (first | (with_reducible exact Below.refl _ _) | (with_reducible assumption) | (with_reducible refine Below.alloc ?_ ?_ _) | (with_reducible refine Below.setCell ?_ ?_ _) | (with_reducible refine Below.drew ?_) | (with_reducible refine below_drewN ?_ _) | (with_reducible refine below_via ?_ (by with_reducible assumption) ?_) | omega | (simp; done) | (simp; omega)))⟩
  have e2 : (code1 != 0) = false := by simp only [bne, h2]; rfl
  rw [if_pos (by simpa using h2)] at hmc
  subst hmc
  have HR := Lib.hid (show R2 = R from by
    rw [hml]
    by_cases h : code = 0
    · rw [if_pos h]
    · rw [if_neg h, hsn h])
  clear hml hsn
  go_enter Try.func44, Try.ntmps44
  go_wp2_with (first | (go_at_call 37; (with_reducible refine (CI.out _ (by (repeat' (first | (with_reducible exact Below.refl _ _) | (with_reducible assumption) | (with_reducible refine Below.alloc ?_ ?_ _) | (with_reducible refine Below.setCell ?_ ?_ _) | (with_reducible refine Below.drew ?_) | (with_reducible refine below_drewN ?_ _) | (with_reducible refine below_via ?_ (by with_reducible assumption) ?_) | omega | (simp; done) | (simp; omega))))).mono ?_); rintro e w1 ⟨rfl, hb1⟩; obtain ⟨fc1, fg1, hc1, hf1, hz1⟩ := bget hb1; (try simp at hz1)) | (go_at_call 102; (with_reducible refine (CN.out _ (by (repeat' (first | (with_reducible exact Below.refl _ _) | (with_reducible assumption) | (with_reducible refine Below.alloc ?_ ?_ _) | (with_reducible refine Below.setCell ?_ ?_ _) | (with_reducible refine Below.drew ?_) | (with_reducible refine below_drewN ?_ _) | (with_reducible refine below_via ?_ (by with_reducible assumption) ?_) | omega | (simp; done) | (simp; omega))))).mono ?_); rintro e w2 ⟨v2, rfl, hown2, hb2⟩; obtain ⟨A2, c2, hv2, hrs2, hfm2⟩ := hown2.rs; (rw [List.length_map] at hv2); subst hv2; have H2 := Lib.hid hrs2; clear hown2 hrs2 hfm2; obtain ⟨fc2, fg2, hc2, hf2, hz2⟩ := bget hb2; (try simp at hz2)) | (go_at_call 42; (with_reducible refine (CS.out _ _ _ (by (repeat' (first | (with_reducible exact Below.refl _ _) | (with_reducible assumption) | (with_reducible refine Below.alloc ?_ ?_ _) | (with_reducible refine Below.setCell ?_ ?_ _) | (with_reducible refine Below.drew ?_) | (with_reducible refine below_drewN ?_ _) | (with_reducible refine below_via ?_ (by with_reducible assumption) ?_) | omega | (simp; done) | (simp; omega)))) (H2.out.keep (by (repeat' (first | (with_reducible exact Below.refl _ _) | (with_reducible assumption) | (with_reducible refine Below.alloc ?_ ?_ _) | (with_reducible refine Below.setCell ?_ ?_ _) | (with_reducible refine Below.drew ?_) | (with_reducible refine below_drewN ?_ _) | (with_reducible refine below_via ?_ (by with_reducible assumption) ?_) | omega | (simp; done) | (simp; omega)))))).mono ?_); intro e w3 hp3; obtain ⟨ys, A3, c3, rfl, hlg3, hrs3, hgd3, hb3⟩ := book_rs hp3; have HLG := Lib.hid hlg3; have H3 := Lib.hid hrs3; have HG3 := Lib.hid hgd3; clear hp3 hlg3 hrs3 hgd3; obtain ⟨fc3, fg3, hc3, hf3, hz3⟩ := bget hb3; (try simp at hz3)) | (go_at_call 42; (with_reducible refine (CT.out _ _ _ _ (by (repeat' (first | (with_reducible exact Below.refl _ _) | (with_reducible assumption) | (with_reducible refine Below.alloc ?_ ?_ _) | (with_reducible refine Below.setCell ?_ ?_ _) | (with_reducible refine Below.drew ?_) | (with_reducible refine below_drewN ?_ _) | (with_reducible refine below_via ?_ (by with_reducible assumption) ?_) | omega | (simp; done) | (simp; omega)))) HLG.out (H3.out.keep (by (repeat' (first | (with_reducible exact Below.refl _ _) | (with_reducible assumption) | (with_reducible refine Below.alloc ?_ ?_ _) | (with_reducible refine Below.setCell ?_ ?_ _) | (with_reducible refine Below.drew ?_) | (with_reducible refine below_drewN ?_ _) | (with_reducible refine below_via ?_ (by with_reducible assumption) ?_) | omega | (simp; done) | (simp; omega))))).rd (fun y hy => (HG3.out y hy).keep (by (repeat' (first | (with_reducible exact Below.refl _ _) | (with_reducible assumption) | (with_reducible refine Below.alloc ?_ ?_ _) | (with_reducible refine Below.setCell ?_ ?_ _) | (with_reducible refine Below.drew ?_) | (with_reducible refine below_drewN ?_ _) | (with_reducible refine below_via ?_ (by with_reducible assumption) ?_) | omega | (simp; done) | (simp; omega)))))).mono ?_); intro e w4 hp4; obtain ⟨v4, zs, rfl, hlg4, hown4, hgd4, hb4⟩ := hp4; have HLG4 := Lib.hid hlg4; have HO4 := Lib.hid hown4; have HG4 := Lib.hid hgd4; clear hlg4 hown4 hgd4; obtain ⟨fc4, fg4, hc4, hf4, hz4⟩ := bget hb4; (try simp at hz4)) | fail)
  go_ret2
  exact ⟨_, zs, rfl, HLG4.out.trans HR.out, HO4.out.mono (by first | omega | (simp; done) | (simp; omega)), HG4.out, by (repeat' (first | (with_reducible exact Below.refl _ _) | (with_reducible assumption) | (with_reducible refine Below.alloc ?_ ?_ _) | (with_reducible refine Below.setCell ?_ ?_ _) | (with_reducible refine Below.drew ?_) | (with_reducible refine below_drewN ?_ _) | (with_reducible refine below_via ?_ (by with_reducible assumption) ?_) | omega | (simp; done) | (simp; omega)))⟩
theorem rowsWB (l : List Int) : ∀ r ∈ l.map encW, r.length = 2 ∧ ∀ u ∈ r, u.oneCell' = true := by
  intro r hr
  obtain ⟨m, _, rfl⟩ := List.mem_map.1 hr
  refine ⟨rfl, ?_⟩
  simp only [encW, List.mem_cons, List.not_mem_nil, or_false, forall_eq_or_imp, forall_eq]
  exact ⟨rfl, rfl⟩
/-- How much each has of an instrument. -/
def getsP (i : Int) (l : List PosV) : List Int := l.map fun x => getF i x.legs.val
theorem getsP_sum (i : Int) (l : List PosV) : (getsP i l).sum = sumK (getF i) (l.map lgPosV) := by
  unfold getsP sumK
  rw [List.map_map]; rfl
theorem sum64 : ∀ {l : List Int} (_ : ∀ z ∈ l, In64 z), -9223372036854775808 * (l.length : Int) ≤ l.sum ∧ l.sum ≤ 9223372036854775807 * (l.length : Int)
  | [], _ => by simp
  | a :: t, h => by
    have h1 := sum64 (l := t) (fun z hz => h z (by simp [hz]))
    have h2 := h a (by simp)
    unfold In64 at h2
    simp only [List.sum_cons, List.length_cons]
    omega
theorem gets64 {l : List PosV} (h : L64 (l.map lgPosV)) (i : Int) : ∀ z ∈ getsP i l, In64 z := by
  intro z hz
  obtain ⟨x, hx, rfl⟩ := List.mem_map.1 hz
  exact get64 (h (lgPosV x) (List.mem_map.2 ⟨x, hx, rfl⟩))
theorem open_in {l : List PosV} (h : L64 (l.map lgPosV)) (hl : l.length ≤ 2000) (i : Int) : In128 (sumK (getF i) (l.map lgPosV)) := by
  have h1 := sum64 (gets64 h i)
  have h2 : (getsP i l).length = l.length := by simp [getsP]
  rw [getsP_sum] at h1
  unfold In128
  omega
set_option maxRecDepth 100000 in
set_option maxHeartbeats 8000000 in
theorem bookOpen (l : List PosV) (a : Int) (A : Option Addr) (c : Nat) (w : World) (hl : l.length ≤ 2000) (h64 : L64 (l.map lgPosV)) (hr : Rd w A 3 (l.map encPosV)) (hg : ∀ x ∈ l, GoodPosV w x) :
    Calls Try.prog 47 #[.slice A l.length c, .int .i64 a] w fun e w' => e = .returned (.agg #[.int .i64 (whi (sumK (getF a) (l.map lgPosV))), .int .u64 (wlo (sumK (getF a) (l.map lgPosV)))]) ∧ Below w.heap.size w w' := by
  have HR := Lib.hid hr
  have HG := Lib.hid hg
  have HS := Lib.hid (getsP_sum a l)
  have H128 := Lib.hid (open_in h64 hl a)
  have H64 := Lib.hid (gets64 h64 a)
  generalize sumK (getF a) (l.map lgPosV) = S at *
  clear hr hg h64
  go_enter Try.func47, Try.ntmps47
  go_wp2_with fail
  go_loopw [5, 12] (fun v i wr => ∃ k : Nat, k ≤ l.length ∧ i = .int .i64 k ∧ Own wr (w.heap.size + 1) 28 2 v ((getsP a (l.take k)).map encW) ∧ Below w.heap.size w wr ∧ w.heap.size < wr.heap.size ∧ (wr.cell? ⟨w.heap.size, 0, none⟩ = some (.int .i64 0) ∧ wr.cell? ⟨w.heap.size, 1, none⟩ = some (.int .u64 0)) ∧ wr.frozen? ⟨w.heap.size, 0, none⟩ = false ∧ wr.frozen? ⟨w.heap.size, 1, none⟩ = false) (fun _ i _ => l.length - (intOf i).toNat)
  case atStart => exact ⟨0, Nat.zero_le _, rfl, Own.nil _ _ _ _, by (repeat' (first | (with_reducible exact Below.refl _ _) | (with_reducible assumption) | (with_reducible refine Below.alloc ?_ ?_ _) | (with_reducible refine Below.setCell ?_ ?_ _) | (with_reducible refine Below.drew ?_) | (with_reducible refine below_drewN ?_ _) | (with_reducible refine below_via ?_ (by with_reducible assumption) ?_) | omega | (simp; done) | (simp; omega))), by simp, by simp [go_sem], by simp [go_sem]⟩
  case round =>
    obtain ⟨k, hk, rfl, hown, hbl, hsz, ⟨z0, z1⟩, y0, y1⟩ := hrel
    have Hown := Lib.hid hown
    have Hbl := Lib.hid hbl
    have hz := hbl.size
    clear hown hbl
    by_cases hlt : k < l.length
    · have kl : (k : Int) < (l.length : Int) := by omega
      have dl : decide ((k : Int) < (l.length : Int)) = true := by simpa using hlt
      obtain ⟨b, o, rfl, hb, hc⟩ := HR.out k (encPosV l[k]) (by simp [hlt])
      have e0 := (Hbl.out.cell (p := ⟨b, o + k * 3 + 0, none⟩) hb).trans (hc 0 _ rfl)
      have e1 := (Hbl.out.cell (p := ⟨b, o + k * 3 + 1, none⟩) hb).trans (hc 1 _ rfl)
      have e2 := (Hbl.out.cell (p := ⟨b, o + k * 3 + 2, none⟩) hb).trans (hc 2 _ rfl)
      simp only [Nat.add_zero] at e0
      clear hc
      have hbw : b < wr.heap.size := by omega
      have hgk := HG.out l[k] (List.getElem_mem hlt)
      have hli := hgk.1
      have HGK := Lib.hid (hgk.2.keep Hbl.out)
      have hlen : (getsP a (l.take k)).length ≤ 2000 := by simp [getsP]; omega
      obtain ⟨n, hn⟩ : ∃ n, n = getF a l[k].legs.val := ⟨_, rfl⟩
      have hn64 := H64.out n (by rw [hn]; exact List.mem_map.2 ⟨l[k], List.getElem_mem hlt, rfl⟩)
      have HN := Lib.hid (show getsP a (l.take (k + 1)) = getsP a (l.take k) ++ [n] from by unfold getsP; rw [map_snoc hlt, hn])
      have CV := Lib.hid (fun W (h : Rd W l[k].legs.A 2 (l[k].legs.val.map encLeg)) => hn ▸ vecGet l[k].legs.val a l[k].legs.A l[k].legs.c W (by omega) h)
      have CO := Lib.hid (fun W => wideOf n W hn64)
      clear hgk hn hn64
      generalize getsP a (l.take k) = z at *
      go_wp2_with (first | (go_at_call 104; (with_reducible refine (CV.out _ (HGK.out.keep (by (repeat' (first | (with_reducible exact Below.refl _ _) | (with_reducible assumption) | (with_reducible refine Below.alloc ?_ ?_ _) | (with_reducible refine Below.setCell ?_ ?_ _) | (with_reducible refine Below.drew ?_) | (with_reducible refine below_drewN ?_ _) | (with_reducible refine below_via ?_ (by with_reducible assumption) ?_) | omega | (simp; done) | (simp; omega))))).rd).mono ?_); rintro e w2 ⟨rfl, hb2⟩; obtain ⟨fc2, fg2, hc2, hf2, hz2⟩ := bget hb2; (try simp at hz2)) | (go_at_call 103; (with_reducible refine (CO.out _).mono ?_); rintro e w1 ⟨rfl, hb1⟩; obtain ⟨fc1, fg1, hc1, hf1, hz1⟩ := bget hb1; (try simp at hz1)) | (at_builtin; refine wpList_app rfl _ _ _ rfl elW (w.heap.size + 1) _ _ rfl ((Hown.out.keep (by (repeat' (first | (with_reducible exact Below.refl _ _) | (with_reducible assumption) | (with_reducible refine Below.alloc ?_ ?_ _) | (with_reducible refine Below.setCell ?_ ?_ _) | (with_reducible refine Below.drew ?_) | (with_reducible refine below_drewN ?_ _) | (with_reducible refine below_via ?_ (by with_reducible assumption) ?_) | omega | (simp; done) | (simp; omega))))).alloc _) (some ⟨_, 0, none⟩) 1 1 rfl [encW n] rfl (fun h => by cases h) (rd_oneN (by simp)) (rowsWB [n]) (by unfold maxLen; first | (simp; done) | omega | (simp; omega)) (by first | (simp; done) | omega | (simp; omega)) (by first | omega | (simp; done) | (simp; omega)) ?_; intro v3 w3 hown3 hb3; obtain ⟨fc3, fg3, hc3, hf3, hz3⟩ := bget hb3; (try simp at hz3)) | fail)
      go_roundw
      case rel => exact ⟨k + 1, by omega, by go_num, by rw [HN.out, List.map_append]; exact hown3, by have hbl := Hbl.out; (repeat' (first | (with_reducible exact Below.refl _ _) | (with_reducible assumption) | (with_reducible refine Below.alloc ?_ ?_ _) | (with_reducible refine Below.setCell ?_ ?_ _) | (with_reducible refine Below.drew ?_) | (with_reducible refine below_drewN ?_ _) | (with_reducible refine below_via ?_ (by with_reducible assumption) ?_) | omega | (simp; done) | (simp; omega))), by first | omega | (simp at hz3; omega), by simp [hc3, hc2, hc1, go_sem, z0, z1, hsz, ↓IntWalk.iteOmega], by simp [hf3, hf2, hf1, go_sem, y0, y1, hsz, ↓IntWalk.iteOmega]⟩
      case measure => simp [intOf]; omega
    · have dl : decide ((k : Int) < (l.length : Int)) = false := by simpa using hlt
      have HT := Lib.hid (show l.take k = l from List.take_of_length_le (by omega))
      have hown := Hown.out
      rw [HT.out] at hown
      obtain ⟨A9, c9, hv9, hrs9, _⟩ := hown.rs
      rw [List.length_map] at hv9
      subst hv9
      have CA := Lib.hid (fun W (h : Below wr.heap.size wr W) => HS.out ▸ wideAddYes (getsP a l) A9 c9 W (by simp [getsP]; omega) (fun z hz => by have := H64.out z hz; unfold In64 at this; unfold In128; omega) (hrs9.keep h).rd (by rw [HS.out]; exact H128.out))
      clear hown hrs9
      generalize getsP a l = z at *
      go_wp2_with (first | (go_at_call 74; (with_reducible refine (CA.out _ (by (repeat' (first | (with_reducible exact Below.refl _ _) | (with_reducible assumption) | (with_reducible refine Below.alloc ?_ ?_ _) | (with_reducible refine Below.setCell ?_ ?_ _) | (with_reducible refine Below.drew ?_) | (with_reducible refine below_drewN ?_ _) | (with_reducible refine below_via ?_ (by with_reducible assumption) ?_) | omega | (simp; done) | (simp; omega))))).mono ?_); rintro e w1 ⟨rfl, hb1⟩; obtain ⟨fc1, fg1, hc1, hf1, hz1⟩ := bget hb1; (try simp at hz1)) | fail)
      have hbl := Hbl.out
      refine bodyPost_ret (by simp [results, Try.results47, go_sem, hc1, z0, z1, hsz, ↓IntWalk.iteOmega]; try rfl) rfl ⟨rfl, ?_⟩
      (repeat' (first | (with_reducible exact Below.refl _ _) | (with_reducible assumption) | (with_reducible refine Below.alloc ?_ ?_ _) | (with_reducible refine Below.setCell ?_ ?_ _) | (with_reducible refine Below.drew ?_) | (with_reducible refine below_drewN ?_ _) | (with_reducible refine below_via ?_ (by with_reducible assumption) ?_) | omega | (simp; done) | (simp; omega)))
/-- Whether the first n instruments are nothing together. -/
def balN (L : List (Row Leg)) : Nat → Bool
  | 0 => true
  | n + 1 => balN L n && decide (sumK (getF ((n : Int) + 1)) L = 0)
def bal (L : List (Row Leg)) : Bool := balN L 8
theorem bal_no {L : List (Row Leg)} {n : Nat} (h : sumK (getF ((n : Int) + 1)) L ≠ 0) : ∀ m, n < m → balN L m = false
  | 0, hm => by omega
  | m + 1, hm => by
    rcases Nat.lt_or_ge n m with h1 | h1
    · unfold balN; rw [bal_no h m h1]; rfl
    · obtain rfl : n = m := by omega
      unfold balN; rw [decide_eq_false h, Bool.and_false]
theorem bal_eq {L M : List (Row Leg)} (h : ∀ i : Int, 1 ≤ i → i ≤ 8 → sumK (getF i) L = sumK (getF i) M) : bal L = bal M := by
  have : ∀ n, n ≤ 8 → balN L n = balN M n := by
    intro n
    induction n with
    | zero => intro _; rfl
    | succ n ih => intro hn; unfold balN; rw [ih (by omega), h _ (by omega) (by omega)]
  exact this 8 (Nat.le_refl _)
set_option maxRecDepth 100000 in
set_option maxHeartbeats 8000000 in
theorem bookBalanced (l : List PosV) (A : Option Addr) (c : Nat) (w : World) (hl : l.length ≤ 2000) (h64 : L64 (l.map lgPosV)) (hr : Rd w A 3 (l.map encPosV)) (hg : ∀ x ∈ l, GoodPosV w x) :
    Calls Try.prog 48 #[.slice A l.length c] w fun e w' => e = .returned (.bool (bal (l.map lgPosV))) ∧ Below w.heap.size w w' := by
  have CO := Lib.hid (fun W (h : Below w.heap.size w W) i => bookOpen l i A c W hl h64 (hr.keep h) (fun x hx => (hg x hx).keep h))
  have H128 := Lib.hid (fun i => open_in h64 hl i)
  have HB0 := Lib.hid (show bal (l.map lgPosV) = balN (l.map lgPosV) 8 from rfl)
  generalize l.map lgPosV = L at *
  clear hl h64 hr hg
  go_enter Try.func48, Try.ntmps48
  go_wp2_with fail
  go_loopw [3] (fun i wr => ∃ j : Nat, j ≤ 8 ∧ i = .int .i64 ((j : Int) + 1) ∧ balN L j = true ∧ Below w.heap.size w wr) (fun i _ => 9 - (intOf i).toNat)
  case atStart => exact ⟨0, Nat.zero_le _, rfl, rfl, by (repeat' (first | (with_reducible exact Below.refl _ _) | (with_reducible assumption) | (with_reducible refine Below.alloc ?_ ?_ _) | (with_reducible refine Below.setCell ?_ ?_ _) | (with_reducible refine Below.drew ?_) | (with_reducible refine below_drewN ?_ _) | (with_reducible refine below_via ?_ (by with_reducible assumption) ?_) | omega | (simp; done) | (simp; omega)))⟩
  case round =>
    obtain ⟨j, hj, rfl, hbn, hbl⟩ := hrel
    have Hbn := Lib.hid hbn
    have Hbl := Lib.hid hbl
    have hz := hbl.size
    clear hbn hbl
    by_cases h8 : j < 8
    · have d8 : decide ((j : Int) + 1 ≤ 8) = true := by simp; omega
      have hnx : balN L (j + 1) = (balN L j && decide (sumK (getF ((j : Int) + 1)) L = 0)) := rfl
      have hbo := fun h => bal_no (L := L) (n := j) h 8 h8
      have CJ := Lib.hid (fun W (h : Below w.heap.size w W) => CO.out W h ((j : Int) + 1))
      have CS := Lib.hid (fun W => wideSign (sumK (getF ((j : Int) + 1)) L) W (H128.out _))
      generalize sumK (getF ((j : Int) + 1)) L = S at *
      by_cases hS : S = 0
      · have HO := Lib.hid (show ord S 0 = 0 from by rw [hS]; rfl)
        have HN := Lib.hid (show balN L (j + 1) = true from by rw [hnx, Hbn.out, hS]; rfl)
        clear hnx hbo hS
        go_wp2_with (first | (go_at_call 47; (with_reducible refine (CJ.out _ (by have hbl := Hbl.out; (repeat' (first | (with_reducible exact Below.refl _ _) | (with_reducible assumption) | (with_reducible refine Below.alloc ?_ ?_ _) | (with_reducible refine Below.setCell ?_ ?_ _) | (with_reducible refine Below.drew ?_) | (with_reducible refine below_drewN ?_ _) | (with_reducible refine below_via ?_ (by with_reducible assumption) ?_) | omega | (simp; done) | (simp; omega))))).mono ?_); rintro e w1 ⟨rfl, hb1⟩; obtain ⟨fc1, fg1, hc1, hf1, hz1⟩ := bget hb1; (try simp at hz1)) | (go_at_call 105; (with_reducible refine (CS.out _).mono ?_); rw [HO.out]; rintro e w2 ⟨rfl, hb2⟩; obtain ⟨fc2, fg2, hc2, hf2, hz2⟩ := bget hb2; (try simp at hz2)) | fail)
        go_roundw
        case rel => exact ⟨j + 1, by omega, by go_num, HN.out, by have hbl := Hbl.out; (repeat' (first | (with_reducible exact Below.refl _ _) | (with_reducible assumption) | (with_reducible refine Below.alloc ?_ ?_ _) | (with_reducible refine Below.setCell ?_ ?_ _) | (with_reducible refine Below.drew ?_) | (with_reducible refine below_drewN ?_ _) | (with_reducible refine below_via ?_ (by with_reducible assumption) ?_) | omega | (simp; done) | (simp; omega)))⟩
        case measure => simp [intOf]; omega
      · obtain ⟨oo, ho⟩ : ∃ oo, ord S 0 = oo := ⟨_, rfl⟩
        have d0 : (oo == 0) = false := by rw [← ho]; unfold ord; split <;> first | rfl | (split; rfl; omega)
        have HO := Lib.hid ho
        have HN := Lib.hid (hbo hS)
        clear hnx hbo hS ho
        go_wp2_with (first | (go_at_call 47; (with_reducible refine (CJ.out _ (by have hbl := Hbl.out; (repeat' (first | (with_reducible exact Below.refl _ _) | (with_reducible assumption) | (with_reducible refine Below.alloc ?_ ?_ _) | (with_reducible refine Below.setCell ?_ ?_ _) | (with_reducible refine Below.drew ?_) | (with_reducible refine below_drewN ?_ _) | (with_reducible refine below_via ?_ (by with_reducible assumption) ?_) | omega | (simp; done) | (simp; omega))))).mono ?_); rintro e w1 ⟨rfl, hb1⟩; obtain ⟨fc1, fg1, hc1, hf1, hz1⟩ := bget hb1; (try simp at hz1)) | (go_at_call 105; (with_reducible refine (CS.out _).mono ?_); rw [HO.out]; rintro e w2 ⟨rfl, hb2⟩; obtain ⟨fc2, fg2, hc2, hf2, hz2⟩ := bget hb2; (try simp at hz2)) | fail)
        go_ret
        exact ⟨by rw [HB0.out, HN.out]; rfl, by have hbl := Hbl.out; (repeat' (first | (with_reducible exact Below.refl _ _) | (with_reducible assumption) | (with_reducible refine Below.alloc ?_ ?_ _) | (with_reducible refine Below.setCell ?_ ?_ _) | (with_reducible refine Below.drew ?_) | (with_reducible refine below_drewN ?_ _) | (with_reducible refine below_via ?_ (by with_reducible assumption) ?_) | omega | (simp; done) | (simp; omega)))⟩
    · obtain rfl : j = 8 := by omega
      go_wp2_with fail
      go_ret
      exact ⟨by rw [HB0.out, Hbn.out]; rfl, by have hbl := Hbl.out; (repeat' (first | (with_reducible exact Below.refl _ _) | (with_reducible assumption) | (with_reducible refine Below.alloc ?_ ?_ _) | (with_reducible refine Below.setCell ?_ ?_ _) | (with_reducible refine Below.drew ?_) | (with_reducible refine below_drewN ?_ _) | (with_reducible refine below_via ?_ (by with_reducible assumption) ?_) | omega | (simp; done) | (simp; omega)))⟩
end Go.Proofs.Ytiidplinmempcaa
