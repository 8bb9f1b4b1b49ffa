/- Joined: Bigs, Ref11a, Ref11b, Ref11c. -/
import Derived.Test.YtiidplinmempcaaJz8
import Derived.Test.YtiidplinmempcaaJz1
import Derived.Test.YtiidplinmempcaaJz4
import Derived.Test.YtiidplinmempcaaJz5
import Derived.Outline
import Derived.Deep.RegionWith
/- Slices of the reference's whole numbers, read or owned. -/
namespace Go.Proofs.Ytiidplinmempcaa
open Go.RowKit
/-- A value that is a whole number. -/
def BigV (w : World) (L : Nat) (v : Value) (n : Int) : Prop := ∃ s A l c, v = .agg #[.bool s, .slice A l.length c] ∧ IsBig w n s A l c ∧ l.length ≤ L
theorem BigV.keep {w w' : World} {L : Nat} {v : Value} {n : Int} (h : BigV w L v n) (hb : Below w.heap.size w w') : BigV w' L v n := by
  obtain ⟨s, A, l, c, h1, h2, h3⟩ := h
  exact ⟨s, A, l, c, h1, h2.keep hb, h3⟩
theorem BigV.mono {w : World} {L M : Nat} {v : Value} {n : Int} (h : BigV w L v n) (hL : L ≤ M) : BigV w M v n := by
  obtain ⟨s, A, l, c, h1, h2, h3⟩ := h
  exact ⟨s, A, l, c, h1, h2, by omega⟩
theorem isBig_zero (w : World) : IsBig w 0 false none [] 0 := ⟨fun i r hr => by simp at hr, bit_nil, top_nil, rfl, by simp, by simp, rfl⟩
theorem BigV.zero (w : World) (L : Nat) : BigV w L (.agg #[.bool false, .slice none 0 0]) 0 := ⟨false, none, [], 0, rfl, isBig_zero w, by simp⟩
/-- Two cells that hold a whole number. -/
def BigR (w : World) (L : Nat) (r : List Value) (n : Int) : Prop := ∃ s A l c, r = [.bool s, .slice A l.length c] ∧ IsBig w n s A l c ∧ l.length ≤ L
theorem BigR.keep {w w' : World} {L : Nat} {v : List Value} {n : Int} (h : BigR w L v n) (hb : Below w.heap.size w w') : BigR w' L v n := by
  obtain ⟨s, A, l, c, h1, h2, h3⟩ := h
  exact ⟨s, A, l, c, h1, h2.keep hb, h3⟩
theorem BigR.mono {w : World} {L M : Nat} {v : List Value} {n : Int} (h : BigR w L v n) (hL : L ≤ M) : BigR w M v n := by
  obtain ⟨s, A, l, c, h1, h2, h3⟩ := h
  exact ⟨s, A, l, c, h1, h2, by omega⟩
theorem BigR.far {w : World} {L : Nat} {r : List Value} {n : Int} (h : BigR w L r n) {p : Addr} {v0 : Value} (hp : w.cell? p = some v0) (hne : ∀ k x, v0 ≠ .int k x) (u : Value) : BigR (w.setCell p u) L r n := by
  obtain ⟨s, A, l, c, h1, h2, h3⟩ := h
  exact ⟨s, A, l, c, h1, h2.far hp hne u, h3⟩
/-- A slice of the call's own of whole numbers. -/
def OwnB (w : World) (base L : Nat) (v : Value) (ns : List Int) : Prop := ∃ rows, Each (BigR w L) rows ns ∧ Own w base 34 2 v rows
theorem OwnB.keep {w w' : World} {base L : Nat} {v : Value} {ns : List Int} (h : OwnB w base L v ns) (hb : Below w.heap.size w w') : OwnB w' base L v ns := by
  obtain ⟨rows, h1, h2⟩ := h
  exact ⟨rows, h1.imp fun _ _ h => h.keep hb, h2.keep hb⟩
theorem OwnB.mono {w : World} {base b L M : Nat} {v : Value} {ns : List Int} (h : OwnB w base L v ns) (hb : b ≤ base) (hL : L ≤ M) : OwnB w b M v ns := by
  obtain ⟨rows, h1, h2⟩ := h
  exact ⟨rows, h1.imp fun _ _ h => h.mono hL, h2.mono hb⟩
theorem OwnB.at {w : World} {base L : Nat} {g n c : Nat} {ns : List Int} (h : OwnB w base L (.slice (some ⟨g, 0, none⟩) n c) ns) {i : Nat} {x : Int} (hx : ns[i]? = some x) :
    ∃ s A l d, w.cell? ⟨g, i * 2, none⟩ = some (.bool s) ∧ w.cell? ⟨g, i * 2 + 1, none⟩ = some (.slice A l.length d) ∧ IsBig w x s A l d ∧ l.length ≤ L := by
  obtain ⟨rows, h1, h2⟩ := h
  obtain ⟨hi, rfl⟩ := List.getElem?_eq_some_iff.1 hx
  obtain ⟨r, hr, s, A, l, d, rfl, hB, hl⟩ := h1.get hi
  obtain ⟨b, o, hA, hb, hc⟩ := h2.rd.1 i _ hr
  injection hA with hA
  injection hA with e1 e2 _
  subst e1 e2
  have c0 := hc 0 _ rfl
  have c1 := hc 1 _ rfl
  simp only [Nat.zero_add, Nat.add_zero] at c0 c1
  exact ⟨s, A, l, d, c0, c1, hB, hl⟩
theorem OwnB.len {w : World} {base L : Nat} {A : Option Addr} {n c : Nat} {ns : List Int} (h : OwnB w base L (.slice A n c) ns) : n = ns.length ∧ n ≤ c ∧ c ≤ maxLen := by
  obtain ⟨rows, h1, h2⟩ := h
  have h3 := h2.rd
  exact ⟨h3.2.1.trans h1.len, by omega, h3.2.2.2⟩
theorem OwnB.frozen {w : World} {base L : Nat} {g n c : Nat} {ns : List Int} (h : OwnB w base L (.slice (some ⟨g, 0, none⟩) n c) ns) : (∀ i, w.frozen? ⟨g, i, none⟩ = false) ∧ base ≤ g ∧ g < w.heap.size := by
  obtain ⟨rows, h1, h2⟩ := h
  obtain ⟨cur, hk⟩ := h2.blk rfl
  have h3 := h2.block g rfl
  exact ⟨fun i => hk.frozen i, h3⟩
/-- A store of a whole number at place i. -/
theorem OwnB.store {w : World} {base L M : Nat} {g n c : Nat} {ns : List Int} (h : OwnB w base L (.slice (some ⟨g, 0, none⟩) n c) ns) {i : Nat} (hi : i < ns.length) {s : Bool} {A : Option Addr} {l : List Int} {d : Nat} {x : Int} (hB : IsBig w x s A l d) (hl : l.length ≤ M) (hL : L ≤ M) :
    OwnB ((w.setCell ⟨g, i * 2, none⟩ (.bool s)).setCell ⟨g, i * 2 + 1, none⟩ (.slice A l.length d)) base M (.slice (some ⟨g, 0, none⟩) n c) (ns.set i x) := by
  obtain ⟨s0, A0, l0, d0, c0, c1, _, _⟩ := h.at (List.getElem?_eq_getElem hi)
  obtain ⟨rows, h1, h2⟩ := h
  have hi' : i < rows.length := by rw [h1.len]; exact hi
  have hr := h2.1 _ (List.getElem_mem hi')
  obtain ⟨p, q, he⟩ : ∃ p q, rows[i] = [p, q] := by
    match h4 : rows[i], hr with
    | [p, q], _ => exact ⟨p, q, rfl⟩
  have k1 := h2.put rfl (List.getElem?_eq_getElem hi') (show 0 < 2 from by omega) (.bool s)
  have k2 := k1.put rfl (List.getElem?_set_self (by simpa using hi')) (show 1 < 2 from by omega) (.slice A l.length d)
  simp only [List.set_set, he, List.set_cons_zero, List.set_cons_succ, Nat.add_zero] at k2
  have c1' : (w.setCell ⟨g, i * 2, none⟩ (.bool s)).cell? ⟨g, i * 2 + 1, none⟩ = some (.slice A0 l0.length d0) := by
    rw [World.cell?_setCell_other _ _ _ _ (by intro e; injection e with _ e _; omega)]; exact c1
  refine ⟨_, ⟨by rw [List.length_set, List.length_set, h1.len], fun j a b ha hb => ?_⟩, k2⟩
  rw [List.getElem?_set] at ha hb
  split at ha
  · rename_i e
    subst e
    try rw [if_pos hi'] at ha
    rw [if_pos rfl, if_pos hi] at hb
    injection ha with ha
    injection hb with hb
    subst ha hb
    exact ⟨s, A, l, d, rfl, (hB.far c0 (by simp) _).far c1' (by simp) _, hl⟩
  · rename_i e
    rw [if_neg e] at hb
    exact (((h1.pt j a b ha hb).far c0 (by simp) _).far c1' (by simp) _).mono hL
/-- Noughts, made as a literal. -/
theorem ownB_zeros (w : World) (n : Nat) (hn : n ≤ maxLen) (cs : Array Value) (hcs : cs = ((List.replicate n [Value.bool false, .slice none 0 0]).flatten).toArray) {base : Nat} (hb : base ≤ w.heap.size) (L : Nat) :
    OwnB (w.alloc (.cells cs 34)) base L (.slice (some ⟨w.heap.size, 0, none⟩) n n) (List.replicate n 0) := by
  have hall : ∀ r ∈ List.replicate n [Value.bool false, .slice none 0 0], r.length = 2 := by
    intro r hr; rw [List.eq_of_mem_replicate hr]; rfl
  refine ⟨List.replicate n [.bool false, .slice none 0 0], ⟨by simp, fun i a b h1 h2 => ?_⟩, hall, ?_, .inr ⟨w.heap.size, n, cs, by simp, hb, heap_alloc_new w _, by simp, hn, ?_, ?_⟩⟩
  · have e1 := List.eq_of_mem_replicate (List.mem_of_getElem? h1)
    have e2 := List.eq_of_mem_replicate (List.mem_of_getElem? h2)
    subst e1 e2
    exact ⟨false, none, [], 0, rfl, isBig_zero _, by simp⟩
  · rw [flatten_length hall]
  · rw [hcs]; simp only [List.size_toArray]; rw [flatten_length hall]; simp
  · rw [hcs]
    simp only []
    rw [List.take_of_length_le]
    rw [flatten_length hall]; exact Nat.le_refl _
end Go.Proofs.Ytiidplinmempcaa

/- Contracts of the reference's Of (11). -/
namespace Go.Proofs.Ytiidplinmempcaa
open Go.RowKit
/-- The eight numbers f 1 .. f 8. -/
def f8 (f : Int → Int) : List Int := (List.range 8).map fun (k : Nat) => f ((k : Int) + 1)
theorem f8_at (f : Int → Int) {k : Nat} (h : k < 8) : (f8 f)[k]? = some (f ((k : Int) + 1)) := by simp [f8, h]
theorem f8_len (f : Int → Int) : (f8 f).length = 8 := by simp [f8]
set_option maxRecDepth 100000 in
set_option maxHeartbeats 4000000 in
theorem ref11Of (f : Int → Int) (g c base L : Nat) (w : World) (hL : L ≤ 900000) (hr : OwnB w base L (.slice (some ⟨g, 0, none⟩) 8 c) (f8 f)) :
    Calls Try.prog 85 #[.slice (some ⟨g, 0, none⟩) 8 c] w (LegsPost w (vecC f) (vecL f)) := by
  have HR := Lib.hid hr
  have hf := hr.frozen
  have hg := hf.2.2
  clear hr hf
  go_enter Try.func85, Try.ntmps85
  go_wp2_with fail
  go_loopw [4, 5] (fun v i wr => ∃ j : Nat, j ≤ 8 ∧ i = .int .i64 j ∧ fitN f j = true ∧ Own wr w.heap.size 116 2 v ((sumsL f j).map encLeg) ∧ Below w.heap.size w wr) (fun _ i _ => 8 - (intOf i).toNat)
  case atStart => exact ⟨0, Nat.zero_le _, rfl, rfl, Own.nil _ _ _ _, Below.refl _ _⟩
  case round =>
    obtain ⟨j, hj, rfl, hfit, hown, hbl⟩ := hrel
    have Hfit := Lib.hid hfit
    have Hown := Lib.hid hown
    have Hbl := Lib.hid hbl
    have hz := hbl.size
    have hsl := sumsL_len f j
    clear hfit hown hbl
    by_cases h8 : j < 8
    · obtain ⟨s, A, l, d, c0, c1, hB, hl⟩ := HR.out.at (f8_at f h8)
      have e0 := (Hbl.out.cell (p := ⟨g, j * 2, none⟩) hg).trans c0
      have e1 := (Hbl.out.cell (p := ⟨g, j * 2 + 1, none⟩) hg).trans c1
      have HB := Lib.hid (hB.keep Hbl.out)
      have HSL := Lib.hid (show sumsL f (j + 1) = sumsL f j ++ (if f ((j : Int) + 1) = 0 then [] else [⟨(j : Int) + 1, f ((j : Int) + 1)⟩]) from rfl)
      have HFN := Lib.hid (show fitN f (j + 1) = (fitN f j && in64 (f ((j : Int) + 1))) from rfl)
      have HNO := fun h => fit_no (f := f) h8 h
      obtain ⟨n, hn⟩ : ∃ n, n = f ((j : Int) + 1) := ⟨_, rfl⟩
      rw [← hn] at HB HSL HFN HNO
      clear c0 c1 hB hn
      cases h64 : in64 n
      · have HF := Lib.hid (HNO h64)
        have c2 := fun W (h : IsBig W n s A l d) => bigFits n s l A d L W hL hl h
        rw [h64] at c2
        have C2 := Lib.hid c2
        clear c2 h64 HNO
        go_wp2_with (go_at_call 26; (with_reducible refine (C2.out _ HB.out).mono ?_); rintro e w2 ⟨rfl, hb2⟩; have hz2 := hb2.size; have Hb2 := Lib.hid hb2; clear hb2)
        go_ret2
        exact ⟨_, by rw [vecC, HF.out]; rfl, by rw [vecL, HF.out]; exact Own.nil _ _ _ _, by (have hbl := Hbl.out; have hb2 := Hb2.out; (repeat' (first | (with_reducible exact Below.refl _ _) | (with_reducible assumption) | (with_reducible refine Below.alloc ?_ ?_ _) | (with_reducible refine Below.setCell ?_ ?_ _) | (with_reducible refine Below.drew ?_) | (with_reducible refine below_drewN ?_ _) | (with_reducible refine below_via ?_ (by with_reducible assumption) ?_) | omega | (simp; done) | (simp; omega))))⟩
      · have HF := Lib.hid (show fitN f (j + 1) = true from by rw [HFN.out, Hfit.out, h64]; rfl)
        have I64 := Lib.hid (in64_iff.1 h64)
        have c2 := fun W (h : IsBig W n s A l d) => bigFits n s l A d L W hL hl h
        rw [h64] at c2
        have C2 := Lib.hid c2
        clear c2 h64 HNO
        cases hq : (n == 0)
        · have HNE := Lib.hid (show sumsL f (j + 1) = sumsL f j ++ [⟨(j : Int) + 1, n⟩] from by rw [HSL.out, if_neg (by simpa using hq)])
          go_wp2_with (first | (go_at_call 26; (with_reducible refine (C2.out _ HB.out).mono ?_); rintro e w2 ⟨rfl, hb2⟩; obtain ⟨fc2, fg2, hc2, hf2, hz2⟩ := bget hb2; (try simp at hz2); have Hb2 := Lib.hid hb2; clear hb2) | (go_at_call 27; (with_reducible refine (bigInt n s l A d _ (by omega) I64.out (HB.out.keep Hb2.out)).mono ?_); rintro e w3 ⟨rfl, hb3⟩; obtain ⟨fc3, fg3, hc3, hf3, hz3⟩ := bget hb3; (try simp at hz3); have Hb3 := Lib.hid hb3; clear hb3) | (at_builtin; refine wpList_app rfl _ _ _ rfl elLeg w.heap.size _ _ rfl ((((Hown.out.keep Hb2.out).keep Hb3.out)).alloc _) (some ⟨w3.heap.size, 0, none⟩) 1 1 rfl [encLeg ⟨(j : Int) + 1, n⟩] rfl (fun h => by cases h) rd_one (rowsLeg [⟨(j : Int) + 1, n⟩]) (by unfold maxLen; first | (simp; done) | omega | (simp; omega)) (by first | (simp; done) | omega | (simp; omega)) (by first | omega | (simp; done) | (simp; omega)) ?_; intro v' w6 hown6 hb6))
          go_roundw
          case rel => exact ⟨j + 1, by omega, by go_num, HF.out, by rw [HNE.out, List.map_append]; exact hown6, by have hbl := Hbl.out; have hb2 := Hb2.out; have hb3 := Hb3.out; (repeat' (first | (with_reducible exact Below.refl _ _) | (with_reducible assumption) | (with_reducible refine Below.alloc ?_ ?_ _) | (with_reducible refine Below.setCell ?_ ?_ _) | (with_reducible refine Below.drew ?_) | (with_reducible refine below_drewN ?_ _) | (with_reducible refine below_via ?_ (by with_reducible assumption) ?_) | omega | (simp; done) | (simp; omega)))⟩
          case measure => simp [intOf]; omega
        · have HNE := Lib.hid (show sumsL f (j + 1) = sumsL f j from by rw [HSL.out, if_pos (by simpa using hq), List.append_nil])
          go_wp2_with (first | (go_at_call 26; (with_reducible refine (C2.out _ HB.out).mono ?_); rintro e w2 ⟨rfl, hb2⟩; obtain ⟨fc2, fg2, hc2, hf2, hz2⟩ := bget hb2; (try simp at hz2); have Hb2 := Lib.hid hb2; clear hb2) | (go_at_call 27; (with_reducible refine (bigInt n s l A d _ (by omega) I64.out (HB.out.keep Hb2.out)).mono ?_); rintro e w3 ⟨rfl, hb3⟩; obtain ⟨fc3, fg3, hc3, hf3, hz3⟩ := bget hb3; (try simp at hz3); have Hb3 := Lib.hid hb3; clear hb3))
          go_roundw
          case rel => exact ⟨j + 1, by omega, by go_num, HF.out, by rw [HNE.out]; exact (Hown.out.keep Hb2.out).keep Hb3.out, by have hbl := Hbl.out; have hb2 := Hb2.out; have hb3 := Hb3.out; (repeat' (first | (with_reducible exact Below.refl _ _) | (with_reducible assumption) | (with_reducible refine Below.alloc ?_ ?_ _) | (with_reducible refine Below.setCell ?_ ?_ _) | (with_reducible refine Below.drew ?_) | (with_reducible refine below_drewN ?_ _) | (with_reducible refine below_via ?_ (by with_reducible assumption) ?_) | omega | (simp; done) | (simp; omega)))⟩
          case measure => simp [intOf]; omega
    · obtain rfl : j = 8 := by omega
      go_wp2_with fail
      go_ret2
      exact ⟨_, by rw [vecC, Hfit.out]; rfl, by rw [vecL, Hfit.out]; exact Hown.out, Hbl.out⟩
end Go.Proofs.Ytiidplinmempcaa

/- Contract of the reference's Add (11). -/
namespace Go.Proofs.Ytiidplinmempcaa
open Go.RowKit
def mix (a b : List Int) (k : Nat) : List Int := a.take k ++ b.drop k
theorem mix_len {a b : List Int} {k : Nat} (h : a.length = b.length) (hk : k ≤ b.length) : (mix a b k).length = b.length := by
  unfold mix; rw [List.length_append, List.length_take, List.length_drop]; omega
theorem mix_at {a b : List Int} {k : Nat} {x : Int} (h : a.length = b.length) (hk : k < b.length) (hx : b[k]? = some x) : (mix a b k)[k]? = some x := by
  unfold mix
  rw [List.getElem?_append_right (by rw [List.length_take]; omega), List.length_take, Nat.min_eq_left (by omega), List.getElem?_drop, Nat.sub_self]
  exact hx
theorem mix_set {a b : List Int} {k : Nat} {x : Int} (h : a.length = b.length) (hk : k < b.length) (hx : a[k]? = some x) : (mix a b k).set k x = mix a b (k + 1) := by
  unfold mix
  have hl : (a.take k).length = k := by rw [List.length_take]; omega
  obtain ⟨ha, rfl⟩ := List.getElem?_eq_some_iff.1 hx
  rw [List.set_append_right _ _ (by omega), hl, Nat.sub_self, List.drop_eq_getElem_cons hk, List.set_cons_zero, List.take_succ_eq_append_getElem ha, List.append_assoc]
  rfl
theorem mix_zero (a b : List Int) : mix a b 0 = b := by simp [mix]
theorem mix_all {a b : List Int} {k : Nat} (ha : a.length ≤ k) (hb : b.length ≤ k) : mix a b k = a := by
  unfold mix; rw [List.take_of_length_le ha, List.drop_eq_nil_of_le hb]; simp
theorem sumG_snoc {ls : List (List Leg)} {k : Nat} (h : k < ls.length) (i : Int) : sumG (ls.take (k + 1)) i = sumG (ls.take k) i + getF i ls[k] := by
  unfold sumG; rw [map_snoc h, List.sum_append]; simp
theorem make8 (W : World) : (Instr.makeSlice 129 (.int .i64 8) (.int .i64 8)).run Try.prog W = .ok (.slice (some ⟨W.heap.size, 0, none⟩) 8 8) (W.alloc (.cells #[.bool false, .slice none 0 0, .bool false, .slice none 0 0, .bool false, .slice none 0 0, .bool false, .slice none 0 0, .bool false, .slice none 0 0, .bool false, .slice none 0 0, .bool false, .slice none 0 0, .bool false, .slice none 0 0] 34)) := by kernel_rfl
theorem f8_zero : f8 (sumG []) = List.replicate 8 0 := by decide
set_option maxRecDepth 100000 in
set_option maxHeartbeats 4000000 in
theorem ref11Add (ls : List (List Leg)) (A : Option Addr) (c : Nat) (w : World) (hll : ls.length ≤ 100000) (hl : Short ls) (h64 : ∀ l ∈ ls, Legs64 l) (hr : RsS 2 encLeg w ls A c) :
    Calls Try.prog 23 #[.slice A ls.length c] w (LegsPost w (addC ls) (addL ls)) := by
  have HR := Lib.hid hr
  have HL := Lib.hid hl
  have H64 := Lib.hid h64
  clear hr hl h64
  have hmk := make8
  go_enter Try.func23, Try.ntmps23
  go_wp2_with fail
  clear hmk
  go_loopw [5] (fun i wr => ∃ k : Nat, k ≤ ls.length ∧ i = .int .i64 k ∧ (allV ls = allV (ls.drop k)) ∧ OwnB wr w.heap.size (65 + 8 * k) (.slice (some ⟨w.heap.size, 0, none⟩) 8 8) (f8 (sumG (ls.take k))) ∧ Below w.heap.size w wr) (fun i _ => ls.length - (intOf i).toNat)
  case atStart => exact ⟨0, Nat.zero_le _, rfl, rfl, by rw [List.take_zero, f8_zero]; exact ownB_zeros w 8 (by unfold maxLen; omega) _ rfl (Nat.le_refl _) _, by (repeat' (first | (with_reducible exact Below.refl _ _) | (with_reducible assumption) | (with_reducible refine Below.alloc ?_ ?_ _) | (with_reducible refine Below.setCell ?_ ?_ _) | (with_reducible refine Below.drew ?_) | (with_reducible refine below_drewN ?_ _) | (with_reducible refine below_via ?_ (by with_reducible assumption) ?_) | omega | (simp; done) | (simp; omega)))⟩
  case round =>
    obtain ⟨k, hk, rfl, hv, hown, hbl⟩ := hrel
    have Hown := Lib.hid hown
    clear hown
    have Hbl := Lib.hid hbl
    have HV := Lib.hid hv
    have hz := hbl.size
    clear hbl hv
    by_cases hlt : k < ls.length
    · obtain ⟨b, o, B, d, rfl, hb, hq, hrk⟩ := HR.out.row hlt
      have HD := Lib.hid (drop_cons' hlt)
      have e0 := (Hbl.out.cell (p := ⟨b, o + k, none⟩) hb).trans hq
      have HK := Lib.hid (hrk.keep Hbl.out)
      have HRK := Lib.hid hrk
      have HKL := HL.out.pt hlt
      have c1 := fun W (h : Rd W B 2 (ls[k].map encLeg)) => refIs11 ls[k] B d W HKL h
      have HQ := Lib.hid hq
      clear hq hrk
      cases hm : isV ls[k]
      · rw [hm] at c1
        have C1 := Lib.hid c1
        have HN := Lib.hid (show allV (ls[k] :: ls.drop (k + 1)) = false from by unfold allV; rw [List.all_cons, hm]; rfl)
        clear c1 hm
        go_wp2_with (go_at_call 76; (with_reducible refine (C1.out _ HK.out.rd).mono ?_); rintro e w2 ⟨rfl, hb2⟩; have hz2 := hb2.size; have Hb2 := Lib.hid hb2; clear hb2)
        go_ret2
        exact ⟨_, by unfold addC; rw [HV.out, HD.out, HN.out]; rfl, by unfold addL; rw [HV.out, HD.out, HN.out]; exact Own.nil _ _ _ _, by (have hbl := Hbl.out; have hb2 := Hb2.out; (repeat' (first | (with_reducible exact Below.refl _ _) | (with_reducible assumption) | (with_reducible refine Below.alloc ?_ ?_ _) | (with_reducible refine Below.setCell ?_ ?_ _) | (with_reducible refine Below.drew ?_) | (with_reducible refine below_drewN ?_ _) | (with_reducible refine below_via ?_ (by with_reducible assumption) ?_) | omega | (simp; done) | (simp; omega))))⟩
      · rw [hm] at c1
        have C1 := Lib.hid c1
        have HN := Lib.hid (show allV (ls[k] :: ls.drop (k + 1)) = allV (ls.drop (k + 1)) from by unfold allV; rw [List.all_cons, hm]; rfl)
        clear c1 hm
        go_wp2_with (go_at_call 76; (with_reducible refine (C1.out _ HK.out.rd).mono ?_); rintro e w2 ⟨rfl, hb2⟩; obtain ⟨fc2, fg2, hc2, hf2, hz2⟩ := bget hb2; (try simp at hz2); have Hb2 := Lib.hid hb2; clear hb2)
        obtain ⟨wo, hwo⟩ : ∃ wo : World, wo = w2 := ⟨_, rfl⟩
        have HO2 := Lib.hid (Hown.out.keep Hb2.out)
        have HB2 := Lib.hid (Hbl.out.trans (Hb2.out.mono hz))
        have hzz := HB2.out.size
        clear hc2 hf2 e0
        rw [← hwo] at HO2 HB2 hzz ⊢
        clear hwo
        go_loopw [6] (fun i wr => ∃ j : Nat, j ≤ 8 ∧ i = .int .i64 j ∧ OwnB wr w.heap.size (65 + 8 * k + j) (.slice (some ⟨w.heap.size, 0, none⟩) 8 8) (mix (f8 (sumG (ls.take (k + 1)))) (f8 (sumG (ls.take k))) j) ∧ Below w.heap.size w wr) (fun i _ => 8 - (intOf i).toNat)
        case atStart => exact ⟨0, Nat.zero_le _, rfl, by rw [mix_zero]; exact HO2.out.mono (Nat.le_refl _) (by omega), HB2.out⟩
        case round =>
          obtain ⟨j, hj, rfl, hown, hbl⟩ := hrel
          have Hown3 := Lib.hid hown
          have Hbl3 := Lib.hid hbl
          have hz3 := hbl.size
          clear hown hbl
          by_cases h8 : j < 8
          · obtain ⟨s, A1, l1, d1, c0, c1, hB, hl1⟩ := Hown3.out.at (mix_at (by rw [f8_len, f8_len]) (by rw [f8_len]; exact h8) (f8_at _ h8))
            have e0 := (Hbl3.out.cell (p := ⟨b, o + k, none⟩) hb).trans HQ.out
            have c3 := fun W (h : Rd W B 2 (ls[k].map encLeg)) => refGet11 ls[k] ((j : Int) + 1) B d W HKL h
            have I3 := get64 (i := (j : Int) + 1) (H64.out _ (List.getElem_mem hlt))
            have HSG := Lib.hid (sumG_snoc hlt ((j : Int) + 1))
            obtain ⟨n, hn⟩ : ∃ n, n = getF ((j : Int) + 1) ls[k] := ⟨_, rfl⟩
            rw [← hn] at c3 I3 HSG
            have C3 := Lib.hid c3
            have HK3 := Lib.hid (HRK.out.keep Hbl3.out)
            have HB := Lib.hid hB
            have hfz := Hown3.out.frozen.1
            have hgz := Hown3.out.frozen.2.2
            have jb : (j : Int) < 8 := by omega
            have wj : IntKind.i64.wrap ((j : Int) + 1) = (j : Int) + 1 := IntWalk.i64_in _ (by omega)
            clear c3 hn hB
            go_wp2_with fail
            go_region_with (first | (go_at_call 84; (with_reducible refine (C3.out _ (HK3.out.keep (by (repeat' (first | (with_reducible exact Below.refl _ _) | (with_reducible assumption) | (with_reducible refine Below.alloc ?_ ?_ _) | (with_reducible refine Below.setCell ?_ ?_ _) | (with_reducible refine Below.drew ?_) | (with_reducible refine below_drewN ?_ _) | (with_reducible refine below_via ?_ (by with_reducible assumption) ?_) | omega | (simp; done) | (simp; omega))))).rd).mono ?_); rintro e w3 ⟨rfl, hb3⟩; obtain ⟨fc3, fg3, hc3, hf3, hz3⟩ := bget hb3; try simp at hz3) | (go_at_call 25; (with_reducible refine (bigOf n _ I3).mono ?_); rintro e w4 ⟨s4, A4, l4, c4, rfl, hB4, hl4, hb4⟩; have HB4 := Lib.hid hB4; clear hB4; obtain ⟨fc4, fg4, hc4, hf4, hz4⟩ := bget hb4; (try simp at hz4)) | (go_at_call 24; (with_reducible refine (bigAdd _ n s s4 l1 l4 A1 A4 d1 c4 (65 + 8 * k + j) _ (by omega) hl1 (by omega) (HB.out.keep (by (repeat' (first | (with_reducible exact Below.refl _ _) | (with_reducible assumption) | (with_reducible refine Below.alloc ?_ ?_ _) | (with_reducible refine Below.setCell ?_ ?_ _) | (with_reducible refine Below.drew ?_) | (with_reducible refine below_drewN ?_ _) | (with_reducible refine below_via ?_ (by with_reducible assumption) ?_) | omega | (simp; done) | (simp; omega))))) (HB4.out.keep (by (repeat' (first | (with_reducible exact Below.refl _ _) | (with_reducible assumption) | (with_reducible refine Below.alloc ?_ ?_ _) | (with_reducible refine Below.setCell ?_ ?_ _) | (with_reducible refine Below.drew ?_) | (with_reducible refine below_drewN ?_ _) | (with_reducible refine below_via ?_ (by with_reducible assumption) ?_) | omega | (simp; done) | (simp; omega)))))).mono ?_); rintro e w5 ⟨s5, A5, l5, c5, rfl, hB5, hl5, hb5⟩; have HB5 := Lib.hid hB5; clear hB5; obtain ⟨fc5, fg5, hc5, hf5, hz5⟩ := bget hb5; (try simp at hz5)))
            clear wj
            all_goals
              have HNX := Lib.hid (show mix (f8 (sumG (ls.take (k + 1)))) (f8 (sumG (ls.take k))) (j + 1) = (mix (f8 (sumG (ls.take (k + 1)))) (f8 (sumG (ls.take k))) j).set j (sumG (ls.take k) ((j : Int) + 1) + n) from
                (mix_set (by rw [f8_len, f8_len]) (by rw [f8_len]; exact h8) (by rw [f8_at _ h8, HSG.out])).symm)
              have HST := Lib.hid ((Hown3.out.keep (w' := w5) (by (repeat' (first | (with_reducible exact Below.refl _ _) | (with_reducible assumption) | (with_reducible refine Below.alloc ?_ ?_ _) | (with_reducible refine Below.setCell ?_ ?_ _) | (with_reducible refine Below.drew ?_) | (with_reducible refine below_drewN ?_ _) | (with_reducible refine below_via ?_ (by with_reducible assumption) ?_) | omega | (simp; done) | (simp; omega))))).store (M := 65 + 8 * k + (j + 1)) (i := j) (by rw [mix_len (by rw [f8_len, f8_len]) (by rw [f8_len]; omega), f8_len]; exact h8) HB5.out (by omega) (by omega))
              have Hb5 : Hid (Below w.heap.size w w5) := by have hbl := Hbl3.out; unfold Hid; (repeat' (first | (with_reducible exact Below.refl _ _) | (with_reducible assumption) | (with_reducible refine Below.alloc ?_ ?_ _) | (with_reducible refine Below.setCell ?_ ?_ _) | (with_reducible refine Below.drew ?_) | (with_reducible refine below_drewN ?_ _) | (with_reducible refine below_via ?_ (by with_reducible assumption) ?_) | omega | (simp; done) | (simp; omega)))
              clear hc4 hc5 hf4 hf5
              go_wp2_with fail
              go_roundw
              case rel => exact ⟨j + 1, by omega, by go_num, by rw [HNX.out]; exact HST.out, by have hbl := Hb5.out; (repeat' (first | (with_reducible exact Below.refl _ _) | (with_reducible assumption) | (with_reducible refine Below.alloc ?_ ?_ _) | (with_reducible refine Below.setCell ?_ ?_ _) | (with_reducible refine Below.drew ?_) | (with_reducible refine below_drewN ?_ _) | (with_reducible refine below_via ?_ (by with_reducible assumption) ?_) | omega | (simp; done) | (simp; omega)))⟩
              case measure => simp [intOf]; omega
          · obtain rfl : j = 8 := by omega
            have ho := Hown3.out
            rw [mix_all (by rw [f8_len]; omega) (by rw [f8_len]; omega)] at ho
            have HO3 := Lib.hid ho
            clear ho
            go_wp2_with fail
            go_roundw
            case rel => exact ⟨k + 1, by omega, by go_num, by rw [HV.out, HD.out, HN.out], HO3.out.mono (Nat.le_refl _) (by omega), Hbl3.out⟩
            case measure => simp [intOf]; omega
    · have HD := Lib.hid (drop_all (l := ls) (k := k) (by omega))
      have ho := Hown.out
      rw [List.take_of_length_le (by omega)] at ho
      have HO := Lib.hid (ho.mono (M := 900000) (Nat.le_refl _) (by omega))
      have HAV : Hid (allV ls = true) := by unfold Hid; rw [HV.out, HD.out]; rfl
      clear ho
      go_wp2_with (go_at_call 85; (with_reducible refine (ref11Of (sumG ls) _ _ w.heap.size 900000 _ (by omega) HO.out).mono ?_); rintro e w2 ⟨v, rfl, hown2, hb2⟩)
      go_ret2
      exact ⟨_, by unfold addC; rw [HAV.out]; rfl, by unfold addL; rw [HAV.out]; exact hown2.mono hz, by (have hbl := Hbl.out; (repeat' (first | (with_reducible exact Below.refl _ _) | (with_reducible assumption) | (with_reducible refine Below.alloc ?_ ?_ _) | (with_reducible refine Below.setCell ?_ ?_ _) | (with_reducible refine Below.drew ?_) | (with_reducible refine below_drewN ?_ _) | (with_reducible refine below_via ?_ (by with_reducible assumption) ?_) | omega | (simp; done) | (simp; omega))))⟩
end Go.Proofs.Ytiidplinmempcaa

/- Contracts of the reference's Same (11), the law's Few, several, lives. -/
namespace Go.Proofs.Ytiidplinmempcaa
open Go.RowKit
set_option maxRecDepth 100000 in
set_option maxHeartbeats 1000000 in
theorem ref11Same (l : List Leg) (A B : Option Addr) (c d : Nat) (w : World) (hl : l.length ≤ 1099511627776) (ha : Rd w A 2 (l.map encLeg)) (hb : Rd w B 2 (l.map encLeg)) :
    Calls Try.prog 38 #[.slice A l.length c, .slice B l.length d] w fun e w' => e = .returned (.bool true) ∧ Below w.heap.size w w' := by
  have HA := Lib.hid ha
  have HB := Lib.hid hb
  clear ha hb
  go_enter Try.func38, Try.ntmps38
  go_wp2_with fail
  go_loopw [5] (fun i wr => ∃ k : Nat, k ≤ l.length ∧ i = .int .i64 k ∧ ∃ n, wr = w.drewN n) (fun i _ => l.length - (intOf i).toNat)
  case atStart => exact ⟨0, Nat.zero_le _, rfl, 0, rfl⟩
  case round =>
    obtain ⟨k, hk, rfl, nn, rfl⟩ := hrel
    by_cases hlt : k < l.length
    · have kl : (k : Int) < (l.length : Int) := by omega
      obtain ⟨b1, o1, rfl, hb1, hc1⟩ := HA.out k (encLeg l[k]) (by simp [hlt])
      obtain ⟨b2, o2, rfl, hb2, hc2⟩ := HB.out k (encLeg l[k]) (by simp [hlt])
      have e0 := hc1 0 _ rfl
      have e1 := hc1 1 _ rfl
      have f0 := hc2 0 _ rfl
      have f1 := hc2 1 _ rfl
      simp only [Nat.add_zero] at e0 f0
      clear hc1 hc2
      go_wp2_with fail
      go_quiet (fail)
      go_wp2_with fail
      go_roundw
      case rel => exact ⟨k + 1, by omega, by go_num, _, rfl⟩
      case measure => simp [intOf]; omega
    · go_wp2_with fail
      go_ret
      exact ⟨rfl, by (repeat' (first | (with_reducible exact Below.refl _ _) | (with_reducible assumption) | (with_reducible refine Below.alloc ?_ ?_ _) | (with_reducible refine Below.setCell ?_ ?_ _) | (with_reducible refine Below.drew ?_) | (with_reducible refine below_drewN ?_ _) | (with_reducible refine below_via ?_ (by with_reducible assumption) ?_) | omega | (simp; done) | (simp; omega)))⟩
theorem Rs.takeL {α : Type} {enc : α → List Value} {w : World} {k : Nat} {l : List α} {A : Option Addr} {c : Nat} (h : Rs w k (l.map enc) A c) (n : Nat) : Rs w k ((l.take n).map enc) A c := by
  rw [List.map_take]; exact h.take n
theorem Rs.addr {w : World} {k : Nat} {rows : List (List Value)} {A : Option Addr} {c : Nat} (h : Rs w k rows A c) (h0 : 0 < rows.length) : ∃ b o, A = some ⟨b, o, none⟩ ∧ b < w.heap.size := by
  obtain ⟨b, o, hA, hb, _⟩ := h.rd 0 rows[0] (List.getElem?_eq_getElem h0)
  exact ⟨b, o, hA, hb⟩
set_option maxRecDepth 100000 in
set_option maxHeartbeats 1000000 in
theorem law11Few (l : List Leg) (A : Option Addr) (c : Nat) (w : World) (hl : l.length ≤ maxLen) (hr : Rs w 2 (l.map encLeg) A c) :
    Calls Try.prog 13 #[.slice A l.length c] w fun e w' => e = .returned (.slice A (l.take 12).length c) ∧ w = w' := by
  have hml : (l.length : Int) ≤ 9223372036854775807 := by unfold maxLen at hl; omega
  have hcap := hr.cap
  have hroom := hr.room
  rw [List.length_map] at hcap
  unfold maxLen at hroom
  by_cases h : 12 < l.length
  · have HT := Lib.hid (show (l.take 12).length = 12 from by rw [List.length_take]; omega)
    obtain ⟨b, o, rfl, hb⟩ := hr.addr (by rw [List.length_map]; omega)
    clear hr
    go_enter Try.func13, Try.ntmps13
    go_wp2_with fail
    go_ret
    exact ⟨by rw [HT.out]; rfl, rfl⟩
  · have HT := Lib.hid (show (l.take 12).length = l.length from by rw [List.length_take]; omega)
    clear hr
    go_enter Try.func13, Try.ntmps13
    go_wp2_with fail
    go_ret
    exact ⟨by rw [HT.out]; rfl, rfl⟩
theorem law11FewN (l : List Leg) (m : Nat) (hm : Hid ((l.take 12).length = m)) (A : Option Addr) (c : Nat) (w : World) (hl : l.length ≤ maxLen) (hr : Rs w 2 (l.map encLeg) A c) :
    Calls Try.prog 13 #[.slice A l.length c] w fun e w' => e = .returned (.slice A m c) ∧ w = w' := by
  rw [← hm.out]; exact law11Few l A c w hl hr
theorem islN {α : Type} {k : Nat} {enc : α → List Value} {w : World} {l : List α} {A : Option Addr} {c m : Nat} (hm : l.length = m) (h : Rs w k (l.map enc) A c) : IsSl k enc w (.slice A m c) l := by
  subst hm; exact isl h
def few12 (ls : List (List Leg)) : List (List Leg) := (ls.take 10).map fun l => l.take 12
theorem elLs : Elem Try.prog 51 23 1 24 := elem_of Try.underlying51 (z := .slice none 0 0) (by kernel_rfl) rfl (by omega)
/-- A slice of the call's own of slices of legs. -/
def OwnS (w : World) (base : Nat) (v : Value) (ls : List (List Leg)) : Prop := ∃ vs : List Value, Each (IsSl 2 encLeg w) vs ls ∧ Own w base 23 1 v (vs.map enc1)
theorem OwnS.rss {w : World} {base : Nat} {v : Value} {ls : List (List Leg)} (h : OwnS w base v ls) : ∃ A c, v = .slice A ls.length c ∧ RsS 2 encLeg w ls A c := by
  obtain ⟨vs, h1, h2⟩ := h
  obtain ⟨A, c, hv, hr, _⟩ := h2.rs
  rw [List.length_map, h1.len] at hv
  exact ⟨A, c, hv, ⟨⟨vs, h1, hr⟩⟩⟩
theorem rows1 (v : Value) (h : v.oneCell' = true) : ∀ r ∈ [enc1 v], r.length = 1 ∧ ∀ u ∈ r, u.oneCell' = true := by
  intro r hr
  simp [enc1] at hr
  subst hr
  exact ⟨rfl, by simp [h]⟩
theorem livesAdd : addL [[⟨1, 5⟩, ⟨2, -3⟩], [⟨1, -5⟩]] = [⟨2, -3⟩] ∧ addC [[⟨1, 5⟩, ⟨2, -3⟩], [⟨1, -5⟩]] = 0 := by decide
theorem isl_two {w : World} (g : Nat) (x y : Leg) (hg : g < w.heap.size) (c0 : w.cell? ⟨g, 0, none⟩ = some (.int .i64 x.inst)) (c1 : w.cell? ⟨g, 1, none⟩ = some (.int .i64 x.qty)) (c2 : w.cell? ⟨g, 2, none⟩ = some (.int .i64 y.inst)) (c3 : w.cell? ⟨g, 3, none⟩ = some (.int .i64 y.qty)) : IsSl 2 encLeg w (.slice (some ⟨g, 0, none⟩) 2 2) [x, y] := by
  refine ⟨some ⟨g, 0, none⟩, 2, rfl, ⟨fun i r hr => ⟨g, 0, rfl, hg, fun j v hv => ?_⟩, by simp, by unfold maxLen; omega, fun e => by cases e⟩⟩
  match i with
  | 0 =>
    simp [encLeg] at hr; subst hr
    match j with
    | 0 => simp at hv; subst hv; simpa using c0
    | 1 => simp at hv; subst hv; simpa using c1
    | j + 2 => simp at hv
  | 1 =>
    simp [encLeg] at hr; subst hr
    match j with
    | 0 => simp at hv; subst hv; simpa using c2
    | 1 => simp at hv; subst hv; simpa using c3
    | j + 2 => simp at hv
  | i + 2 => simp at hr
theorem rsOne {w : World} (g : Nat) (x : Leg) (hg : g < w.heap.size) (c0 : w.cell? ⟨g, 0, none⟩ = some (.int .i64 x.inst)) (c1 : w.cell? ⟨g, 1, none⟩ = some (.int .i64 x.qty)) : Rd w (some ⟨g, 0, none⟩) 2 ([x].map encLeg) := by
  obtain ⟨A, c, h1, h2⟩ := isl_one g x hg c0 c1
  injection h1 with e1 e2 e3
  rw [e1]; exact h2.rd
end Go.Proofs.Ytiidplinmempcaa
