/- Joined: GrdL, Frame, Open, IntsOpen, InstOpen, LegOpen, GrdOpen. -/
import Derived.Test.YtiidplinmempcaaJz13
import Derived.Test.YtiidplinmempcaaJz1
import Derived.Test.YtiidplinmempcaaJz5
import Derived.Test.YtiidplinmempcaaJz9
import Derived.Test.YtiidplinmempcaaChecked
import Derived.ProofKit
import Derived.Lib.SmallJoins
import Derived.Deep.Slices
import Derived.Test.YtiidplinmempcaaRows
/- Layer 24's laws: lives. -/
namespace Go.Proofs.Ytiidplinmempcaa
open Go.RowKit
theorem rd_inst1 {W : World} {g : Nat} {x : InstV} (hg : g < W.heap.size) (c0 : W.cell? ⟨g, 0, none⟩ = some (.int .i64 x.id)) (c1 : W.cell? ⟨g, 1, none⟩ = some (.int .i64 x.mult)) (c2 : W.cell? ⟨g, 2, none⟩ = some (.int .i64 x.price)) (c3 : W.cell? ⟨g, 3, none⟩ = some (.int .i64 x.next)) (c4 : W.cell? ⟨g, 4, none⟩ = some (.slice x.moves.A x.moves.val.length x.moves.c)) : Rd W (some ⟨g, 0, none⟩) 5 ([x].map encInstV) := by
  intro i r hr
  match i with
  | 0 =>
    simp [encInstV] at hr; subst hr
    refine ⟨g, 0, rfl, hg, fun j v hv => ?_⟩
    match j with
    | 0 => simp at hv; subst hv; simpa using c0
    | 1 => simp at hv; subst hv; simpa using c1
    | 2 => simp at hv; subst hv; simpa using c2
    | 3 => simp at hv; subst hv; simpa using c3
    | 4 => simp at hv; subst hv; simpa using c4
    | j + 5 => simp at hv
  | i + 1 => simp at hr
theorem rs_ints2 {W : World} {g : Nat} {a b : Int} (hg : g < W.heap.size) (c0 : W.cell? ⟨g, 0, none⟩ = some (.int .i64 a)) (c1 : W.cell? ⟨g, 1, none⟩ = some (.int .i64 b)) : Rs W 1 ([a, b].map encI) (some ⟨g, 0, none⟩) 2 := by
  refine ⟨fun i r hr => ⟨g, 0, rfl, hg, fun j v hv => ?_⟩, by simp, by unfold maxLen; omega, fun e => by cases e⟩
  match i with
  | 0 =>
    simp [encI] at hr; subst hr
    match j with
    | 0 => simp at hv; subst hv; simpa using c0
    | j + 1 => simp at hv
  | 1 =>
    simp [encI] at hr; subst hr
    match j with
    | 0 => simp at hv; subst hv; simpa using c1
    | j + 1 => simp at hv
  | i + 2 => simp at hr
def liveI : Inst := ⟨1, 10, 0, 0, [2, -3]⟩
def liveV (A : Option Addr) (c : Nat) : InstV := ⟨1, 10, 0, 0, ⟨A, c, [2, -3]⟩⟩
theorem live_find (A : Option Addr) (c : Nat) : findInstV [liveV A c] 1 = (liveV A c, true) := rfl
theorem live_loss (A : Option Addr) (c : Nat) (q : Int) (hq : q ≠ 0) : lossC [liveV A c] [⟨1, q⟩] = 0 ∧ lossN [liveV A c] [⟨1, q⟩] = fun s => - shockI liveI q s := by
  have h1 : isV [⟨1, q⟩] = true := by simp [isV, isF, hq]
  have h2 : known [liveV A c] [⟨1, q⟩] = true := by unfold known; simp only [List.all_cons, List.all_nil, live_find, Bool.and_true]
  refine ⟨by unfold lossC; rw [h1, h2]; rfl, funext fun s => ?_⟩
  unfold lossN
  rw [h1, h2]
  have h3 : gnN [liveV A c] [⟨1, q⟩] s = shockI liveI q s := by unfold gnN legS; simp only [List.map_cons, List.map_nil, live_find, List.sum_cons, List.sum_nil, Int.add_zero]; rfl
  rw [h3]; rfl
theorem live_margin (A : Option Addr) (c : Nat) : marginN [liveV A c] [⟨1, 4⟩] = 120 ∧ marginC [liveV A c] [⟨1, 4⟩] = 0 ∧ marginN [liveV A c] [⟨1, -4⟩] = 80 ∧ marginC [liveV A c] [⟨1, -4⟩] = 0 ∧ (mostN (lossN [liveV A c] [⟨1, 4⟩]) 8).2 = 1 ∧ lossC [liveV A c] [⟨1, 4⟩] = 0 := by
  obtain ⟨a1, a2⟩ := live_loss A c 4 (by decide)
  obtain ⟨b1, b2⟩ := live_loss A c (-4) (by decide)
  unfold marginN marginC
  rw [a1, a2, b1, b2]
  decide
set_option maxRecDepth 100000 in
set_option maxHeartbeats 8000000 in
theorem law24lives (w : World) : Calls Try.prog 22 #[] w fun e w' => e = .returned (.bool true) ∧ Below w.heap.size w w' := by
  obtain ⟨W0, hW0⟩ : ∃ W0, W0 = (w.alloc (.cells #[.int .i64 2, .int .i64 (-3)] 2)).alloc (.cells #[.int .i64 1, .int .i64 10, .int .i64 0, .int .i64 0, .slice (some ⟨w.heap.size, 0, none⟩) 2 2] 112) := ⟨_, rfl⟩
  have hrt : Rd W0 (some ⟨w.heap.size + 1, 0, none⟩) 5 ([liveV (some ⟨w.heap.size, 0, none⟩) 2].map encInstV) := by
    refine rd_inst1 (by rw [hW0]; simp) ?_ ?_ ?_ ?_ ?_ <;> (rw [hW0]; simp [go_sem, liveV])
  have hgt : ∀ x ∈ [liveV (some ⟨w.heap.size, 0, none⟩) 2], x.moves.val.length ≤ 1048576 ∧ GoodI W0 x := by
    intro x hx
    rw [List.mem_singleton] at hx
    subst hx
    refine ⟨by simp [liveV], rs_ints2 (a := 2) (b := -3) (by rw [hW0]; simp; omega) ?_ ?_⟩ <;> (rw [hW0]; simp [go_sem])
  obtain ⟨m1, m2, m3, m4, m5, m6⟩ := live_margin (some ⟨w.heap.size, 0, none⟩) 2
  have c1 := fun W g (h : Below W0.heap.size W0 W) (hr : Rd W (some ⟨g, 0, none⟩) 2 ([(⟨1, 4⟩ : Leg)].map encLeg)) => gridMargin [liveV (some ⟨w.heap.size, 0, none⟩) 2] [⟨1, 4⟩] (some ⟨w.heap.size + 1, 0, none⟩) (some ⟨g, 0, none⟩) 1 1 W (by simp) (by simp) (by intro y hy; simp at hy; subst hy; simp [In64]) (hrt.keep h) (fun x hx => ⟨(hgt x hx).1, (hgt x hx).2.keep h⟩) hr
  have c2 := fun W g (h : Below W0.heap.size W0 W) (hr : Rd W (some ⟨g, 0, none⟩) 2 ([(⟨1, -4⟩ : Leg)].map encLeg)) => gridMargin [liveV (some ⟨w.heap.size, 0, none⟩) 2] [⟨1, -4⟩] (some ⟨w.heap.size + 1, 0, none⟩) (some ⟨g, 0, none⟩) 1 1 W (by simp) (by simp) (by intro y hy; simp at hy; subst hy; simp [In64]) (hrt.keep h) (fun x hx => ⟨(hgt x hx).1, (hgt x hx).2.keep h⟩) hr
  have c3 := fun W g (h : Below W0.heap.size W0 W) (hr : Rd W (some ⟨g, 0, none⟩) 2 ([(⟨1, 4⟩ : Leg)].map encLeg)) => gridWorstAt [liveV (some ⟨w.heap.size, 0, none⟩) 2] [⟨1, 4⟩] (some ⟨w.heap.size + 1, 0, none⟩) (some ⟨g, 0, none⟩) 1 1 W (by simp) (by simp) (by intro y hy; simp at hy; subst hy; simp [In64]) (hrt.keep h) (fun x hx => ⟨(hgt x hx).1, (hgt x hx).2.keep h⟩) hr
  rw [m1, m2] at c1
  rw [m3, m4] at c2
  rw [m5, m6] at c3
  simp only [List.length_cons, List.length_nil, Nat.zero_add] at c1 c2 c3
  rw [hW0] at c1 c2 c3
  have C1 := Lib.hid c1
  have C2 := Lib.hid c2
  have C3 := Lib.hid c3
  clear c1 c2 c3 hrt hgt m1 m2 m3 m4 m5 m6 hW0
  go_enter Try.func22, Try.ntmps22
  go_wp2_with (first | (go_at_call 16; (with_reducible refine (C1.out _ _ ?_ ?_).mono ?_); (focus ((repeat' (first | (with_reducible exact Below.refl _ _) | (with_reducible assumption) | (with_reducible refine Below.alloc ?_ ?_ _) | (with_reducible refine Below.setCell ?_ ?_ _) | (with_reducible refine Below.drew ?_) | (with_reducible refine below_drewN ?_ _) | (with_reducible refine below_via ?_ (by with_reducible assumption) ?_) | omega | (simp; done) | (simp; omega))); done)); (focus (refine rsOne _ (x := ⟨1, 4⟩) ?_ ?_ ?_; (focus (simp; done)); (focus (simp [go_sem]; done)); (focus (simp [go_sem]; done)))); rintro e w1 ⟨rfl, hb1⟩; obtain ⟨fc1, fg1, hc1, hf1, hz1⟩ := bget hb1; (try simp at hz1)) | (go_at_call 16; (with_reducible refine (C2.out _ _ ?_ ?_).mono ?_); (focus ((repeat' (first | (with_reducible exact Below.refl _ _) | (with_reducible assumption) | (with_reducible refine Below.alloc ?_ ?_ _) | (with_reducible refine Below.setCell ?_ ?_ _) | (with_reducible refine Below.drew ?_) | (with_reducible refine below_drewN ?_ _) | (with_reducible refine below_via ?_ (by with_reducible assumption) ?_) | omega | (simp; done) | (simp; omega))); done)); (focus (refine rsOne _ (x := ⟨1, -4⟩) ?_ ?_ ?_; (focus (simp; done)); (focus (simp [go_sem]; done)); (focus (simp [go_sem]; done)))); rintro e w2 ⟨rfl, hb2⟩; obtain ⟨fc2, fg2, hc2, hf2, hz2⟩ := bget hb2; (try simp at hz2)) | (go_at_call 18; (with_reducible refine (C3.out _ _ ?_ ?_).mono ?_); (focus ((repeat' (first | (with_reducible exact Below.refl _ _) | (with_reducible assumption) | (with_reducible refine Below.alloc ?_ ?_ _) | (with_reducible refine Below.setCell ?_ ?_ _) | (with_reducible refine Below.drew ?_) | (with_reducible refine below_drewN ?_ _) | (with_reducible refine below_via ?_ (by with_reducible assumption) ?_) | omega | (simp; done) | (simp; omega))); done)); (focus (refine rsOne _ (x := ⟨1, 4⟩) ?_ ?_ ?_; (focus (simp; done)); (focus (simp [go_sem]; done)); (focus (simp [go_sem]; done)))); rintro e w3 ⟨rfl, hb3⟩; obtain ⟨fc3, fg3, hc3, hf3, hz3⟩ := bget hb3; (try simp at hz3)) | fail)
  go_ret
  exact ⟨rfl, by (repeat' (first | (with_reducible exact Below.refl _ _) | (with_reducible assumption) | (with_reducible refine Below.alloc ?_ ?_ _) | (with_reducible refine Below.setCell ?_ ?_ _) | (with_reducible refine Below.drew ?_) | (with_reducible refine below_drewN ?_ _) | (with_reducible refine below_via ?_ (by with_reducible assumption) ?_) | omega | (simp; done) | (simp; omega)))⟩
end Go.Proofs.Ytiidplinmempcaa

/- What every law's row asks of the call's end: the arguments read on as they did, where nothing below the heap's old size has turned. -/
namespace Go.Proofs.Ytiidplinmempcaa
open Go.ChangeShapes Go.WideShapes Go.ChangeAt Go.RowKit Go.Joins
theorem Try.own : ownKnob Try.prog.godebug = none := by kernel_rfl
theorem Try.laidOut : laidOutB Try.prog = true := by kernel_rfl
theorem in64_of_wf {x : Int} (h : (Lit.int .i64 x).wf = true) : In64 x := by
  simp [Lit.wf, IntKind.min, IntKind.max, IntKind.signed, IntKind.bits] at h
  exact ⟨by omega, by omega⟩
theorem word_of_wf {x : Int} (h : (Lit.int .u64 x).wf = true) : 0 ≤ x ∧ x < 18446744073709551616 := by
  simp [Lit.wf, IntKind.min, IntKind.max, IntKind.signed, IntKind.bits] at h
  exact ⟨by omega, by omega⟩
theorem reads_on {H : Type} {enc : TypeId × Value → H} {W W' : World} (hb : Below W.heap.size W W') : ∀ {ts : List TypeId} {vs : List Value} {ds : List (DataW H)} {ps : List MemPlace},
    (∀ t ∈ ts, Try.prog.readableRec t = true ∧ t < Try.prog.types.size) → DataW.TrodAll enc Try.prog W 0 (fun _ => true) true ts vs ds ps → (∀ x ∈ ps, x.block < W.heap.size) →
    DataW.TrodAll enc Try.prog W' 0 (fun b => decide (b < W.heap.size)) true ts vs ds ps
  | [], _, _, _, _, h, _ => by
    obtain ⟨rfl, rfl, rfl⟩ := trodAll_nil h
    exact trodAll_mk0
  | t :: ts, _, _, _, ht, h, hl => by
    obtain ⟨v, vs, d, ds, p, q, rfl, rfl, rfl, h1, h2⟩ := trodAll_cons h
    have h3 := ht t (by simp)
    exact ⟨p, q, Below.trod Try.laidOut h3.1 h3.2 h1 hb (fun x hx => hl x (by simp [hx])), reads_on hb (fun t ht' => ht t (by simp [ht'])) h2 (fun x hx => hl x (by simp [hx])), rfl⟩
theorem law_ends {H : Type} {enc : TypeId × Value → H} {f : Func} {s : ChangeSpec} {W W' : World} {args : Array Value} {ds gs : List (DataW H)} {before : List MemPlace}
    (hW : DataW.Whole enc Try.prog f.params.toList s.vars false W args.toList ds gs before) (hvars : s.vars = []) (hts : ∀ t ∈ f.params.toList, Try.prog.readableRec t = true ∧ t < Try.prog.types.size)
    (hrt : f.resultTypes = #[4]) (hr : (s.fn H (ds ++ gs)).results = [.lit (.bool true)]) (ha : (s.fn H (ds ++ gs)).args = ds) (hv : (s.fn H (ds ++ gs)).vars = []) (hb : Below W.heap.size W W') :
    s.post enc Try.prog f false true false false W args (.bool true) W' := by
  have hW' := hW
  obtain ⟨p, q, hA, hV, rfl, hfz, hnd⟩ := hW
  rw [hvars] at hV
  obtain ⟨rfl, rfl⟩ := trodVars_none hV
  refine ⟨ds, [], _, [], p, [], hW', ?_, ?_, ?_, hb.frame _, fun h => by cases h⟩
  · rw [hrt, hr]; exact trodAll_mk1 (shut_bool Try.underlying4 _)
  · rw [ha]; exact reads_on hb hts hA (fun x hx => by simpa using hW'.lt x (by simp [hx]))
  · rw [hv, hvars]; rfl
end Go.Proofs.Ytiidplinmempcaa

/- A slice, handed in: the list that it reads as. -/
namespace Go.Proofs.Ytiidplinmempcaa
open Go.ChangeShapes Go.WideShapes Go.ChangeAt Go.RowKit Go.Joins Go.Deep
theorem block_lt {w : World} {a : Addr} {v : Value} (h : w.cell? a = some v) : a.block < w.heap.size := by
  rcases Nat.lt_or_ge a.block w.heap.size with h1 | h1
  · exact h1
  · unfold World.cell? at h
    rw [Array.getElem?_eq_none h1] at h
    split at h <;> simp_all
theorem list_choose {α : Type} {n : Nat} {p : Nat → α → Prop} (h : ∀ i, i < n → ∃ x, p i x) : ∃ l : List α, l.length = n ∧ ∀ i (hi : i < l.length), p i l[i] := by
  induction n with
  | zero => exact ⟨[], rfl, fun i hi => absurd hi (by simp)⟩
  | succ n ih =>
    obtain ⟨l, hl, hp⟩ := ih (fun i hi => h i (by omega))
    obtain ⟨x, hx⟩ := h n (by omega)
    refine ⟨l ++ [x], by simp [hl], fun i hi => ?_⟩
    simp at hi
    rcases Nat.lt_or_ge i l.length with h1 | h1
    · rw [List.getElem_append_left h1]; exact hp i h1
    · obtain rfl : i = l.length := by omega
      simp [hl]; exact hx
theorem slice_open0 {H : Type} {enc : TypeId × Value → H} {P : Program} {w : World} {spare : Nat → Bool} {held : Bool} {t e : TypeId} {k : Nat} {α : Type} {ok : α → Prop} {enc1 : α → List Value} {fuel : Nat} {cs0 : List Value} {y0 : DataW H × List MemPlace}
    (ht : P.underlying t = some (.slice e)) (ce : P.cellsOf e = k) (helem : ∀ (cs : List Value) (n : Nat) y, cs.length = k → DataW.trod enc P w 0 spare held n e cs = some y → ∃ x : α, ok x ∧ cs = enc1 x)
    (hk : ∀ x, ok x → (enc1 x).length = k) (hk0 : 0 < k) (hf : DataW.trod enc P w 0 spare held fuel t cs0 = some y0) :
    ∃ (l : List α) (A : Option Addr) (c : Nat), cs0 = [.slice A l.length c] ∧ (∀ x ∈ l, ok x) ∧ l.length ≤ c ∧ c ≤ maxLen ∧ (A = none → c = 0) ∧ Rd w A k (l.map enc1) := by
  rcases open_slice ht hf with ⟨hcs, _⟩ | ⟨a, len, cap, m, n, D, Pl, hcs, _, hl, hm, hmm, _, hall⟩
  · subst hcs
    exact ⟨[], none, 0, rfl, by simp, by simp, by simp, fun _ => rfl, fun i r hr => by simp at hr⟩
  · subst hcs
    have each : ∀ i, i < len → ∃ x : α, ok x ∧ ∀ j v, (enc1 x)[j]? = some v → w.cell? ((a.add (i * k)).add j) = some v := by
      intro i hi
      obtain ⟨cs, h1, h2⟩ := hall i (by rw [hmm]; split <;> omega)
      rw [ce] at h1
      obtain ⟨_, hlen, hcell⟩ := World.cells?_some h1
      obtain ⟨x, hx, rfl⟩ := helem cs n _ hlen h2
      refine ⟨x, hx, fun j v hv => ?_⟩
      have hj : j < k := by
        rw [← hlen]
        rcases Nat.lt_or_ge j (enc1 x).length with h3 | h3
        · exact h3
        · rw [List.getElem?_eq_none h3] at hv; cases hv
      rw [hcell j hj, hv]
    obtain ⟨l, hll, hp⟩ := list_choose each
    subst hll
    refine ⟨l, some a, cap, rfl, fun x hx => ?_, hl, hm, (fun h => by cases h), fun i r hr => ?_⟩
    · obtain ⟨i, hi, rfl⟩ := List.mem_iff_getElem.1 hx
      exact (hp i hi).1
    · rw [List.getElem?_map] at hr
      cases hli : l[i]? with
      | none => rw [hli] at hr; cases hr
      | some x =>
        rw [hli] at hr
        simp at hr
        subst hr
        obtain ⟨hi, rfl⟩ := List.getElem?_eq_some_iff.1 hli
        have hp2 := (hp i hi).2
        have hlk := hk _ (hp i hi).1
        obtain ⟨u, hu⟩ : ∃ u, (enc1 l[i])[0]? = some u := ⟨(enc1 l[i])[0], List.getElem?_eq_getElem (by omega)⟩
        have h0 := hp2 0 u hu
        obtain ⟨b, off, spot⟩ := a
        have hb : b < w.heap.size := by
          have := block_lt h0
          unfold Addr.add at this
          split at this <;> split at this <;> exact this
        by_cases hi0 : i = 0
        · subst hi0
          have hspot : spot = none := by simpa [Addr.add] using World.cell?_spot h0
          subst hspot
          refine ⟨b, off, rfl, hb, fun j v hv => ?_⟩
          have := hp2 j v hv
          rwa [add_plain, add_plain] at this
        · have hl0 : 0 < l.length := by omega
          have hlk0 := hk _ (hp 0 hl0).1
          obtain ⟨u0, hu0⟩ : ∃ u, (enc1 l[0])[0]? = some u := ⟨(enc1 l[0])[0], List.getElem?_eq_getElem (by omega)⟩
          have h00 := (hp 0 hl0).2 0 u0 hu0
          have hspot : spot = none := by simpa [Addr.add] using World.cell?_spot h00
          subst hspot
          refine ⟨b, off, rfl, hb, fun j v hv => ?_⟩
          have := hp2 j v hv
          rwa [add_plain, add_plain] at this
/-- A slice handed in, read row by row by a relation. -/
theorem slice_rel {H : Type} {enc : TypeId × Value → H} {P : Program} {w : World} {spare : Nat → Bool} {held : Bool} {t e : TypeId} {k : Nat} {α : Type} {R : List Value → α → Prop} {fuel : Nat} {cs0 : List Value} {y0 : DataW H × List MemPlace}
    (ht : P.underlying t = some (.slice e)) (ce : P.cellsOf e = k) (helem : ∀ (cs : List Value) (n : Nat) y, cs.length = k → DataW.trod enc P w 0 spare held n e cs = some y → ∃ x : α, R cs x ∧ cs.length = k)
    (hk0 : 0 < k) (hf : DataW.trod enc P w 0 spare held fuel t cs0 = some y0) :
    ∃ (l : List α) (rows : List (List Value)) (A : Option Addr) (c : Nat), cs0 = [.slice A l.length c] ∧ Each R rows l ∧ Rs w k rows A c := by
  obtain ⟨rows, A, c, h1, h2, h3, h4, h5, h6⟩ := slice_open0 (α := List Value) (ok := fun r => (∃ x, R r x) ∧ r.length = k) (enc1 := fun r => r) ht ce (fun cs n y hl hy => by
    obtain ⟨x, hx, hlen⟩ := helem cs n y hl hy
    exact ⟨cs, ⟨⟨x, hx⟩, hlen⟩, rfl⟩) (fun r h => h.2) hk0 hf
  obtain ⟨l, hl, hp⟩ := list_choose (n := rows.length) (p := fun i x => ∃ r, rows[i]? = some r ∧ R r x) (fun i hi => by
    obtain ⟨⟨x, hx⟩, _⟩ := h2 rows[i] (List.getElem_mem hi)
    exact ⟨x, rows[i], List.getElem?_eq_getElem hi, hx⟩)
  rw [List.map_id'] at h6
  refine ⟨l, rows, A, c, by rw [hl]; exact h1, ⟨hl.symm, fun i a b ha hb => ?_⟩, ⟨h6, h3, h4, h5⟩⟩
  obtain ⟨hi, rfl⟩ := List.getElem?_eq_some_iff.1 hb
  obtain ⟨r, hr, hx⟩ := hp i hi
  rw [ha] at hr
  injection hr with hr
  subst hr
  exact hx
theorem slice_open {H : Type} {enc : TypeId × Value → H} {P : Program} {w : World} {spare : Nat → Bool} {held : Bool} {t e : TypeId} {k : Nat} {α : Type} {ok : α → Prop} {enc1 : α → List Value} {v : Value} {d : DataW H} {ps : List MemPlace}
    (ht : P.underlying t = some (.slice e)) (ce : P.cellsOf e = k) (helem : ∀ (cs : List Value) (n : Nat) y, cs.length = k → DataW.trod enc P w 0 spare held n e cs = some y → ∃ x : α, ok x ∧ cs = enc1 x)
    (hk : ∀ x, ok x → (enc1 x).length = k) (hk0 : 0 < k) {r : Reach} {b0 : Nat} (hval : Value.okWide P w r b0 t v) (h : DataW.Trod enc P w 0 spare held t v d ps) :
    ∃ (l : List α) (A : Option Addr) (c : Nat), v = .slice A l.length c ∧ (∀ x ∈ l, ok x) ∧ l.length ≤ c ∧ c ≤ maxLen ∧ (A = none → c = 0) ∧ Rd w A k (l.map enc1) := by
  obtain ⟨a0, len0, cap0, rfl⟩ := okWide_slice ht hval
  obtain ⟨fuel, hf⟩ := h
  rcases open_slice ht hf with ⟨hcs, _⟩ | ⟨a, len, cap, m, n, D, Pl, hcs, _, hl, hm, hmm, _, hall⟩
  · simp [Value.cells] at hcs
    obtain ⟨rfl, rfl, rfl⟩ := hcs
    exact ⟨[], none, 0, rfl, by simp, by simp, by simp, fun _ => rfl, fun i r hr => by simp at hr⟩
  · simp [Value.cells] at hcs
    obtain ⟨rfl, rfl, rfl⟩ := hcs
    have each : ∀ i, i < len0 → ∃ x : α, ok x ∧ ∀ j v, (enc1 x)[j]? = some v → w.cell? ((a.add (i * k)).add j) = some v := by
      intro i hi
      obtain ⟨cs, h1, h2⟩ := hall i (by rw [hmm]; split <;> omega)
      rw [ce] at h1
      obtain ⟨_, hlen, hcell⟩ := World.cells?_some h1
      obtain ⟨x, hx, rfl⟩ := helem cs n _ hlen h2
      refine ⟨x, hx, fun j v hv => ?_⟩
      have hj : j < k := by
        rw [← hlen]
        rcases Nat.lt_or_ge j (enc1 x).length with h3 | h3
        · exact h3
        · rw [List.getElem?_eq_none h3] at hv; cases hv
      rw [hcell j hj, hv]
    obtain ⟨l, hll, hp⟩ := list_choose each
    subst hll
    refine ⟨l, some a, cap0, rfl, fun x hx => ?_, hl, hm, (fun h => by cases h), fun i r hr => ?_⟩
    · obtain ⟨i, hi, rfl⟩ := List.mem_iff_getElem.1 hx
      exact (hp i hi).1
    · rw [List.getElem?_map] at hr
      cases hli : l[i]? with
      | none => rw [hli] at hr; cases hr
      | some x =>
        rw [hli] at hr
        simp at hr
        subst hr
        obtain ⟨hi, rfl⟩ := List.getElem?_eq_some_iff.1 hli
        have hp2 := (hp i hi).2
        have hlk := hk _ (hp i hi).1
        obtain ⟨u, hu⟩ : ∃ u, (enc1 l[i])[0]? = some u := ⟨(enc1 l[i])[0], List.getElem?_eq_getElem (by omega)⟩
        have h0 := hp2 0 u hu
        obtain ⟨b, off, spot⟩ := a
        have hb : b < w.heap.size := by
          have := block_lt h0
          unfold Addr.add at this
          split at this <;> split at this <;> exact this
        by_cases hi0 : i = 0
        · subst hi0
          have hspot : spot = none := by simpa [Addr.add] using World.cell?_spot h0
          subst hspot
          refine ⟨b, off, rfl, hb, fun j v hv => ?_⟩
          have := hp2 j v hv
          rwa [add_plain, add_plain] at this
        · have hl0 : 0 < l.length := by omega
          have hlk0 := hk _ (hp 0 hl0).1
          obtain ⟨u0, hu0⟩ : ∃ u, (enc1 l[0])[0]? = some u := ⟨(enc1 l[0])[0], List.getElem?_eq_getElem (by omega)⟩
          have h00 := (hp 0 hl0).2 0 u0 hu0
          have hspot : spot = none := by simpa [Addr.add] using World.cell?_spot h00
          subst hspot
          refine ⟨b, off, rfl, hb, fun j v hv => ?_⟩
          have := hp2 j v hv
          rwa [add_plain, add_plain] at this
end Go.Proofs.Ytiidplinmempcaa

/- Rows of whole numbers handed in. -/
namespace Go.Proofs.Ytiidplinmempcaa
open Go.ChangeShapes Go.WideShapes Go.ChangeAt Go.RowKit Go.Joins
set_option maxRecDepth 100000 in
theorem J_cells {H : Type} {enc : TypeId × Value → H} {W : World} {spare : Nat → Bool} {held : Bool} {t : TypeId} (ht : (t = 2 ∨ t = 3)) (cs : List Value) (n : Nat) (y : DataW H × List MemPlace) (_hlen : cs.length = 1) (h : DataW.trod enc Try.prog W 0 spare held n t cs = some y) : ∃ x : Int, In64 x ∧ cs = encI x := by
  rcases ht with rfl | rfl
  · obtain ⟨x0, e0, _, w0⟩ := DataW.trod_int (k := .i64) (by kernel_rfl) h
    exact ⟨x0, in64_of_wf w0, e0⟩
  · obtain ⟨x0, e0, _, w0⟩ := DataW.trod_int (k := .i64) (by kernel_rfl) h
    exact ⟨x0, in64_of_wf w0, e0⟩
/-- The cell of a slice of whole numbers. -/
structure IntsC (W : World) (cs : List Value) (l : List Int) (A : Option Addr) (c : Nat) : Prop where
  eq : cs = [.slice A l.length c]
  ok : ∀ x ∈ l, In64 x
  rs : Rs W 1 (l.map encI) A c
set_option maxRecDepth 100000 in
theorem ints_cells {H : Type} {enc : TypeId × Value → H} {W : World} {spare : Nat → Bool} {held : Bool} {n : Nat} {cs : List Value} {y : DataW H × List MemPlace} (h : DataW.trod enc Try.prog W 0 spare held n 110 cs = some y) : ∃ l A c, IntsC W cs l A c := by
  obtain ⟨l, A, c, h1, h2, h3, h4, h5, h6⟩ := slice_open0 (enc1 := encI) Try.underlying110 (by kernel_rfl) (fun cs n y => J_cells (.inl rfl) cs n y) (fun _ _ => rfl) (by omega) h
  exact ⟨l, A, c, h1, h2, h6, by rw [List.length_map]; exact h3, h4, h5⟩
set_option maxRecDepth 100000 in
theorem nats_cells {H : Type} {enc : TypeId × Value → H} {W : World} {spare : Nat → Bool} {held : Bool} {n : Nat} {cs : List Value} {y : DataW H × List MemPlace} (h : DataW.trod enc Try.prog W 0 spare held n 87 cs = some y) : ∃ l A c, IntsC W cs l A c := by
  obtain ⟨l, A, c, h1, h2, h3, h4, h5, h6⟩ := slice_open0 (enc1 := encI) Try.underlying87 (by kernel_rfl) (fun cs n y => J_cells (.inr rfl) cs n y) (fun _ _ => rfl) (by omega) h
  exact ⟨l, A, c, h1, h2, h6, by rw [List.length_map]; exact h3, h4, h5⟩
end Go.Proofs.Ytiidplinmempcaa

/- Instruments handed in. -/
namespace Go.Proofs.Ytiidplinmempcaa
open Go.ChangeShapes Go.WideShapes Go.ChangeAt Go.RowKit Go.Joins
def okInst (x : Inst) : Prop := In64 x.id ∧ In64 x.mult ∧ In64 x.price ∧ In64 x.next ∧ ∀ m ∈ x.moves, In64 m
set_option maxRecDepth 100000 in
theorem Inst_cells {H : Type} {enc : TypeId × Value → H} {W : World} {spare : Nat → Bool} {held : Bool} (cs : List Value) (n : Nat) (y : DataW H × List MemPlace) (hlen : cs.length = 5) (h : DataW.trod enc Try.prog W 0 spare held n 112 cs = some y) :
    ∃ (x : Inst) (A : Option Addr) (c : Nat), okInst x ∧ cs = [.int .i64 x.id, .int .i64 x.mult, .int .i64 x.price, .int .i64 x.next, .slice A x.moves.length c] ∧ Rs W 1 (x.moves.map encI) A c := by
  obtain ⟨xs, n, _, rfl, _, hxs, hf⟩ := DataW.trod_struct Try.underlying112 h
  match cs, hlen, xs, hxs with
  | [c0, c1, c2, c3, c4], _, [y0, y1, y2, y3, y4], _ =>
    have h0 : DataW.trod enc Try.prog W 0 spare held n 3 (([c0, c1, c2, c3, c4].drop 0).take (Try.prog.cellsOf 3)) = some y0 := hf 0 _ rfl
    have h1 : DataW.trod enc Try.prog W 0 spare held n 2 (([c0, c1, c2, c3, c4].drop 1).take (Try.prog.cellsOf 2)) = some y1 := hf 1 _ rfl
    have h2 : DataW.trod enc Try.prog W 0 spare held n 2 (([c0, c1, c2, c3, c4].drop 2).take (Try.prog.cellsOf 2)) = some y2 := hf 2 _ rfl
    have h3 : DataW.trod enc Try.prog W 0 spare held n 2 (([c0, c1, c2, c3, c4].drop 3).take (Try.prog.cellsOf 2)) = some y3 := hf 3 _ rfl
    have h4 : DataW.trod enc Try.prog W 0 spare held n 110 (([c0, c1, c2, c3, c4].drop 4).take (Try.prog.cellsOf 110)) = some y4 := hf 4 _ rfl
    obtain ⟨x0, e0, _, w0⟩ := DataW.trod_int (k := .i64) (by kernel_rfl) h0
    obtain ⟨x1, e1, _, w1⟩ := DataW.trod_int (k := .i64) (by kernel_rfl) h1
    obtain ⟨x2, e2, _, w2⟩ := DataW.trod_int (k := .i64) (by kernel_rfl) h2
    obtain ⟨x3, e3, _, w3⟩ := DataW.trod_int (k := .i64) (by kernel_rfl) h3
    obtain ⟨l, A, c, e4⟩ := ints_cells h4
    have e5 := e4.eq
    rw [show Try.prog.cellsOf _ = 1 from by kernel_rfl] at e0 e1 e2 e3 e5
    simp at e0 e1 e2 e3 e5
    subst e0 e1 e2 e3 e5
    exact ⟨⟨x0, x1, x2, x3, l⟩, A, c, ⟨in64_of_wf w0, in64_of_wf w1, in64_of_wf w2, in64_of_wf w3, e4.ok⟩, rfl, e4.rs⟩
set_option maxRecDepth 100000 in
theorem Inst_open {H : Type} {enc : TypeId × Value → H} {W : World} {spare : Nat → Bool} {held : Bool} {r : Reach} {b0 : Nat} {v : Value} {d : DataW H} {p : List MemPlace} (hv : Value.okWide Try.prog W r b0 112 v) (h : DataW.Trod enc Try.prog W 0 spare held 112 v d p) :
    ∃ (x : Inst) (A : Option Addr) (c : Nat), okInst x ∧ v = .agg #[.int .i64 (x).id, .int .i64 (x).mult, .int .i64 (x).price, .int .i64 (x).next, .slice A (x).moves.length c] ∧ Rs W 1 (x.moves.map encI) A c := by
  obtain ⟨cs, rfl, hsz⟩ := okWide_struct Try.underlying112 hv
  obtain ⟨fuel, hf⟩ := h
  rw [show Try.prog.cellsOf _ = 5 from by kernel_rfl] at hsz
  obtain ⟨x, A, c, hx, he, hr⟩ := Inst_cells cs.toList fuel _ (by simpa using hsz) (by simpa [Value.cells] using hf)
  refine ⟨x, A, c, hx, ?_, hr⟩
  obtain ⟨l⟩ := cs
  simp only at he
  rw [he]
end Go.Proofs.Ytiidplinmempcaa

/- Legs handed in. -/
namespace Go.Proofs.Ytiidplinmempcaa
open Go.ChangeShapes Go.WideShapes Go.ChangeAt Go.RowKit Go.Joins
set_option maxRecDepth 100000 in
theorem Leg_cells {H : Type} {enc : TypeId × Value → H} {W : World} {spare : Nat → Bool} {held : Bool} (cs : List Value) (n : Nat) (y : DataW H × List MemPlace) (hlen : cs.length = 2) (h : DataW.trod enc Try.prog W 0 spare held n 116 cs = some y) : ∃ x : Leg, okLeg x ∧ cs = encLeg x := by
  obtain ⟨xs, n, _, rfl, _, hxs, hf⟩ := DataW.trod_struct Try.underlying116 h
  match cs, hlen, xs, hxs with
  | [c0, c1], _, [y0, y1], _ =>
    have h0 : DataW.trod enc Try.prog W 0 spare held n 3 (([c0, c1].drop 0).take (Try.prog.cellsOf 3)) = some y0 := hf 0 _ rfl
    have h1 : DataW.trod enc Try.prog W 0 spare held n 2 (([c0, c1].drop 1).take (Try.prog.cellsOf 2)) = some y1 := hf 1 _ rfl
    obtain ⟨x0, e0, _, w0⟩ := DataW.trod_int (k := .i64) (by kernel_rfl) h0
    rw [show Try.prog.cellsOf _ = 1 from by kernel_rfl] at e0
    simp at e0
    subst e0
    obtain ⟨x1, e1, _, w1⟩ := DataW.trod_int (k := .i64) (by kernel_rfl) h1
    rw [show Try.prog.cellsOf _ = 1 from by kernel_rfl] at e1
    simp at e1
    subst e1
    exact ⟨⟨x0, x1⟩, ⟨in64_of_wf w0, in64_of_wf w1⟩, rfl⟩
set_option maxRecDepth 100000 in
theorem Leg_open {H : Type} {enc : TypeId × Value → H} {W : World} {spare : Nat → Bool} {held : Bool} {r : Reach} {b0 : Nat} {v : Value} {d : DataW H} {p : List MemPlace} (hv : Value.okWide Try.prog W r b0 116 v) (h : DataW.Trod enc Try.prog W 0 spare held 116 v d p) : ∃ x : Leg, okLeg x ∧ v = .agg #[.int .i64 x.inst, .int .i64 x.qty] := by
  obtain ⟨cs, rfl, hsz⟩ := okWide_struct Try.underlying116 hv
  obtain ⟨fuel, hf⟩ := h
  rw [show Try.prog.cellsOf _ = 2 from by kernel_rfl] at hsz
  obtain ⟨x, hx, he⟩ := Leg_cells cs.toList fuel _ (by simpa using hsz) (by simpa [Value.cells] using hf)
  refine ⟨x, hx, ?_⟩
  obtain ⟨l⟩ := cs
  simp only at he
  rw [he]; rfl
set_option maxRecDepth 100000 in
theorem legs_cells {H : Type} {enc : TypeId × Value → H} {W : World} {spare : Nat → Bool} {held : Bool} {fuel : Nat} {cs : List Value} {y : DataW H × List MemPlace} (h : DataW.trod enc Try.prog W 0 spare held fuel 23 cs = some y) :
    ∃ (l : List Leg) (A : Option Addr) (c : Nat), cs = [.slice A l.length c] ∧ (∀ x ∈ l, okLeg x) ∧ Rs W 2 (l.map encLeg) A c := by
  obtain ⟨l, A, c, h1, h2, h3, h4, h5, h6⟩ := slice_open0 (enc1 := encLeg) Try.underlying23 (by kernel_rfl) (fun cs n y => Leg_cells cs n y) (fun _ _ => rfl) (by omega) h
  exact ⟨l, A, c, h1, h2, ⟨h6, by rw [List.length_map]; exact h3, h4, h5⟩⟩
set_option maxRecDepth 100000 in
theorem legs_open {H : Type} {enc : TypeId × Value → H} {W : World} {spare : Nat → Bool} {held : Bool} {base : Nat} {r : Reach} {v : Value} {d : DataW H} {p : List MemPlace}
    (hv : Value.okWide Try.prog W r base 23 v) (h : DataW.Trod enc Try.prog W 0 spare held 23 v d p) :
    ∃ (l : List Leg) (A : Option Addr) (c : Nat), v = .slice A l.length c ∧ (∀ x ∈ l, okLeg x) ∧ Rs W 2 (l.map encLeg) A c := by
  obtain ⟨a0, len0, cap0, rfl⟩ := okWide_slice Try.underlying23 hv
  obtain ⟨fuel, hf⟩ := h
  obtain ⟨l, A, c, h1, h2, h3⟩ := legs_cells hf
  simp [Value.cells] at h1
  obtain ⟨rfl, rfl, rfl⟩ := h1
  exact ⟨l, _, _, rfl, h2, h3⟩
set_option maxRecDepth 100000 in
theorem legss_open {H : Type} {enc : TypeId × Value → H} {W : World} {spare : Nat → Bool} {held : Bool} {base : Nat} {r : Reach} {v : Value} {d : DataW H} {p : List MemPlace}
    (hv : Value.okWide Try.prog W r base 51 v) (h : DataW.Trod enc Try.prog W 0 spare held 51 v d p) :
    ∃ (ls : List (List Leg)) (A : Option Addr) (c : Nat), v = .slice A ls.length c ∧ (∀ l ∈ ls, (∀ x ∈ l, okLeg x) ∧ l.length ≤ maxLen) ∧ RsS 2 encLeg W ls A c ∧ ls.length ≤ maxLen := by
  obtain ⟨a0, len0, cap0, rfl⟩ := okWide_slice Try.underlying51 hv
  obtain ⟨fuel, hf⟩ := h
  obtain ⟨ls, rows, A, c, h1, h2, h3⟩ := slice_rel (R := fun r (l : List Leg) => (∃ v, r = enc1 v ∧ IsSl 2 encLeg W v l) ∧ (∀ x ∈ l, okLeg x) ∧ l.length ≤ maxLen) Try.underlying51 (k := 1) (by kernel_rfl) (fun cs n y hlen hy => by
    obtain ⟨l, A, c, rfl, hok, hrs⟩ := legs_cells hy
    have hc := hrs.cap
    rw [List.length_map] at hc
    exact ⟨l, ⟨⟨_, rfl, isl hrs⟩, hok, Nat.le_trans hc hrs.room⟩, rfl⟩) (by omega) hf
  simp [Value.cells] at h1
  obtain ⟨rfl, rfl, rfl⟩ := h1
  obtain ⟨vs, hvl, hvp⟩ := list_choose (n := ls.length) (p := fun i v => ∃ l, ls[i]? = some l ∧ rows[i]? = some (enc1 v) ∧ IsSl 2 encLeg W v l) (fun i hi => by
    obtain ⟨r, hr, ⟨v, rfl, hv⟩, _⟩ := h2.get hi
    exact ⟨v, ls[i], List.getElem?_eq_getElem hi, hr, hv⟩)
  have hrows : rows = vs.map enc1 := by
    apply List.ext_getElem?
    intro i
    rw [List.getElem?_map]
    rcases Nat.lt_or_ge i vs.length with hi | hi
    · obtain ⟨l, _, h5, _⟩ := hvp i hi
      rw [h5, List.getElem?_eq_getElem hi]; rfl
    · rw [List.getElem?_eq_none hi, List.getElem?_eq_none (by rw [h2.len]; omega)]; rfl
  refine ⟨ls, _, _, rfl, fun l hl => ?_, ⟨⟨vs, ⟨hvl, fun i a b ha hb => ?_⟩, by rw [← hrows]; exact h3⟩⟩, ?_⟩
  · obtain ⟨i, hi, rfl⟩ := List.mem_iff_getElem.1 hl
    obtain ⟨r, _, _, h6⟩ := h2.get hi
    exact h6
  · obtain ⟨hi, rfl⟩ := List.getElem?_eq_some_iff.1 ha
    obtain ⟨l, h5, _, h6⟩ := hvp i hi
    rw [hb] at h5
    injection h5 with h5
    subst h5
    exact h6
  · have := h3.cap
    have := h3.room
    rw [h2.len] at *
    omega
end Go.Proofs.Ytiidplinmempcaa

/- Tables of instruments, legs handed in. -/
namespace Go.Proofs.Ytiidplinmempcaa
open Go.ChangeShapes Go.WideShapes Go.ChangeAt Go.RowKit Go.Joins
set_option maxRecDepth 100000 in
theorem insts_open {H : Type} {enc : TypeId × Value → H} {W : World} {spare : Nat → Bool} {held : Bool} {base : Nat} {r : Reach} {v : Value} {d : DataW H} {p : List MemPlace}
    (hv : Value.okWide Try.prog W r base 22 v) (h : DataW.Trod enc Try.prog W 0 spare held 22 v d p) :
    ∃ (l : List InstV) (A : Option Addr) (c : Nat), v = .slice A l.length c ∧ l.length ≤ maxLen ∧ Rd W A 5 (l.map encInstV) ∧ ∀ x ∈ l, GoodI W x := by
  obtain ⟨a0, len0, cap0, rfl⟩ := okWide_slice Try.underlying22 hv
  obtain ⟨fuel, hf⟩ := h
  obtain ⟨ls, rows, A, c, h1, h2, h3⟩ := slice_rel (R := fun r (x : InstV) => r = encInstV x ∧ GoodI W x) Try.underlying22 (k := 5) (by kernel_rfl) (fun cs n y hlen hy => by
    obtain ⟨x, B, e, _, rfl, hrs⟩ := Inst_cells cs n y hlen hy
    exact ⟨⟨x.id, x.mult, x.price, x.next, ⟨B, e, x.moves⟩⟩, ⟨rfl, hrs⟩, rfl⟩) (by omega) hf
  simp [Value.cells] at h1
  obtain ⟨rfl, rfl, rfl⟩ := h1
  have hrows : rows = ls.map encInstV := by
    apply List.ext_getElem?
    intro i
    rw [List.getElem?_map]
    rcases Nat.lt_or_ge i ls.length with hi | hi
    · obtain ⟨r, hr, hq, _⟩ := h2.get hi
      rw [hr, List.getElem?_eq_getElem hi, hq]; rfl
    · rw [List.getElem?_eq_none hi, List.getElem?_eq_none (by rw [h2.len]; omega)]; rfl
  have hcap := h3.cap
  have hroom := h3.room
  rw [h2.len] at hcap
  refine ⟨ls, _, _, rfl, by omega, by rw [← hrows]; exact h3.rd, fun x hx => ?_⟩
  obtain ⟨i, hi, rfl⟩ := List.mem_iff_getElem.1 hx
  obtain ⟨r, _, _, hg⟩ := h2.get hi
  exact hg
theorem legs_lenG {w : World} {l : List Leg} {A : Option Addr} {c : Nat} (h : Rs w 2 (l.map encLeg) A c) : l.length ≤ maxLen := by
  have h1 := h.cap
  have h2 := h.room
  rw [List.length_map] at h1; omega
end Go.Proofs.Ytiidplinmempcaa
