/- Joined: Shr2, Away, Shr5, ShrL1. -/
import Derived.Test.YtenehpcliajdnaaJz5
import Derived.Test.YtenehpcliajdnaaJz7
import Derived.Test.YtenehpcliajdnaaJz2
import Derived.BigQuiet
import Derived.Laws.OwnMore
/- Shares: contracts of share.Takes, of the reference's why, Takes and of SameNumbers. -/
namespace Go.Proofs.Ytenehpcliajdnaa
open Go.RowKit
set_option maxRecDepth 100000 in
set_option maxHeartbeats 1000000 in
theorem sameNums (l : List Int) (A B : Option Addr) (c d : Nat) (w : World) (hl : l.length ≤ 1099511627776) (ha : Rd w A 1 (l.map encI)) (hb : Rd w B 1 (l.map encI)) :
    Calls Try.prog 35 #[.slice A l.length c, .slice B l.length d] w fun e w' => e = .returned (.bool true) ∧ Below w.heap.size w w' := by
  have HA := Lib.hid ha
  have HB := Lib.hid hb
  clear ha hb
  go_enter Try.func35, Try.ntmps35
  go_wp2_with fail
  go_loopw [5] (fun i wr => ∃ k : Nat, k ≤ l.length ∧ i = .int .i64 k ∧ ∃ n, wr = w.drewN n) (fun i _ => l.length - (intOf i).toNat)
  case atStart => exact ⟨0, Nat.zero_le _, rfl, 0, rfl⟩
  case round =>
    obtain ⟨k, hk, rfl, nn, rfl⟩ := hrel
    by_cases hlt : k < l.length
    · have kl : (k : Int) < (l.length : Int) := by omega
      obtain ⟨b1, o1, rfl, hb1, hc1⟩ := HA.out k (encI l[k]) (by simp [hlt])
      obtain ⟨b2, o2, rfl, hb2, hc2⟩ := HB.out k (encI l[k]) (by simp [hlt])
      have e0 := hc1 0 _ rfl
      have f0 := hc2 0 _ rfl
      simp only [Nat.add_zero, Nat.mul_one] at e0 f0
      clear hc1 hc2
      go_wp2_with fail
      go_quiet (fail)
      go_wp2_with fail
      go_roundw
      case rel => exact ⟨k + 1, by omega, by go_num, _, rfl⟩
      case measure => simp [intOf]; omega
    · go_wp2_with fail
      go_ret
      exact ⟨rfl, by (repeat' (first | (with_reducible exact Below.refl _ _) | (with_reducible assumption) | (with_reducible refine Below.alloc ?_ ?_ _) | (with_reducible refine Below.setCell ?_ ?_ _) | (with_reducible refine Below.drew ?_) | (with_reducible refine below_drewN ?_ _) | (with_reducible refine below_via ?_ (by with_reducible assumption) ?_) | omega | (simp; done) | (simp; omega)))⟩
/-- One behind the other: parts, and what is left. -/
def tkF : Int → List Int → List Int
  | _, [] => []
  | T, x :: t => min T x :: tkF (T - min T x) t
def tkR : Int → List Int → Int
  | T, [] => T
  | T, x :: t => tkR (T - min T x) t
def tkC (T : Int) (l : List Int) : Int := if rightS T l = true then 0 else 2
def tkL (T : Int) (l : List Int) : List Int := if rightS T l = true then tkF T l else []
def tkN (T : Int) (l : List Int) : Int := if rightS T l = true then tkR T l else 0
def whyS (T : Int) (l : List Int) : Int := if rightS T l = true then (if in64 l.sum = true then 0 else 7) else 2
theorem tkF_len : ∀ (l : List Int) (T : Int), (tkF T l).length = l.length
  | [], _ => rfl
  | x :: t, T => by simp [tkF, tkF_len t]
theorem elI : Elem Try.prog 46 2 1 8 := elem_of Try.underlying46 (z := .int .i64 0) (by kernel_rfl) rfl (by omega)
theorem rowsI1 (x : Int) : ∀ r ∈ [encI x], r.length = 1 ∧ ∀ u ∈ r, u.oneCell' = true := by
  intro r hr
  simp at hr
  subst hr
  exact ⟨rfl, by simp [encI]; rfl⟩
set_option maxRecDepth 100000 in
set_option maxHeartbeats 8000000 in
theorem shrTakes (T : Int) (l : List Int) (A : Option Addr) (c : Nat) (w : World) (hl : l.length ≤ 1000000) (hT : In64 T) (hin : ∀ x ∈ l, In64 x) (hr : Rd w A 1 (l.map encI)) :
    Calls Try.prog 41 #[.int .i64 T, .slice A l.length c] w fun e w' => ∃ v, e = .returned (.tuple #[v, .int .i64 (tkN T l), .int .i64 (tkC T l)]) ∧ Own w' w.heap.size 2 1 v ((tkL T l).map encI) ∧ Below w.heap.size w w' := by
  have HR := Lib.hid hr
  have HIN := Lib.hid hin
  have c1 := fun W h => shrRight T l A c W hl h
  clear hr hin
  cases h : rightS T l
  · have HN := Lib.hid (show tkN T l = 0 from by unfold tkN; rw [h]; rfl)
    have HC := Lib.hid (show tkC T l = 2 from by unfold tkC; rw [h]; rfl)
    have HL := Lib.hid (show tkL T l = [] from by unfold tkL; rw [h]; rfl)
    rw [h] at c1
    have C1 := Lib.hid c1
    clear c1 h
    go_enter Try.func41, Try.ntmps41
    go_wp2_with (first | (go_at_call 61; (with_reducible refine (C1.out _ (HR.out.keep (by (repeat' (first | (with_reducible exact Below.refl _ _) | (with_reducible assumption) | (with_reducible refine Below.alloc ?_ ?_ _) | (with_reducible refine Below.setCell ?_ ?_ _) | (with_reducible refine Below.drew ?_) | (with_reducible refine below_drewN ?_ _) | (with_reducible refine below_via ?_ (by with_reducible assumption) ?_) | omega | (simp; done) | (simp; omega)))))).mono ?_); rintro e w1 ⟨rfl, hb1⟩; obtain ⟨fc1, fg1, hc1, hf1, hz1⟩ := bget hb1; (try simp at hz1)) | fail)
    refine bodyPost_ret (by simp [results, Try.results41, go_sem]; try rfl) rfl ⟨_, by rw [HN.out, HC.out], by rw [HL.out]; exact Own.nil _ _ _ _, ?_⟩
    (repeat' (first | (with_reducible exact Below.refl _ _) | (with_reducible assumption) | (with_reducible refine Below.alloc ?_ ?_ _) | (with_reducible refine Below.setCell ?_ ?_ _) | (with_reducible refine Below.drew ?_) | (with_reducible refine below_drewN ?_ _) | (with_reducible refine below_via ?_ (by with_reducible assumption) ?_) | omega | (simp; done) | (simp; omega)))
  · obtain ⟨t0, t1⟩ := right_iff.1 h
    have HN := Lib.hid (show tkN T l = tkR T l from by unfold tkN; rw [h]; rfl)
    have HC := Lib.hid (show tkC T l = 0 from by unfold tkC; rw [h]; rfl)
    have HL := Lib.hid (show tkL T l = tkF T l from by unfold tkL; rw [h]; rfl)
    have H0 := Lib.hid t1
    rw [h] at c1
    have C1 := Lib.hid c1
    unfold In64 at hT
    clear c1 h t1
    go_enter Try.func41, Try.ntmps41
    go_wp2_with (first | (go_at_call 61; (with_reducible refine (C1.out _ (HR.out.keep (by (repeat' (first | (with_reducible exact Below.refl _ _) | (with_reducible assumption) | (with_reducible refine Below.alloc ?_ ?_ _) | (with_reducible refine Below.setCell ?_ ?_ _) | (with_reducible refine Below.drew ?_) | (with_reducible refine below_drewN ?_ _) | (with_reducible refine below_via ?_ (by with_reducible assumption) ?_) | omega | (simp; done) | (simp; omega)))))).mono ?_); rintro e w1 ⟨rfl, hb1⟩; obtain ⟨fc1, fg1, hc1, hf1, hz1⟩ := bget hb1; (try simp at hz1)) | (at_make; refine wpList_mk rfl _ _ _ rfl elI w.heap.size _ _ _ l.length rfl rfl (by omega) (by omega) (by unfold maxLen; omega) (by omega) ?_; intro w2 hown2 hb2))
    have Hown2 := Lib.hid hown2
    have Hb2 := Lib.hid (show Below w.heap.size w w2 from by have h1 := hb2; (repeat' (first | (with_reducible exact Below.refl _ _) | (with_reducible assumption) | (with_reducible refine Below.alloc ?_ ?_ _) | (with_reducible refine Below.setCell ?_ ?_ _) | (with_reducible refine Below.drew ?_) | (with_reducible refine below_drewN ?_ _) | (with_reducible refine below_via ?_ (by with_reducible assumption) ?_) | omega | (simp; done) | (simp; omega))))
    clear hown2 hb2
    go_loopw [0, 7, 20] (fun tv v i wr => ∃ (k : Nat) (z : Int) (out : List Int), k ≤ l.length ∧ i = .int .i64 k ∧ tv = .int .i64 z ∧ 0 ≤ z ∧ z ≤ T ∧ out.length = k ∧ Own wr w.heap.size 2 1 v (out.map encI) ∧ tkF T l = out ++ tkF z (l.drop k) ∧ tkR T l = tkR z (l.drop k) ∧ Below w.heap.size w wr) (fun _ _ i _ => l.length - (intOf i).toNat)
    case atStart => exact ⟨0, T, [], Nat.zero_le _, rfl, rfl, t0, by omega, rfl, by simpa using Hown2.out, rfl, rfl, Hb2.out⟩
    case round =>
      obtain ⟨k, z, out, hk, rfl, rfl, z0, z1, hol, hown, h1, h2, hbl⟩ := hrel
      have Hown := Lib.hid hown
      have Hbl := Lib.hid hbl
      have hz := hbl.size
      have G1 := Lib.hid h1
      have G2 := Lib.hid h2
      have hlo : (out.map encI).length ≤ 1000000 := by rw [List.length_map]; omega
      clear hown hbl h1 h2
      by_cases hlt : k < l.length
      · have kl : (k : Int) < (l.length : Int) := by omega
        have dl : decide ((k : Int) < (l.length : Int)) = true := by simpa using hlt
        obtain ⟨b, o, rfl, hb, hc⟩ := HR.out k (encI l[k]) (by simp [hlt])
        have e0 := (Hbl.out.cell (p := ⟨b, o + k * 1 + 0, none⟩) hb).trans (hc 0 _ rfl)
        simp only [Nat.add_zero, Nat.mul_one] at e0
        have hbw : b < wr.heap.size := by omega
        have hx0 := H0.out l[k] (List.getElem_mem hlt)
        have hp0 : 0 ≤ min z l[k] ∧ min z l[k] ≤ z := by omega
        have N1 := Lib.hid (show tkF T l = (out ++ [min z l[k]]) ++ tkF (z - (min z l[k])) (l.drop (k + 1)) from by rw [G1.out, drop_cons' hlt, List.append_assoc]; show out ++ (min z l[k] :: tkF (z - min z l[k]) _) = _; rfl)
        have N2 := Lib.hid (show tkR T l = tkR (z - (min z l[k])) (l.drop (k + 1)) from by rw [G2.out, drop_cons' hlt]; show tkR (z - min z l[k]) _ = _; rfl)
        clear hc
        obtain ⟨x, hxe⟩ : ∃ x, x = l[k] := ⟨_, rfl⟩
        rw [← hxe] at e0 hx0 hp0 N1 N2
        clear hxe
        go_wp2_with (first | (at_builtin; refine wpList_app rfl _ _ _ rfl elI w.heap.size _ _ rfl (Hown.out.alloc _) (some ⟨_, 0, none⟩) 1 1 rfl [encI (min z x)] rfl (fun h => by cases h) (rd_oneN (by simp)) (rowsI1 _) (by unfold maxLen; first | (simp; done) | omega | (simp; omega)) (by first | (simp; done) | omega | (simp; omega)) (by first | omega | (simp; done) | (simp; omega)) ?_; intro v3 w3 hown3 hb3; obtain ⟨fc3, fg3, hc3, hf3, hz3⟩ := bget hb3; (try simp at hz3)) | fail)
        go_roundw
        case rel => exact ⟨k + 1, z - (min z x), out ++ [min z x], by omega, by go_num, by go_num, by omega, by omega, by simp; omega, by rw [List.map_append]; exact hown3, N1.out, N2.out, by have hbl := Hbl.out; (repeat' (first | (with_reducible exact Below.refl _ _) | (with_reducible assumption) | (with_reducible refine Below.alloc ?_ ?_ _) | (with_reducible refine Below.setCell ?_ ?_ _) | (with_reducible refine Below.drew ?_) | (with_reducible refine below_drewN ?_ _) | (with_reducible refine below_via ?_ (by with_reducible assumption) ?_) | omega | (simp; done) | (simp; omega)))⟩
        case measure => simp [intOf]; omega
      · have dl : decide ((k : Int) < (l.length : Int)) = false := by simpa using hlt
        have hd : l.drop k = [] := List.drop_eq_nil_of_le (by omega)
        have E1 := Lib.hid (show tkF T l = out from by rw [G1.out, hd]; simp [tkF])
        have E2 := Lib.hid (show tkR T l = z from by rw [G2.out, hd]; rfl)
        clear hd
        go_wp2_with fail
        have hbl := Hbl.out
        refine bodyPost_ret (by simp [results, Try.results41, go_sem]; try rfl) rfl ⟨_, by rw [HN.out, HC.out, E2.out], by rw [HL.out, E1.out]; exact Hown.out, ?_⟩
        (repeat' (first | (with_reducible exact Below.refl _ _) | (with_reducible assumption) | (with_reducible refine Below.alloc ?_ ?_ _) | (with_reducible refine Below.setCell ?_ ?_ _) | (with_reducible refine Below.drew ?_) | (with_reducible refine below_drewN ?_ _) | (with_reducible refine below_via ?_ (by with_reducible assumption) ?_) | omega | (simp; done) | (simp; omega)))
end Go.Proofs.Ytenehpcliajdnaa

/- What append, Insert leave as it was: all blocks of other types. No program in sight. -/
namespace Go.Proofs.Ytenehpcliajdnaa
open Go.RowKit
/-- All that is no row of elements E is as it was. -/
structure Away (E : TypeId) (w w' : World) : Prop where
  size : w.heap.size ≤ w'.heap.size
  block : ∀ b, b < w.heap.size → (∀ cs r, w.heap[b]? ≠ some (.cells cs E r)) → w'.heap[b]? = w.heap[b]?
section
variable {E E' : TypeId} {w w1 w2 w' : World}
theorem Away.refl (E : TypeId) (w : World) : Away E w w := ⟨Nat.le_refl _, fun _ _ _ => rfl⟩
theorem Away.trans (h : Away E w w1) (k : Away E w1 w2) : Away E w w2 :=
  ⟨Nat.le_trans h.size k.size, fun b hb hne => by
    have h1 := h.block b hb hne
    exact (k.block b (Nat.lt_of_lt_of_le hb h.size) (fun cs r => by rw [h1]; exact hne cs r)).trans h1⟩
theorem Away.below (h : Below w.heap.size w w') : Away E w w' := ⟨h.size, fun b hb _ => h.block b hb⟩
theorem Away.grown {row : Option Nat} (h : w.grownBy w' row) (hE : ∀ g, row = some g → ∃ cs r, w.heap[g]? = some (.cells cs E r)) : Away E w w' :=
  ⟨h.size, fun b hb hne => h.block b hb (fun e => by
    obtain ⟨cs, r, hc⟩ := hE b e.symm
    exact hne cs r hc)⟩
theorem Own.typed {base k : Nat} {v : Value} {rows : List (List Value)} (h : Own w base E k v rows) : ∀ g, v.ownBlock = some g → ∃ cs r, w.heap[g]? = some (.cells cs E r) := by
  intro g hg
  rcases h.2.2 with ⟨rfl, _⟩ | ⟨g', cap, cur, rfl, _, hh, _⟩
  · simp [Value.ownBlock] at hg
  · simp [Value.ownBlock] at hg
    subst hg
    exact ⟨cur, (0, 0), hh⟩
theorem Own.away {base k : Nat} {v : Value} {rows : List (List Value)} (h : Own w base E' k v rows) (ha : Away E w w') (hne : E' ≠ E) : Own w' base E' k v rows := by
  refine ⟨h.1, h.2.1, ?_⟩
  rcases h.2.2 with h2 | ⟨g, cap, cur, hv, hg, hh, r⟩
  · exact .inl h2
  · refine .inr ⟨g, cap, cur, hv, hg, ?_, r⟩
    rw [ha.block g (Array.getElem?_eq_some_iff.1 hh).1 (fun cs r e => by
      rw [hh] at e
      injection e with e
      injection e with _ e _
      exact hne e)]
    exact hh
theorem Own.good {base k : Nat} {A : Option Addr} {n c : Nat} {rows : List (List Value)} (h : Own w base E k (.slice A n c) rows) : Rs w k rows A c := by
  obtain ⟨A', c', hv, hrs, _⟩ := h.rs
  injection hv with e1 e2 e3
  subst e1 e3
  exact hrs
theorem Away.set (w : World) {p : Addr} (u : Value) (h : ∃ cs r, w.heap[p.block]? = some (.cells cs E r)) : Away E w (w.setCell p u) :=
  ⟨by simp [World.setCell], fun b _ hne => Below.heap_setCell w p u b (fun e => by
    obtain ⟨cs, r, hc⟩ := h
    exact hne cs r (by rw [e]; exact hc))⟩
theorem Away.setTy (h : Away E w w1) {p : Addr} (ht : ∃ cs r, w.heap[p.block]? = some (.cells cs E r)) (u : Value) : Away E w (w1.setCell p u) :=
  ⟨by simpa [World.setCell] using h.size, fun b hb hne => (Below.heap_setCell w1 p u b (fun e => by
    obtain ⟨cs, r, hc⟩ := ht
    exact hne cs r (by rw [e]; exact hc))).trans (h.block b hb hne)⟩
theorem Away.only {g : Nat} (h : Only g w w') (ht : ∃ cs r, w.heap[g]? = some (.cells cs E r)) : Away E w w' :=
  ⟨h.size, fun b hb hne => h.block b hb (fun e => by
    obtain ⟨cs, r, hc⟩ := ht
    exact hne cs r (by rw [e]; exact hc))⟩
theorem Own.at {base k : Nat} {A : Option Addr} {n c : Nat} {rows : List (List Value)} (h : Own w base E k (.slice A n c) rows) (h0 : 0 < rows.length) : ∃ g, A = some ⟨g, 0, none⟩ ∧ base ≤ g ∧ g < w.heap.size := by
  obtain ⟨A', c', hv, _, hf⟩ := h.rs
  injection hv with e1 e2 e3
  subst e1 e3
  rcases hf with ⟨_, h2, _⟩ | hg
  · rw [h2] at h0; simp at h0
  · exact hg
theorem grown_of_below {row : Option Nat} (h : Below w.heap.size w w') : w.grownBy w' row := ⟨h.os, h.tape, h.output, h.size, fun k hk _ => h.block k hk⟩
theorem grown_of_only {g : Nat} (h : Only g w w1) (k : Only g w1 w2) : w.grownBy w2 (some g) :=
  ⟨(h.trans k).os, (h.trans k).tape, (h.trans k).output, (h.trans k).size, fun b hb hne => (h.trans k).block b hb (fun e => hne (by rw [e]))⟩
end
theorem wp_appG {P : Program} {o : Oper} {a : Act} {K : Act → World → Prop} {Q : Exit → Act → World → Prop} {w : World} (s x : Operand) (T : TypeId)
    (ho : o.op = .call { callee := .builtin .append, args := #[s, x], argTypes := #[T, T] }) {E k bytes : Nat} (el : Elem P T E k bytes)
    (base : Nat) (v : Value) (rows : List (List Value)) (hs : a.eval s = v) (hown : Own w base E k v rows)
    (ad : Addr) (m c : Nat) (hx : a.eval x = .slice (some ad) m c) (news : List (List Value)) (hm : news.length = m) (hr : Rd w (some ad) k news) (hk : ∀ r ∈ news, r.length = k ∧ ∀ u ∈ r, u.oneCell' = true)
    (h63 : rows.length + m ≤ maxLen) (hbytes : (rows.length + m) * bytes ≤ 140737488355328) (hbase : base ≤ w.heap.size)
    (h : ∀ v' w', Own w' base E k v' (rows ++ news) → Below base w w' → w.grownBy w' v.ownBlock → K (a.put o.dst v') w') : o.wp P a w K Q := by
  obtain ⟨i, z, hi, hz, hsize, hby, hzs⟩ := el.info
  have hkl : ∀ r ∈ news, r.length = k := fun r hr => (hk r hr).1
  have hall : ∀ r ∈ rows ++ news, r.length = k := fun r hr => by
    rcases List.mem_append.1 hr with h1 | h1
    · exact hown.1 r h1
    · exact hkl r h1
  refine wp_append_own w s x T ho base E i z k bytes el.ty hi hz hsize hby hzs el.pos v rows.length rows.flatten hs hown.2 ad m c news.flatten hx (by rw [flatten_length hkl, hm]) (rd_cells hkl hr) (fun u hu => by
      obtain ⟨r, hr1, hr2⟩ := List.mem_flatten.1 hu
      exact (hk r hr1).2 u hr2) h63 hbytes hbase fun v' w' h1 h2 _ => ?_
  exact h v' w' ⟨hall, by rw [List.length_append, hm, List.flatten_append]; exact h1⟩ ((Below.refl base w).grown h2 hbase (fun g hg => (hown.block g hg).1)) h2
theorem wpList_appG {P : Program} {ops : Array Oper} {rest : List Oper} {o : Oper} {a : Act} {Q : Exit → Act → World → Prop} {w : World} (hgd : o.guard = none) (s x : Operand) (T : TypeId)
    (ho : o.op = .call { callee := .builtin .append, args := #[s, x], argTypes := #[T, T] }) {E k bytes : Nat} (el : Elem P T E k bytes)
    (base : Nat) (v : Value) (rows : List (List Value)) (hs : a.eval s = v) (hown : Own w base E k v rows)
    (ad : Addr) (m c : Nat) (hx : a.eval x = .slice (some ad) m c) (news : List (List Value)) (hm : news.length = m) (hr : Rd w (some ad) k news) (hk : ∀ r ∈ news, r.length = k ∧ ∀ u ∈ r, u.oneCell' = true)
    (h63 : rows.length + m ≤ maxLen) (hbytes : (rows.length + m) * bytes ≤ 140737488355328) (hbase : base ≤ w.heap.size)
    (h : ∀ v' w', Own w' base E k v' (rows ++ news) → Below base w w' → w.grownBy w' v.ownBlock → wpList P ops Q rest (a.put o.dst v') w') : wpList P ops Q (o :: rest) a w :=
  wpList_plain hgd fun _ hK => wp_appG s x T ho el base v rows hs hown ad m c hx news hm hr hk h63 hbytes hbase fun v' w' h1 h2 h3 => hK _ _ (h v' w' h1 h2 h3)
end Go.Proofs.Ytenehpcliajdnaa

/- Shares: contract of share.Split. -/
namespace Go.Proofs.Ytenehpcliajdnaa
open Go.RowKit
theorem mkInts (n : Nat) (hn : n ≤ 1000000) (w : World) : (Instr.makeSlice 46 (.int .i64 (n : Int)) (.int .i64 (n : Int))).run Try.prog w = .ok (.slice (some ⟨w.heap.size, 0, none⟩) n n) (w.alloc (.cells (madeCells #[.int .i64 0] n) 2)) := by
  obtain ⟨i, hi, h1, h2, h3⟩ : ∃ i, Try.prog.info? 2 = some i ∧ i.zero = some (.int .i64 0) ∧ i.size = 1 ∧ i.bytes = 8 := by
    have h : (Try.prog.info? 2).map (fun i => (i.zero, i.size, i.bytes)) = some (some (.int .i64 0), 1, 8) := by kernel_rfl
    cases hh : Try.prog.info? 2 with
    | none => rw [hh] at h; cases h
    | some i => rw [hh] at h; simp at h; exact ⟨i, rfl, h.1, h.2.1, h.2.2⟩
  have hr := run_makeSlice (P := Try.prog) (w := w) 46 2 i (.int .i64 0) Try.underlying46 hi h1 .i64 .i64 n n (by omega) (Int.le_refl _) (by rw [h2]; simp; omega) (by rw [h3]; simp; omega) (by omega)
  rw [h2] at hr
  simpa [Value.cells] using hr
theorem ownZeros (w : World) (n : Nat) (hn : n ≤ 1000000) {base : Nat} (hb : base ≤ w.heap.size) : Own (w.alloc (.cells (madeCells #[.int .i64 0] n) 2)) base 2 1 (.slice (some ⟨w.heap.size, 0, none⟩) n n) ((List.replicate n (0 : Int)).map encI) := by
  have h := World.ownsRow_lit (base := base) (e := 2) (size := 1) w (madeCells #[.int .i64 0] n) n hb (by unfold maxLen; omega) (by simp [size_madeCells])
  refine ⟨fun r hr => ?_, ?_⟩
  · obtain ⟨x, _, rfl⟩ := List.mem_map.1 hr; rfl
  · have e1 : ((List.replicate n (0 : Int)).map encI).length = n := by simp
    have e2 : ((List.replicate n (0 : Int)).map encI).flatten = (madeCells #[.int .i64 0] n).toList := by
      rw [toList_madeCells_one, List.map_replicate, encI]
      induction n with
      | zero => rfl
      | succ n ih => simp [List.replicate_succ]
    rw [e1, e2]
    exact h
def spC (T : Int) (l : List Int) : Int := if rightS T l = true then (if in64 l.sum = true then (if T = 0 then 0 else if l.sum = 0 then 8 else 0) else 7) else 2
def spL (T : Int) (l : List Int) : List Int := if spC T l = 0 then (if T = 0 then List.replicate l.length 0 else spR T l.sum l) else []
theorem give_snoc : ∀ (t : List Quo) (P : List Int) (x : Quo), give P (t ++ [x]) = addAt (give P t) x.pos.toNat
  | [], P, x => rfl
  | y :: t, P, x => by
    show give (addAt P y.pos.toNat) (t ++ [x]) = addAt (give (addAt P y.pos.toNat) t) x.pos.toNat
    exact give_snoc t _ x
theorem give_nonneg : ∀ (t : List Quo) (P : List Int) (_ : ∀ z ∈ P, 0 ≤ z), ∀ z ∈ give P t, 0 ≤ z
  | [], P, h => h
  | x :: t, P, h => by
    refine give_nonneg t _ fun z hz => ?_
    unfold addAt at hz
    rcases List.mem_or_eq_of_mem_set hz with hz | rfl
    · exact h z hz
    · have : 0 ≤ P.getD x.pos.toNat 0 := by
        rw [List.getD_eq_getElem?_getD]
        cases hh : P[x.pos.toNat]? with
        | none => simp
        | some y => simpa using h y (List.mem_of_getElem? hh)
      omega
/-- The first k parts, nothing behind them. -/
def mid (P : List Int) (n k : Nat) : List Int := P.take k ++ List.replicate (n - k) 0
theorem mid_len {P : List Int} {n k : Nat} (hP : P.length = n) (hk : k ≤ n) : (mid P n k).length = n := by unfold mid; simp; omega
theorem mid_set {P : List Int} {n k : Nat} (hP : P.length = n) (hk : k < n) : (mid P n k).set k (P[k]'(by omega)) = mid P n (k + 1) := by
  unfold mid
  have h1 : (P.take k).length = k := by rw [List.length_take]; omega
  rw [List.set_append_right _ _ (by omega), h1, Nat.sub_self, show n - k = (n - (k + 1)) + 1 from by omega, List.replicate_succ, List.set_cons_zero, List.take_succ_eq_append_getElem (by omega), List.append_assoc]
  rfl
theorem rest_len {T S : Int} {l : List Int} (hT : 0 ≤ T) (hS : 0 < S) (hsl : l.sum = S) : restN T S l ≤ l.length := by
  obtain ⟨L, hp, hs⟩ := sort_ex (quoF T S 0 l) (quoF_pos T S l 0)
  obtain ⟨_, _, r3⟩ := rest_is hT hS hsl
  have := (perm_facts hS hp r3 hs).2.2.2
  rw [hp.length_eq, quoF_len] at this
  exact this
theorem only_cell {g : Nat} {w w' : World} (h : Only g w w') {b o : Nat} (hb : b < w.heap.size) (hne : b ≠ g) : w'.cell? ⟨b, o, none⟩ = w.cell? ⟨b, o, none⟩ := World.cell?_of_block (w := w) (h.block b hb hne)
theorem own_put1 {w : World} {base g n : Nat} {L : List Int} (h : Own w base 2 1 (.slice (some ⟨g, 0, none⟩) n n) (L.map encI)) {k : Nat} (hk : k < L.length) (x : Int) : Own (w.setCell ⟨g, k, none⟩ (.int .i64 x)) base 2 1 (.slice (some ⟨g, 0, none⟩) n n) ((L.set k x).map encI) := by
  have h1 := h.put rfl (i := k) (r := encI L[k]) (by simp [hk]) (show 0 < 1 by omega) (.int .i64 x)
  rw [Nat.mul_one, Nat.add_zero] at h1
  rw [List.map_set]
  exact h1
theorem own_cell1 {w : World} {base g n : Nat} {L : List Int} (h : Own w base 2 1 (.slice (some ⟨g, 0, none⟩) n n) (L.map encI)) {k : Nat} (hk : k < L.length) : w.cell? ⟨g, k, none⟩ = some (.int .i64 L[k]) := by
  obtain ⟨b', o', e', hb', hcc⟩ := (h.rd).1 k (encI L[k]) (by simp [hk])
  injection e' with e'
  injection e' with e1 e2 _
  subst e1 e2
  have := hcc 0 _ rfl
  simpa using this
set_option maxRecDepth 100000 in
set_option maxHeartbeats 16000000 in
theorem shrSplit (T : Int) (l : List Int) (A : Option Addr) (c : Nat) (w : World) (hl : l.length ≤ 1000000) (hT : In64 T) (hin : ∀ x ∈ l, In64 x) (hr : Rd w A 1 (l.map encI)) :
    Calls Try.prog 33 #[.int .i64 T, .slice A l.length c] w fun e w' => ∃ v, e = .returned (.tuple #[v, .int .i64 (spC T l)]) ∧ Own w' w.heap.size 2 1 v ((spL T l).map encI) ∧ Below w.heap.size w w' := by
  have HR := Lib.hid hr
  have c1 := fun W h => shrRight T l A c W hl h
  have hmk := fun W => mkInts l.length hl W
  clear hr
  cases h1 : rightS T l
  · have HC := Lib.hid (show spC T l = 2 from by unfold spC; rw [h1]; rfl)
    have HL := Lib.hid (show spL T l = [] from by unfold spL; rw [HC.out]; rfl)
    rw [h1] at c1
    have C1 := Lib.hid c1
    clear c1 h1 hmk
    go_enter Try.func33, Try.ntmps33
    go_wp2_with (first | (go_at_call 61; (with_reducible refine (C1.out _ (HR.out.keep (by (repeat' (first | (with_reducible exact Below.refl _ _) | (with_reducible assumption) | (with_reducible refine Below.alloc ?_ ?_ _) | (with_reducible refine Below.setCell ?_ ?_ _) | (with_reducible refine Below.drew ?_) | (with_reducible refine below_drewN ?_ _) | (with_reducible refine below_via ?_ (by with_reducible assumption) ?_) | omega | (simp; done) | (simp; omega)))))).mono ?_); rintro e w1 ⟨rfl, hb1⟩; obtain ⟨fc1, fg1, hc1, hf1, hz1⟩ := bget hb1; (try simp at hz1)) | fail)
    go_ret2
    exact ⟨_, by rw [HC.out]; rfl, by rw [HL.out]; exact Own.nil _ _ _ _, by (repeat' (first | (with_reducible exact Below.refl _ _) | (with_reducible assumption) | (with_reducible refine Below.alloc ?_ ?_ _) | (with_reducible refine Below.setCell ?_ ?_ _) | (with_reducible refine Below.drew ?_) | (with_reducible refine below_drewN ?_ _) | (with_reducible refine below_via ?_ (by with_reducible assumption) ?_) | omega | (simp; done) | (simp; omega)))⟩
  obtain ⟨t0, t1⟩ := right_iff.1 h1
  have HCD := Lib.hid (show spC T l = (if in64 l.sum = true then (if T = 0 then 0 else if l.sum = 0 then 8 else 0) else 7) from by unfold spC; rw [h1]; rfl)
  rw [h1] at c1
  have C1 := Lib.hid c1
  clear c1 h1
  cases h2 : in64 l.sum
  · have HC := Lib.hid (show spC T l = 7 from by rw [HCD.out, h2]; rfl)
    have HL := Lib.hid (show spL T l = [] from by unfold spL; rw [HC.out]; rfl)
    have C2 := Lib.hid (fun W h => fixSumNo l A c W (by omega) hin h (fun hs => by rw [in64_iff.2 hs] at h2; cases h2))
    clear h2 HCD
    go_enter Try.func33, Try.ntmps33
    go_wp2_with (first | (go_at_call 61; (with_reducible refine (C1.out _ (HR.out.keep (by (repeat' (first | (with_reducible exact Below.refl _ _) | (with_reducible assumption) | (with_reducible refine Below.alloc ?_ ?_ _) | (with_reducible refine Below.setCell ?_ ?_ _) | (with_reducible refine Below.drew ?_) | (with_reducible refine below_drewN ?_ _) | (with_reducible refine below_via ?_ (by with_reducible assumption) ?_) | omega | (simp; done) | (simp; omega)))))).mono ?_); rintro e w1 ⟨rfl, hb1⟩; obtain ⟨fc1, fg1, hc1, hf1, hz1⟩ := bget hb1; (try simp at hz1)) | (go_at_call 57; (with_reducible refine (C2.out _ (HR.out.keep (by (repeat' (first | (with_reducible exact Below.refl _ _) | (with_reducible assumption) | (with_reducible refine Below.alloc ?_ ?_ _) | (with_reducible refine Below.setCell ?_ ?_ _) | (with_reducible refine Below.drew ?_) | (with_reducible refine below_drewN ?_ _) | (with_reducible refine below_via ?_ (by with_reducible assumption) ?_) | omega | (simp; done) | (simp; omega)))))).mono ?_); rintro e w2 ⟨rfl, hb2⟩; obtain ⟨fc2, fg2, hc2, hf2, hz2⟩ := bget hb2; (try simp at hz2)) | fail)
    go_ret2
    exact ⟨_, by rw [HC.out]; rfl, by rw [HL.out]; exact Own.nil _ _ _ _, by (repeat' (first | (with_reducible exact Below.refl _ _) | (with_reducible assumption) | (with_reducible refine Below.alloc ?_ ?_ _) | (with_reducible refine Below.setCell ?_ ?_ _) | (with_reducible refine Below.drew ?_) | (with_reducible refine below_drewN ?_ _) | (with_reducible refine below_via ?_ (by with_reducible assumption) ?_) | omega | (simp; done) | (simp; omega)))⟩
  have hs64 := in64_iff.1 h2
  have C2 := Lib.hid (fun W h => fixSumYes l A c W (by omega) hin h hs64)
  have hs0 := sum_nonneg' t1
  by_cases h3 : T = 0
  · have HC := Lib.hid (show spC T l = 0 from by rw [HCD.out, h2, if_pos rfl, if_pos h3])
    have HL := Lib.hid (show spL T l = List.replicate l.length 0 from by unfold spL; rw [HC.out, if_pos rfl, if_pos h3])
    have d3 : (T == 0) = true := by simpa using h3
    clear h3 h2 HCD
    generalize l.sum = S at *
    go_enter Try.func33, Try.ntmps33
    go_wp2_with (first | (go_at_call 61; (with_reducible refine (C1.out _ (HR.out.keep (by (repeat' (first | (with_reducible exact Below.refl _ _) | (with_reducible assumption) | (with_reducible refine Below.alloc ?_ ?_ _) | (with_reducible refine Below.setCell ?_ ?_ _) | (with_reducible refine Below.drew ?_) | (with_reducible refine below_drewN ?_ _) | (with_reducible refine below_via ?_ (by with_reducible assumption) ?_) | omega | (simp; done) | (simp; omega)))))).mono ?_); rintro e w1 ⟨rfl, hb1⟩; obtain ⟨fc1, fg1, hc1, hf1, hz1⟩ := bget hb1; (try simp at hz1)) | (go_at_call 57; (with_reducible refine (C2.out _ (HR.out.keep (by (repeat' (first | (with_reducible exact Below.refl _ _) | (with_reducible assumption) | (with_reducible refine Below.alloc ?_ ?_ _) | (with_reducible refine Below.setCell ?_ ?_ _) | (with_reducible refine Below.drew ?_) | (with_reducible refine below_drewN ?_ _) | (with_reducible refine below_via ?_ (by with_reducible assumption) ?_) | omega | (simp; done) | (simp; omega)))))).mono ?_); rintro e w2 ⟨rfl, hb2⟩; obtain ⟨fc2, fg2, hc2, hf2, hz2⟩ := bget hb2; (try simp at hz2)) | fail)
    go_ret2
    exact ⟨_, by rw [HC.out]; rfl, by rw [HL.out]; exact ownZeros w2 l.length hl (by omega), by (repeat' (first | (with_reducible exact Below.refl _ _) | (with_reducible assumption) | (with_reducible refine Below.alloc ?_ ?_ _) | (with_reducible refine Below.setCell ?_ ?_ _) | (with_reducible refine Below.drew ?_) | (with_reducible refine below_drewN ?_ _) | (with_reducible refine below_via ?_ (by with_reducible assumption) ?_) | omega | (simp; done) | (simp; omega)))⟩
  have d3 : (T == 0) = false := by simpa using h3
  by_cases h4 : l.sum = 0
  · have HC := Lib.hid (show spC T l = 8 from by rw [HCD.out, h2, if_pos rfl, if_neg h3, if_pos h4])
    have HL := Lib.hid (show spL T l = [] from by unfold spL; rw [HC.out]; rfl)
    have d4 : (l.sum == 0) = true := by simpa using h4
    clear h3 h2 HCD h4
    generalize l.sum = S at *
    go_enter Try.func33, Try.ntmps33
    go_wp2_with (first | (go_at_call 61; (with_reducible refine (C1.out _ (HR.out.keep (by (repeat' (first | (with_reducible exact Below.refl _ _) | (with_reducible assumption) | (with_reducible refine Below.alloc ?_ ?_ _) | (with_reducible refine Below.setCell ?_ ?_ _) | (with_reducible refine Below.drew ?_) | (with_reducible refine below_drewN ?_ _) | (with_reducible refine below_via ?_ (by with_reducible assumption) ?_) | omega | (simp; done) | (simp; omega)))))).mono ?_); rintro e w1 ⟨rfl, hb1⟩; obtain ⟨fc1, fg1, hc1, hf1, hz1⟩ := bget hb1; (try simp at hz1)) | (go_at_call 57; (with_reducible refine (C2.out _ (HR.out.keep (by (repeat' (first | (with_reducible exact Below.refl _ _) | (with_reducible assumption) | (with_reducible refine Below.alloc ?_ ?_ _) | (with_reducible refine Below.setCell ?_ ?_ _) | (with_reducible refine Below.drew ?_) | (with_reducible refine below_drewN ?_ _) | (with_reducible refine below_via ?_ (by with_reducible assumption) ?_) | omega | (simp; done) | (simp; omega)))))).mono ?_); rintro e w2 ⟨rfl, hb2⟩; obtain ⟨fc2, fg2, hc2, hf2, hz2⟩ := bget hb2; (try simp at hz2)) | fail)
    go_ret2
    exact ⟨_, by rw [HC.out]; rfl, by rw [HL.out]; exact Own.nil _ _ _ _, by (repeat' (first | (with_reducible exact Below.refl _ _) | (with_reducible assumption) | (with_reducible refine Below.alloc ?_ ?_ _) | (with_reducible refine Below.setCell ?_ ?_ _) | (with_reducible refine Below.drew ?_) | (with_reducible refine below_drewN ?_ _) | (with_reducible refine below_via ?_ (by with_reducible assumption) ?_) | omega | (simp; done) | (simp; omega)))⟩
  have HC := Lib.hid (show spC T l = 0 from by rw [HCD.out, h2, if_pos rfl, if_neg h3, if_neg h4])
  have HL := Lib.hid (show spL T l = spR T l.sum l from by unfold spL; rw [HC.out, if_pos rfl, if_neg h3])
  have d4 : (l.sum == 0) = false := by simpa using h4
  have hS : 0 < l.sum := by omega
  have hn : 0 < l.length := by
    cases l with
    | nil => simp at hS
    | cons x t => simp
  unfold In64 at hT hs64
  have CQ := Lib.hid (fun W h => shrQuotas T l.sum l A c W hl t0 hT.2 hS hs64.2 rfl t1 h)
  obtain ⟨r1, r2, r3⟩ := rest_is t0 hS (rfl : l.sum = l.sum)
  have hgv := parts_le t0 hS t1 (Int.le_refl _)
  have hrl := rest_len t0 hS (rfl : l.sum = l.sum)
  clear h2 HCD h3 h4
  go_enter Try.func33, Try.ntmps33
  go_wp2_with (first | (go_at_call 61; (with_reducible refine (C1.out _ (HR.out.keep (by (repeat' (first | (with_reducible exact Below.refl _ _) | (with_reducible assumption) | (with_reducible refine Below.alloc ?_ ?_ _) | (with_reducible refine Below.setCell ?_ ?_ _) | (with_reducible refine Below.drew ?_) | (with_reducible refine below_drewN ?_ _) | (with_reducible refine below_via ?_ (by with_reducible assumption) ?_) | omega | (simp; done) | (simp; omega)))))).mono ?_); rintro e w1 ⟨rfl, hb1⟩; obtain ⟨fc1, fg1, hc1, hf1, hz1⟩ := bget hb1; (try simp at hz1)) | (go_at_call 57; (with_reducible refine (C2.out _ (HR.out.keep (by (repeat' (first | (with_reducible exact Below.refl _ _) | (with_reducible assumption) | (with_reducible refine Below.alloc ?_ ?_ _) | (with_reducible refine Below.setCell ?_ ?_ _) | (with_reducible refine Below.drew ?_) | (with_reducible refine below_drewN ?_ _) | (with_reducible refine below_via ?_ (by with_reducible assumption) ?_) | omega | (simp; done) | (simp; omega)))))).mono ?_); rintro e w2 ⟨rfl, hb2⟩; obtain ⟨fc2, fg2, hc2, hf2, hz2⟩ := bget hb2; (try simp at hz2)) | (go_at_call 62; (with_reducible refine (CQ.out _ (HR.out.keep (by (repeat' (first | (with_reducible exact Below.refl _ _) | (with_reducible assumption) | (with_reducible refine Below.alloc ?_ ?_ _) | (with_reducible refine Below.setCell ?_ ?_ _) | (with_reducible refine Below.drew ?_) | (with_reducible refine below_drewN ?_ _) | (with_reducible refine below_via ?_ (by with_reducible assumption) ?_) | omega | (simp; done) | (simp; omega)))))).mono ?_); rintro e w3 ⟨v3, rfl, hown3, hb3⟩; obtain ⟨A3, c3, hv3, hrs3, _⟩ := hown3.rs; rw [List.length_map, quoF_len] at hv3; subst hv3; obtain ⟨g3, rfl, hg3a, hg3b⟩ := hown3.at (by rw [List.length_map, quoF_len]; exact hn); have hcap3 := hrs3.cap; have hroom3 := hrs3.room; rw [List.length_map, quoF_len] at hcap3; (try simp at hg3a); have HQ := Lib.hid hown3; clear hown3 hrs3; obtain ⟨fc3, fg3, hc3, hf3, hz3⟩ := bget hb3; (try simp at hz3)) | fail)
  have HZ := Lib.hid ((ownZeros w2 l.length hl (Nat.le_refl _)).keep (w' := w3) (by (repeat' (first | (with_reducible exact Below.refl _ _) | (with_reducible assumption) | (with_reducible refine Below.alloc ?_ ?_ _) | (with_reducible refine Below.setCell ?_ ?_ _) | (with_reducible refine Below.drew ?_) | (with_reducible refine below_drewN ?_ _) | (with_reducible refine below_via ?_ (by with_reducible assumption) ?_) | omega | (simp; done) | (simp; omega)))))
  have HbW := Lib.hid (show Below w.heap.size w w3 from by (repeat' (first | (with_reducible exact Below.refl _ _) | (with_reducible assumption) | (with_reducible refine Below.alloc ?_ ?_ _) | (with_reducible refine Below.setCell ?_ ?_ _) | (with_reducible refine Below.drew ?_) | (with_reducible refine below_drewN ?_ _) | (with_reducible refine below_via ?_ (by with_reducible assumption) ?_) | omega | (simp; done) | (simp; omega))))
  have hz2 : w.heap.size ≤ w2.heap.size := by omega
  have hpl : (partL T l.sum l).length = l.length := by unfold partL; simp
  clear hc3 hf3 hb3 hc1 hf1 hb1 hc2 hf2 hb2 hmk
  unfold maxLen at hroom3
  go_loopw [47] (fun i wr => ∃ k : Nat, k ≤ l.length ∧ i = .int .i64 k ∧ Own wr w2.heap.size 2 1 (.slice (some ⟨w2.heap.size, 0, none⟩) l.length l.length) ((mid (partL T l.sum l) l.length k).map encI) ∧ Only w2.heap.size w3 wr) (fun i _ => l.length - (intOf i).toNat)
  case atStart => exact ⟨0, Nat.zero_le _, rfl, by unfold mid; simpa using HZ.out, Only.refl _ _⟩
  case round =>
    obtain ⟨k, hk, rfl, hown, honly⟩ := hrel
    have Hown := Lib.hid hown
    have Honly := Lib.hid honly
    have hz := honly.size
    clear hown honly
    by_cases hlt : k < l.length
    · have kl : (k : Int) < (l.length : Int) := by omega
      have dl : decide ((k : Int) < (l.length : Int)) = true := by simpa using hlt
      have hml := mid_len (k := k) hpl hk
      have HSET := Lib.hid (mid_set hpl hlt)
      obtain ⟨pk, hpk⟩ : ∃ x, x = (partL T l.sum l)[k]'(by omega) := ⟨_, rfl⟩
      obtain ⟨rk, hrk⟩ : ∃ x, x = T * l[k] % l.sum := ⟨_, rfl⟩
      obtain ⟨b', o', e', hb', hcc⟩ := (HQ.out.rd).1 k (encQuo ⟨k, pk, rk⟩) (by
        rw [List.getElem?_map, quoF_get T l.sum l 0 k hlt, Nat.zero_add, hpk, hrk]; simp [partL])
      injection e' with e'
      injection e' with e1 e2 _
      subst e1 e2
      have e0 := (only_cell Honly.out hg3b (by omega)).trans (hcc 0 _ rfl)
      have e1 := (only_cell Honly.out hg3b (by omega)).trans (hcc 1 _ rfl)
      have e2 := (only_cell Honly.out hg3b (by omega)).trans (hcc 2 _ rfl)
      simp only [Nat.add_zero, Nat.zero_add] at e0 e1 e2
      rw [← hpk] at HSET
      have hkm : k < (mid (partL T l.sum l) l.length k).length := by omega
      have q0 := own_cell1 Hown.out hkm
      obtain ⟨cur, hblk⟩ := Hown.out.blk rfl
      have fz := fun i => hblk.frozen i
      have hgw := (Hown.out.block _ rfl).2
      clear hcc hblk hpk hrk
      go_wp2_with fail
      go_roundw
      case rel => exact ⟨k + 1, by omega, by go_num, by rw [← HSET.out]; exact (own_put1 Hown.out hkm pk).alloc _, (Honly.out.set (p := ⟨w2.heap.size, k, none⟩) (.inl rfl) _).alloc _⟩
      case measure => simp [intOf]; omega
    · have dl : decide ((k : Int) < (l.length : Int)) = false := by simpa using hlt
      have HM := Lib.hid (show mid (partL T l.sum l) l.length k = partL T l.sum l from by unfold mid; rw [show l.length - k = 0 from by omega]; rw [List.take_of_length_le (by omega)]; simp)
      have hown := Hown.out
      rw [HM.out] at hown
      have HO := Lib.hid hown
      clear hown Hown
      have CS := Lib.hid (fun W (h : Own W (w2.heap.size + 1) 101 3 (.slice (some ⟨g3, 0, none⟩) l.length c3) ((quoF T l.sum 0 l).map encQuo)) => show Calls Try.prog 63 #[.slice (some ⟨g3, 0, none⟩) l.length c3, .func (Fn.func 64) #[] #[]] W _ from by have h2 := sortQuo (quoF T l.sum 0 l) g3 c3 (w2.heap.size + 1) 101 W (by rw [quoF_len]; exact hl) (by rw [quoF_len]; exact h); rw [quoF_len] at h2; exact h2)
      have HQW := Lib.hid ((HQ.out.mono (b := w2.heap.size + 1) (by simp)).only' Honly.out (show g3 ≠ w2.heap.size by omega))
      have HbR := Lib.hid (below_only HbW.out Honly.out HbW.out.size (by omega))
      have hg3r : g3 < wr.heap.size := by omega
      have R3 := Lib.hid r3
      obtain ⟨R, hRe⟩ : ∃ R, restN T l.sum l = R := ⟨_, rfl⟩
      have HRE := Lib.hid hRe
      rw [hRe] at r2 hrl
      have hr1 : 0 ≤ T - (partL T l.sum l).sum := r1
      have hr2 : T - (partL T l.sum l).sum ≤ (c3 : Int) := by omega
      have hr4 : (T - (partL T l.sum l).sum).toNat = R := by omega
      have hRc : R ≤ c3 := by omega
      clear HM hk r3 hRe
      go_wp2_with (first | (go_at_call 63; (with_reducible refine (CS.out _ ?_).mono ?_); (focus (exact HQW.out)); rintro e w5 ⟨rfl, M, hperm, hpw, hrd, ho5⟩; have HPM := Lib.hid hperm; have HPW := Lib.hid hpw; have HRD := Lib.hid hrd; have Ho5 := Lib.hid ho5; have hz5 := ho5.size; clear hperm hpw hrd ho5) | fail)
      have hpos := HPM.out.symm.pairwise (quoF_pos T l.sum l 0) (fun h => fun e => h e.symm)
      have hsd : M.Pairwise (fun x y => aheadQ x y = true) := (List.Pairwise.and HPW.out hpos).imp (fun {a b} h => (ahead_total h.2).resolve_right (by rw [h.1]; simp))
      obtain ⟨f1, f2, f3, f4⟩ := perm_facts hS HPM.out R3.out hsd
      have HGV := Lib.hid (split_is t0 hS (rfl : l.sum = l.sum) HPM.out hsd)
      rw [HRE.out] at f4 HGV
      have F2 := Lib.hid f2
      have hML : M.length = l.length := by rw [HPM.out.length_eq, quoF_len]
      have HO5 := Lib.hid (HO.out.only' Ho5.out (show w2.heap.size ≠ g3 by omega))
      have HbS := Lib.hid (below_only HbR.out Ho5.out HbR.out.size (by omega))
      have hpn : ∀ z ∈ partL T l.sum l, 0 ≤ z := fun z hz => by
        unfold partL at hz
        obtain ⟨x, hx, rfl⟩ := List.mem_map.1 hz
        exact Int.ediv_nonneg (Int.mul_nonneg t0 (t1 x hx)) (by omega)
      clear f1 f2 f3 hsd hpos
      go_loopw [66] (fun i w6 => ∃ j : Nat, j ≤ R ∧ i = .int .i64 j ∧ Own w6 w2.heap.size 2 1 (.slice (some ⟨w2.heap.size, 0, none⟩) l.length l.length) ((give (partL T l.sum l) (M.take j)).map encI) ∧ Only w2.heap.size w5 w6) (fun i _ => R - (intOf i).toNat)
      case atStart => exact ⟨0, Nat.zero_le _, rfl, by simpa [give] using HO5.out, Only.refl _ _⟩
      case round =>
        obtain ⟨j, hj, rfl, hown, honly⟩ := hrel
        have Hown := Lib.hid hown
        have Honly6 := Lib.hid honly
        have hz6 := honly.size
        clear hown honly
        by_cases hjl : j < R
        · have jl : (j : Int) < (R : Int) := by omega
          have dj : decide ((j : Int) < (R : Int)) = true := by simpa using hjl
          obtain ⟨p, hp, hx⟩ := F2.out (M[j]'(by omega)) (List.getElem_mem _)
          obtain ⟨qa, hqa⟩ : ∃ x, x = T * l[p] / l.sum := ⟨_, rfl⟩
          obtain ⟨qb, hqb⟩ : ∃ x, x = T * l[p] % l.sum := ⟨_, rfl⟩
          rw [← hqa, ← hqb] at hx
          obtain ⟨b', o', e', hb', hcc⟩ := HRD.out j (encQuo ⟨p, qa, qb⟩) (by rw [List.getElem?_map, List.getElem?_eq_getElem (by omega), hx]; rfl)
          injection e' with e'
          injection e' with e1 e2 _
          subst e1 e2
          have e0 := (only_cell Honly6.out hb' (by omega)).trans (hcc 0 _ rfl)
          have e1 := (only_cell Honly6.out hb' (by omega)).trans (hcc 1 _ rfl)
          have e2 := (only_cell Honly6.out hb' (by omega)).trans (hcc 2 _ rfl)
          simp only [Nat.add_zero, Nat.zero_add] at e0 e1 e2
          have hgl : (give (partL T l.sum l) (M.take j)).length = l.length := by rw [give_len, hpl]
          have hpm : p < (give (partL T l.sum l) (M.take j)).length := by omega
          have q0 := own_cell1 Hown.out hpm
          obtain ⟨v, hv⟩ : ∃ v, v = (give (partL T l.sum l) (M.take j))[p] := ⟨_, rfl⟩
          rw [← hv] at q0
          have HST := Lib.hid (show give (partL T l.sum l) (M.take (j + 1)) = (give (partL T l.sum l) (M.take j)).set p (v + 1) from by
            rw [List.take_succ_eq_append_getElem (by omega), give_snoc, hx]
            unfold addAt
            rw [List.getD_eq_getElem?_getD]
            simp only [Int.toNat_natCast]
            rw [List.getElem?_eq_getElem hpm, hv]; rfl)
          have hv0 : 0 ≤ v := by rw [hv]; exact give_nonneg _ _ hpn _ (List.getElem_mem _)
          have hvT : v + 1 ≤ T := by
            have h1 : v + 1 ≤ (give (partL T l.sum l) (M.take (j + 1))).sum := by
              refine mem_le_sum (give_nonneg _ _ hpn) ?_
              rw [HST.out]
              exact List.mem_set hpm _
            rw [give_sum _ _ (fun x hx => by
              obtain ⟨i, h, e⟩ := F2.out x (List.mem_of_mem_take hx)
              rw [e, hpl]; simpa using h), List.length_take] at h1
            omega
          obtain ⟨cur, hblk⟩ := Hown.out.blk rfl
          have fz := fun i => hblk.frozen i
          have hgw := (Hown.out.block _ rfl).2
          have pl : (p : Int) < (l.length : Int) := by omega
          clear hcc hblk hqa hqb hx hv
          go_wp2_with fail
          go_roundw
          case rel => exact ⟨j + 1, by omega, by go_num, by rw [HST.out]; exact (own_put1 Hown.out hpm (v + 1)).alloc _, (Honly6.out.set (p := ⟨w2.heap.size, p, none⟩) (.inl rfl) _).alloc _⟩
          case measure => simp [intOf]; omega
        · have dj : decide ((j : Int) < (R : Int)) = false := by simpa using hjl
          have hjR : j = R := by omega
          have hown := Hown.out
          rw [hjR, HGV.out] at hown
          have HF := Lib.hid hown
          clear hown Hown hjR
          go_wp2_with fail
          go_ret2
          exact ⟨_, by rw [HC.out]; rfl, by rw [HL.out]; exact HF.out.mono hz2, below_only HbS.out Honly6.out HbS.out.size hz2⟩
end Go.Proofs.Ytenehpcliajdnaa

/- Layer 3's laws: few, lives, ShareFair's walk. -/
namespace Go.Proofs.Ytenehpcliajdnaa
open Go.RowKit
set_option maxRecDepth 100000 in
set_option maxHeartbeats 8000000 in
theorem law03few (l : List Int) (A : Option Addr) (c : Nat) (w : World) (hlc : l.length ≤ c) (hcm : c ≤ maxLen) (hr : Rd w A 1 (l.map encI)) :
    Calls Try.prog 32 #[.slice A l.length c] w fun e w' => e = .returned (.slice A (l.take 30).length c) ∧ Below w.heap.size w w' := by
  unfold maxLen at hcm
  by_cases h : 30 < l.length
  · have HN := Lib.hid (show (l.take 30).length = 30 from by rw [List.length_take]; omega)
    have d1 : decide (30 < (l.length : Int)) = true := by simp; omega
    obtain ⟨b, o, rfl, hq⟩ := hr 0 (encI (l[0]'(by omega))) (by rw [List.getElem?_map, List.getElem?_eq_getElem (by omega)]; rfl)
    rw [HN.out]
    clear hq hr
    go_enter Try.func32, Try.ntmps32
    go_wp2_with fail
    all_goals
      go_ret
      exact ⟨rfl, by (repeat' (first | (with_reducible exact Below.refl _ _) | (with_reducible assumption) | (with_reducible refine Below.alloc ?_ ?_ _) | (with_reducible refine Below.setCell ?_ ?_ _) | (with_reducible refine Below.drew ?_) | (with_reducible refine below_drewN ?_ _) | (with_reducible refine below_via ?_ (by with_reducible assumption) ?_) | omega | (simp; done) | (simp; omega)))⟩
  · rw [List.take_of_length_le (by omega)]
    have d1 : decide (30 < (l.length : Int)) = false := by simp; omega
    clear hr
    go_enter Try.func32, Try.ntmps32
    go_wp2_with fail
    go_ret
    exact ⟨rfl, by (repeat' (first | (with_reducible exact Below.refl _ _) | (with_reducible assumption) | (with_reducible refine Below.alloc ?_ ?_ _) | (with_reducible refine Below.setCell ?_ ?_ _) | (with_reducible refine Below.drew ?_) | (with_reducible refine below_drewN ?_ _) | (with_reducible refine below_via ?_ (by with_reducible assumption) ?_) | omega | (simp; done) | (simp; omega)))⟩
theorem rd_threeS {w : World} {g : Nat} {x y z : Int} (hg : g < w.heap.size) (h0 : w.cell? ⟨g, 0, none⟩ = some (.int .i64 x)) (h1 : w.cell? ⟨g, 1, none⟩ = some (.int .i64 y)) (h2 : w.cell? ⟨g, 2, none⟩ = some (.int .i64 z)) : Rd w (some ⟨g, 0, none⟩) 1 ([x, y, z].map encI) := by
  intro i r hr
  refine ⟨g, 0, rfl, hg, fun j v hv => ?_⟩
  match i, hr with
  | 0, hr =>
    simp [encI] at hr
    subst hr
    match j, hv with
    | 0, hv => simp at hv; subst hv; exact h0
    | j + 1, hv => simp at hv
  | 1, hr =>
    simp [encI] at hr
    subst hr
    match j, hv with
    | 0, hv => simp at hv; subst hv; exact h1
    | j + 1, hv => simp at hv
  | 2, hr =>
    simp [encI] at hr
    subst hr
    match j, hv with
    | 0, hv => simp at hv; subst hv; exact h2
    | j + 1, hv => simp at hv
  | i + 3, hr => simp at hr
theorem live_split (A : Option Addr) (c : Nat) (w : World) (hr : Rd w A 1 ([1, 1, 1].map encI)) :
    Calls Try.prog 33 #[.int .i64 10, .slice A 3 c] w fun e w' => ∃ A1 c1, e = .returned (.tuple #[.slice A1 3 c1, .int .i64 0]) ∧ Rd w' A1 1 ([4, 3, 3].map encI) ∧ Below w.heap.size w w' := by
  have h := shrSplit 10 [1, 1, 1] A c w (by simp) (by unfold In64; omega) (by intro x hx; simp at hx; subst hx; unfold In64; omega) hr
  have h1 : spC 10 [1, 1, 1] = 0 := by decide
  have h2 : spL 10 [1, 1, 1] = [4, 3, 3] := by decide
  rw [h1, h2] at h
  refine Calls.mono h ?_
  rintro e w' ⟨v, rfl, hown, hb⟩
  obtain ⟨A1, c1, hv, hrs, _⟩ := hown.rs
  subst hv
  exact ⟨A1, c1, rfl, hrs.rd, hb⟩
theorem live_same (A B : Option Addr) (c d : Nat) (w : World) (ha : Rd w A 1 ([4, 3, 3].map encI)) (hb : Rd w B 1 ([4, 3, 3].map encI)) :
    Calls Try.prog 35 #[.slice A 3 c, .slice B 3 d] w fun e w' => e = .returned (.bool true) ∧ Below w.heap.size w w' := sameNums [4, 3, 3] A B c d w (by simp) ha hb
set_option maxRecDepth 100000 in
set_option maxHeartbeats 8000000 in
theorem law03lives (w : World) : Calls Try.prog 36 #[] w fun e w' => e = .returned (.bool true) ∧ Below w.heap.size w w' := by
  go_enter Try.func36, Try.ntmps36
  go_wp2_with (first | (go_at_call 33; (with_reducible refine (live_split _ _ _ (rd_threeS (by simp) ?_ ?_ ?_)).mono ?_); (focus (simp [go_sem]; done)); (focus (simp [go_sem]; done)); (focus (simp [go_sem]; done)); rintro e w1 ⟨A1, c1, rfl, hr1, hb1⟩; have HR1 := Lib.hid hr1; clear hr1; obtain ⟨fc1, fg1, hc1, hf1, hz1⟩ := bget hb1; (try simp at hz1)) | (go_at_call 35; (with_reducible refine (live_same _ _ _ _ _ (HR1.out.keep (by (repeat' (first | (with_reducible exact Below.refl _ _) | (with_reducible assumption) | (with_reducible refine Below.alloc ?_ ?_ _) | (with_reducible refine Below.setCell ?_ ?_ _) | (with_reducible refine Below.drew ?_) | (with_reducible refine below_drewN ?_ _) | (with_reducible refine below_via ?_ (by with_reducible assumption) ?_) | omega | (simp; done) | (simp; omega))))) (rd_threeS (by simp) ?_ ?_ ?_)).mono ?_); (focus (simp [go_sem]; done)); (focus (simp [go_sem]; done)); (focus (simp [go_sem]; done)); rintro e w2 ⟨rfl, hb2⟩; obtain ⟨fc2, fg2, hc2, hf2, hz2⟩ := bget hb2; (try simp at hz2)) | fail)
  go_ret
  exact ⟨rfl, by (repeat' (first | (with_reducible exact Below.refl _ _) | (with_reducible assumption) | (with_reducible refine Below.alloc ?_ ?_ _) | (with_reducible refine Below.setCell ?_ ?_ _) | (with_reducible refine Below.drew ?_) | (with_reducible refine below_drewN ?_ _) | (with_reducible refine below_via ?_ (by with_reducible assumption) ?_) | omega | (simp; done) | (simp; omega)))⟩
theorem sp_zero {T : Int} {l : List Int} (h : spC T l = 0) : 0 ≤ T ∧ (∀ x ∈ l, 0 ≤ x) ∧ In64 l.sum ∧ (T = 0 ∨ 0 < l.sum) := by
  unfold spC at h
  cases h1 : rightS T l
  · rw [h1] at h; simp at h
  obtain ⟨t0, t1⟩ := right_iff.1 h1
  rw [h1, if_pos rfl] at h
  cases h2 : in64 l.sum
  · rw [h2] at h; simp at h
  rw [h2, if_pos rfl] at h
  have := sum_nonneg' t1
  refine ⟨t0, t1, in64_iff.1 h2, ?_⟩
  by_cases h3 : T = 0
  · exact .inl h3
  · rw [if_neg h3] at h
    by_cases h4 : l.sum = 0
    · rw [if_pos h4] at h; omega
    · exact .inr (by omega)
theorem sp_len {T : Int} {l : List Int} (h : spC T l = 0) : (spL T l).length = l.length := by
  obtain ⟨t0, t1, _, h4⟩ := sp_zero h
  unfold spL
  rw [if_pos h]
  by_cases h3 : T = 0
  · rw [if_pos h3]; simp
  · rw [if_neg h3]
    exact (sp_props t0 (by omega) rfl).1
/-- Who has the greater weight never gets less; of those alike the first one never less. -/
theorem sp_fair {T : Int} {l : List Int} (h : spC T l = 0) {i k : Nat} (hi : i < l.length) (hk : k < l.length) (ho : l[k] < l[i] ∨ (l[i] = l[k] ∧ i < k)) : (spL T l).getD k 0 ≤ (spL T l).getD i 0 := by
  obtain ⟨t0, t1, _, h4⟩ := sp_zero h
  unfold spL
  rw [if_pos h]
  by_cases h3 : T = 0
  · rw [if_pos h3]
    rw [List.getD_eq_getElem?_getD, List.getD_eq_getElem?_getD, List.getElem?_replicate, List.getElem?_replicate, if_pos hi, if_pos hk]
    exact Int.le_refl _
  · rw [if_neg h3]
    have hS : 0 < l.sum := by omega
    obtain ⟨_, _, p3, p4⟩ := sp_props t0 hS (rfl : l.sum = l.sum)
    have a1 := p3 i hi
    have a2 := p3 k hk
    rcases ho with ho | ⟨ho, hik⟩
    · have hm : T * l[k] < T * l[i] := Int.mul_lt_mul_of_pos_left ho (by omega)
      have hq : T * l[k] / l.sum ≤ T * l[i] / l.sum := Int.ediv_le_ediv hS (by omega)
      have e1 := Int.mul_ediv_add_emod (T * l[i]) l.sum
      have e2 := Int.mul_ediv_add_emod (T * l[k]) l.sum
      rcases Int.lt_or_eq_of_le hq with hq | hq
      · omega
      · rw [hq] at e2 a2
        have hr : T * l[k] % l.sum < T * l[i] % l.sum := by omega
        have := p4 i k hi hk (.inl hr)
        rw [hq] at this
        omega
    · rw [ho] at a1
      have := p4 i k hi hk (.inr ⟨by rw [ho], hik⟩)
      rw [ho] at this
      omega
end Go.Proofs.Ytenehpcliajdnaa
