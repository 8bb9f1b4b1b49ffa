/- Joined: InstQ, Bigs, Leg, Vec1. -/
import Derived.Test.YtiidplinmempcaaJz8
import Derived.Test.YtiidplinmempcaaJz5
import Derived.Test.YtiidplinmempcaaJz6
import Derived.Test.YtiidplinmempcaaJz3
import Derived.Test.YtiidplinmempcaaJz1
import Derived.Outline
/- Instruments in tables: contracts of inst.at, Find, Put. -/
namespace Go.Proofs.Ytiidplinmempcaa
open Go.RowKit
set_option maxRecDepth 100000 in
set_option maxHeartbeats 1000000 in
theorem instAtFn (x : InstV) (id : Int) (g : Nat) (w : World) (hcap : CapC w g [.int .i64 id]) :
    Calls Try.prog 156 #[.agg #[.int .i64 x.id, .int .i64 x.mult, .int .i64 x.price, .int .i64 x.next, .slice x.moves.A x.moves.val.length x.moves.c], .pointer (some ⟨g, 0, none⟩)] w fun e w' => e = .returned (.bool (x.id == id)) ∧ Below w.heap.size w w' := by
  have h0 := hcap.2 0 _ rfl
  have hg := hcap.1
  clear hcap
  go_enter Try.func156, Try.ntmps156
  go_wp2_with fail
  go_ret
  exact ⟨rfl, by (repeat' (first | (with_reducible exact Below.refl _ _) | (with_reducible assumption) | (with_reducible refine Below.alloc ?_ ?_ _) | (with_reducible refine Below.setCell ?_ ?_ _) | (with_reducible refine Below.drew ?_) | (with_reducible refine below_drewN ?_ _) | (with_reducible refine below_via ?_ (by with_reducible assumption) ?_) | omega | (simp; done) | (simp; omega)))⟩
set_option maxRecDepth 100000 in
set_option maxHeartbeats 1000000 in
theorem instAtIdx (l : List InstV) (id : Int) (A : Option Addr) (c g : Nat) (w : World) (hl : l.length ≤ 1099511627776) (hr : Rd w A 5 (l.map encInstV)) (hcap : CapC w g [.int .i64 id]) :
    Calls Try.prog 155 #[.slice A l.length c, .func (Fn.func 156) #[] #[.pointer (some ⟨g, 0, none⟩)]] w fun e w' => e = .returned (.int .i64 (idxOf (fun x : InstV => x.id == id) l)) ∧ Below w.heap.size w w' := by
  have Hr := Lib.hid hr
  have H0 := Lib.hid hcap
  clear hr hcap
  go_enter Try.func155, Try.ntmps155
  go_wp2_with fail
  go_loopw [8] (fun i wr => ∃ k : Nat, k ≤ l.length ∧ i = .int .i64 k ∧ Below w.heap.size w wr ∧ ∀ j (_ : j < l.length), j < k → (fun x : InstV => x.id == id) l[j] = false) (fun i _ => l.length - (intOf i).toNat)
  case atStart => exact ⟨0, Nat.zero_le _, rfl, Below.refl _ _, fun j _ h => absurd h (by omega)⟩
  case round =>
    obtain ⟨k, hk, rfl, hbl, hno⟩ := hrel
    have Hbl := Lib.hid hbl
    have Hno := Lib.hid hno
    have hz := hbl.size
    clear hbl hno
    by_cases hlt : k < l.length
    · obtain ⟨b, o, rfl, hb, hc⟩ := Hr.out k (encInstV l[k]) (by simp [hlt])
      have c0 := (Hbl.out.cell (p := ⟨b, o + k * 5 + 0, none⟩) hb).trans (hc 0 _ rfl)
      have c1 := (Hbl.out.cell (p := ⟨b, o + k * 5 + 1, none⟩) hb).trans (hc 1 _ rfl)
      have c2 := (Hbl.out.cell (p := ⟨b, o + k * 5 + 2, none⟩) hb).trans (hc 2 _ rfl)
      have c3 := (Hbl.out.cell (p := ⟨b, o + k * 5 + 3, none⟩) hb).trans (hc 3 _ rfl)
      have c4 := (Hbl.out.cell (p := ⟨b, o + k * 5 + 4, none⟩) hb).trans (hc 4 _ rfl)
      have H0' := Lib.hid (H0.out.keep Hbl.out)
      simp only [Nat.add_zero] at c0
      clear hc
      cases hm : (fun x : InstV => x.id == id) l[k]
      · have Hm := Lib.hid hm
        clear hm
        go_wp2_with (go_at_call 156; (with_reducible refine (instAtFn l[k] id g _ (H0'.out.keep (by (repeat' (first | (with_reducible exact Below.refl _ _) | (with_reducible assumption) | (with_reducible refine Below.alloc ?_ ?_ _) | (with_reducible refine Below.setCell ?_ ?_ _) | (with_reducible refine Below.drew ?_) | (with_reducible refine below_drewN ?_ _) | (with_reducible refine below_via ?_ (by with_reducible assumption) ?_) | omega | (simp; done) | (simp; omega)))))).mono ?_); rw [Hm.out]; rintro e w1 ⟨rfl, hb1⟩; have hz1 := hb1.size; have Hb1 := Lib.hid hb1; clear hb1)
        go_roundw
        case rel => exact ⟨k + 1, by omega, by go_num, Hbl.out.trans (Hb1.out.mono (by first | omega | (simp; done) | (simp; omega))), fun j hj h => by
          rcases Nat.lt_or_ge j k with h1 | h1
          · exact Hno.out j hj h1
          · obtain rfl : j = k := by omega
            exact Hm.out⟩
        case measure => simp [intOf]; omega
      · have hi := idx_hit (p := fun x : InstV => x.id == id) hlt hm Hno.out
        have Hi := Lib.hid hi
        have Hm := Lib.hid hm
        clear hm hi
        go_wp2_with (go_at_call 156; (with_reducible refine (instAtFn l[k] id g _ (H0'.out.keep (by (repeat' (first | (with_reducible exact Below.refl _ _) | (with_reducible assumption) | (with_reducible refine Below.alloc ?_ ?_ _) | (with_reducible refine Below.setCell ?_ ?_ _) | (with_reducible refine Below.drew ?_) | (with_reducible refine below_drewN ?_ _) | (with_reducible refine below_via ?_ (by with_reducible assumption) ?_) | omega | (simp; done) | (simp; omega)))))).mono ?_); rw [Hm.out]; rintro e w1 ⟨rfl, hb1⟩; have hz1 := hb1.size; have Hb1 := Lib.hid hb1; clear hb1)
        go_ret
        exact ⟨by rw [Hi.out]; rfl, Hbl.out.trans (Hb1.out.mono (by first | omega | (simp; done) | (simp; omega)))⟩
    · have hi := idx_miss (p := fun x : InstV => x.id == id) (l := l) (fun j hj => Hno.out j hj (by omega))
      have Hi := Lib.hid hi
      clear hi
      go_wp2_with fail
      go_ret
      exact ⟨by rw [Hi.out]; rfl, Hbl.out⟩
theorem cap1 {w : World} {g : Nat} {u : Value} (hg : g < w.heap.size) (h0 : w.cell? ⟨g, 0, none⟩ = some u) : CapC w g [u] := by
  refine ⟨hg, fun j v hv => ?_⟩
  match j with
  | 0 => simp at hv; subst hv; exact h0
  | j + 1 => simp at hv
theorem cap5 {w : World} {g : Nat} {u0 u1 u2 u3 u4 : Value} (hg : g < w.heap.size) (h0 : w.cell? ⟨g, 0, none⟩ = some u0) (h1 : w.cell? ⟨g, 1, none⟩ = some u1) (h2 : w.cell? ⟨g, 2, none⟩ = some u2) (h3 : w.cell? ⟨g, 3, none⟩ = some u3) (h4 : w.cell? ⟨g, 4, none⟩ = some u4) : CapC w g [u0, u1, u2, u3, u4] := by
  refine ⟨hg, fun j v hv => ?_⟩
  match j with
  | 0 => simp at hv; subst hv; exact h0
  | 1 => simp at hv; subst hv; exact h1
  | 2 => simp at hv; subst hv; exact h2
  | 3 => simp at hv; subst hv; exact h3
  | 4 => simp at hv; subst hv; exact h4
  | j + 5 => simp at hv
set_option maxRecDepth 100000 in
set_option maxHeartbeats 1000000 in
theorem instAt (l : List InstV) (id : Int) (A : Option Addr) (c : Nat) (w : World) (hl : l.length ≤ 1099511627776) (hr : Rd w A 5 (l.map encInstV)) :
    Calls Try.prog 122 #[.slice A l.length c, .int .i64 id] w fun e w' => e = .returned (.int .i64 (idxOf (fun x : InstV => x.id == id) l)) ∧ Below w.heap.size w w' := by
  have Hr := Lib.hid hr
  clear hr
  go_enter Try.func122, Try.ntmps122
  go_wp2_with (first | (go_at_call 155; (with_reducible refine (instAtIdx l id A c _ _ hl (Hr.out.keep (by (repeat' (first | (with_reducible exact Below.refl _ _) | (with_reducible assumption) | (with_reducible refine Below.alloc ?_ ?_ _) | (with_reducible refine Below.setCell ?_ ?_ _) | (with_reducible refine Below.drew ?_) | (with_reducible refine below_drewN ?_ _) | (with_reducible refine below_via ?_ (by with_reducible assumption) ?_) | omega | (simp; done) | (simp; omega))))) (cap1 ?_ ?_)).mono ?_); (focus (simp; done)); (focus (first | (simp [go_sem]; done) | (simp [go_sem, ↓IntWalk.iteOmega]; done))); rintro e w1 ⟨rfl, hb1⟩) | fail)
  go_ret
  exact ⟨rfl, by (repeat' (first | (with_reducible exact Below.refl _ _) | (with_reducible assumption) | (with_reducible refine Below.alloc ?_ ?_ _) | (with_reducible refine Below.setCell ?_ ?_ _) | (with_reducible refine Below.drew ?_) | (with_reducible refine below_drewN ?_ _) | (with_reducible refine below_via ?_ (by with_reducible assumption) ?_) | omega | (simp; done) | (simp; omega)))⟩
/-- A table in memory of its own, and why not: what the program's Put, Next answer. -/
def InstPost (w : World) (L : List Inst) (code : Int) (e : Ending) (w' : World) : Prop :=
  ∃ (v : Value) (ys : List InstV), e = .returned (.tuple #[v, .int .i64 code]) ∧ ys.map lgI = L ∧ Own w' w.heap.size 112 5 v (ys.map encInstV) ∧ (∀ y ∈ ys, Rs w' 1 (y.moves.val.map encI) y.moves.A y.moves.c) ∧ Below w.heap.size w w'
theorem idx_findV (l : List InstV) (id : Int) : (∃ k, ∃ h : k < l.length, (l[k].id == id) = true ∧ (∀ j (_ : j < l.length), j < k → (l[j].id == id) = false) ∧ idxOf (fun x : InstV => x.id == id) l = k ∧ findInstV l id = (l[k], true)) ∨ ((∀ j (_ : j < l.length), (l[j].id == id) = false) ∧ idxOf (fun x : InstV => x.id == id) l = -1 ∧ findInstV l id = (⟨0, 0, 0, 0, ⟨none, 0, []⟩⟩, false)) := by
  rcases idxCases (fun x : InstV => x.id == id) l with ⟨k, hk, hm, hn, he⟩ | ⟨hn, he⟩
  · exact .inl ⟨k, hk, hm, hn, he, findInstV_hit hk hm hn⟩
  · exact .inr ⟨hn, he, findInstV_miss hn⟩
set_option maxRecDepth 100000 in
set_option maxHeartbeats 4000000 in
theorem instFind (l : List InstV) (id : Int) (A : Option Addr) (c : Nat) (w : World) (hl : l.length ≤ 1000000) (hr : Rd w A 5 (l.map encInstV)) (hg : ∀ x ∈ l, x.moves.val.length ≤ 1048576 ∧ GoodI w x) :
    Calls Try.prog 72 #[.slice A l.length c, .int .i64 id] w fun e w' => ∃ y : InstV, e = .returned (.tuple #[.agg #[.int .i64 y.id, .int .i64 y.mult, .int .i64 y.price, .int .i64 y.next, .slice y.moves.A y.moves.val.length y.moves.c], .bool (findInstV l id).2]) ∧ lgI y = lgI (findInstV l id).1 ∧ GoodI w' y ∧ Below w.heap.size w w' := by
  have c1 := fun W (h : Rd W A 5 (l.map encInstV)) => instAt l id A c W (by omega) h
  have HR := Lib.hid hr
  rcases idx_findV l id with ⟨k, hk, hm, hn, he, hf⟩ | ⟨hn, he, hf⟩
  · rw [hf]
    rw [he] at c1
    have C1 := Lib.hid c1
    have kl : (k : Int) < (l.length : Int) := by omega
    have kk : decide ((k : Int) < 0) = false := by simp
    obtain ⟨b, o, rfl, hb, hc⟩ := hr k (encInstV l[k]) (by simp [hk])
    have e0 := hc 0 _ rfl
    have e1 := hc 1 _ rfl
    have e2 := hc 2 _ rfl
    have e3 := hc 3 _ rfl
    have e4 := hc 4 _ rfl
    simp only [Nat.add_zero] at e0
    have hx := hg l[k] (List.getElem_mem hk)
    have HX := Lib.hid (fun W (h : Below w.heap.size w W) => instOwn l[k] W hx.1 (hx.2.keep h))
    clear hr he hm hn hc c1 hf hg hx
    go_enter Try.func72, Try.ntmps72
    go_wp2_with (first | (go_at_call 122; (with_reducible refine (C1.out _ (HR.out.keep (by (repeat' (first | (with_reducible exact Below.refl _ _) | (with_reducible assumption) | (with_reducible refine Below.alloc ?_ ?_ _) | (with_reducible refine Below.setCell ?_ ?_ _) | (with_reducible refine Below.drew ?_) | (with_reducible refine below_drewN ?_ _) | (with_reducible refine below_via ?_ (by with_reducible assumption) ?_) | omega | (simp; done) | (simp; omega)))))).mono ?_); rintro e w1 ⟨rfl, hb1⟩; obtain ⟨fc1, fg1, hc1, hf1, hz1⟩ := bget hb1; try simp at hz1) | (go_at_call 123; (with_reducible refine (HX.out _ (by (repeat' (first | (with_reducible exact Below.refl _ _) | (with_reducible assumption) | (with_reducible refine Below.alloc ?_ ?_ _) | (with_reducible refine Below.setCell ?_ ?_ _) | (with_reducible refine Below.drew ?_) | (with_reducible refine below_drewN ?_ _) | (with_reducible refine below_via ?_ (by with_reducible assumption) ?_) | omega | (simp; done) | (simp; omega))))).mono ?_); rintro e w2 ⟨s, hs, rfl, hown2, hb2⟩; have Hs := Lib.hid hs; have Hown2 := Lib.hid hown2; clear hs hown2; obtain ⟨fc2, fg2, hc2, hf2, hz2⟩ := bget hb2; (try simp at hz2)) | fail)
    refine bodyPost_ret (v := .tuple #[.agg #[.int .i64 l[k].id, .int .i64 l[k].mult, .int .i64 l[k].price, .int .i64 l[k].next, .slice s.A s.val.length s.c], .bool true]) (by simp [results, Try.results72, go_sem, hc2, hc1, ↓IntWalk.iteOmega]; try rfl) rfl ⟨{ l[k] with moves := s }, rfl, ?_, ?_, ?_⟩
    · simp only [lgI, Hs.out]
    · have h0 := Hown2.out.mono (b := w.heap.size + 1) (by omega)
      refine Own.good (base := w.heap.size + 1) (E := 2) (n := s.val.length) ?_
      (repeat' (first | (with_reducible assumption) | (with_reducible refine Own.farLow ?_ ?_ _) | (simp; done) | omega))
    · (repeat' (first | (with_reducible exact Below.refl _ _) | (with_reducible assumption) | (with_reducible refine Below.alloc ?_ ?_ _) | (with_reducible refine Below.setCell ?_ ?_ _) | (with_reducible refine Below.drew ?_) | (with_reducible refine below_drewN ?_ _) | (with_reducible refine below_via ?_ (by with_reducible assumption) ?_) | omega | (simp; done) | (simp; omega)))
  · rw [hf]
    rw [he] at c1
    have C1 := Lib.hid c1
    clear hr he hn c1 hf hg
    go_enter Try.func72, Try.ntmps72
    go_wp2_with (go_at_call 122; (with_reducible refine (C1.out _ (HR.out.keep (by (repeat' (first | (with_reducible exact Below.refl _ _) | (with_reducible assumption) | (with_reducible refine Below.alloc ?_ ?_ _) | (with_reducible refine Below.setCell ?_ ?_ _) | (with_reducible refine Below.drew ?_) | (with_reducible refine below_drewN ?_ _) | (with_reducible refine below_via ?_ (by with_reducible assumption) ?_) | omega | (simp; done) | (simp; omega)))))).mono ?_); rintro e w1 ⟨rfl, hb1⟩; obtain ⟨fc1, fg1, hc1, hf1, hz1⟩ := bget hb1; try simp at hz1)
    refine bodyPost_ret (v := .tuple #[.agg #[.int .i64 0, .int .i64 0, .int .i64 0, .int .i64 0, .slice none 0 0], .bool false]) (by simp [results, Try.results72, go_sem, hc1]; try rfl) rfl ⟨⟨0, 0, 0, 0, ⟨none, 0, []⟩⟩, rfl, rfl, Rs.empty _ _, ?_⟩
    (repeat' (first | (with_reducible exact Below.refl _ _) | (with_reducible assumption) | (with_reducible refine Below.alloc ?_ ?_ _) | (with_reducible refine Below.setCell ?_ ?_ _) | (with_reducible refine Below.drew ?_) | (with_reducible refine below_drewN ?_ _) | (with_reducible refine below_via ?_ (by with_reducible assumption) ?_) | omega | (simp; done) | (simp; omega)))
end Go.Proofs.Ytiidplinmempcaa

/- Slices of the reference's whole numbers, read or owned. -/
namespace Go.Proofs.Ytiidplinmempcaa
open Go.RowKit
/-- A value that is a whole number. -/
def BigV (w : World) (L : Nat) (v : Value) (n : Int) : Prop := ∃ s A l c, v = .agg #[.bool s, .slice A l.length c] ∧ IsBig w n s A l c ∧ l.length ≤ L
theorem BigV.keep {w w' : World} {L : Nat} {v : Value} {n : Int} (h : BigV w L v n) (hb : Below w.heap.size w w') : BigV w' L v n := by
  obtain ⟨s, A, l, c, h1, h2, h3⟩ := h
  exact ⟨s, A, l, c, h1, h2.keep hb, h3⟩
theorem BigV.mono {w : World} {L M : Nat} {v : Value} {n : Int} (h : BigV w L v n) (hL : L ≤ M) : BigV w M v n := by
  obtain ⟨s, A, l, c, h1, h2, h3⟩ := h
  exact ⟨s, A, l, c, h1, h2, by omega⟩
theorem isBig_zero (w : World) : IsBig w 0 false none [] 0 := ⟨fun i r hr => by simp at hr, bit_nil, top_nil, rfl, by simp, by simp, rfl⟩
theorem BigV.zero (w : World) (L : Nat) : BigV w L (.agg #[.bool false, .slice none 0 0]) 0 := ⟨false, none, [], 0, rfl, isBig_zero w, by simp⟩
/-- Two cells that hold a whole number. -/
def BigR (w : World) (L : Nat) (r : List Value) (n : Int) : Prop := ∃ s A l c, r = [.bool s, .slice A l.length c] ∧ IsBig w n s A l c ∧ l.length ≤ L
theorem BigR.keep {w w' : World} {L : Nat} {v : List Value} {n : Int} (h : BigR w L v n) (hb : Below w.heap.size w w') : BigR w' L v n := by
  obtain ⟨s, A, l, c, h1, h2, h3⟩ := h
  exact ⟨s, A, l, c, h1, h2.keep hb, h3⟩
theorem BigR.mono {w : World} {L M : Nat} {v : List Value} {n : Int} (h : BigR w L v n) (hL : L ≤ M) : BigR w M v n := by
  obtain ⟨s, A, l, c, h1, h2, h3⟩ := h
  exact ⟨s, A, l, c, h1, h2, by omega⟩
theorem BigR.far {w : World} {L : Nat} {r : List Value} {n : Int} (h : BigR w L r n) {p : Addr} {v0 : Value} (hp : w.cell? p = some v0) (hne : ∀ k x, v0 ≠ .int k x) (u : Value) : BigR (w.setCell p u) L r n := by
  obtain ⟨s, A, l, c, h1, h2, h3⟩ := h
  exact ⟨s, A, l, c, h1, h2.far hp hne u, h3⟩
/-- A slice of the call's own of whole numbers. -/
def OwnB (w : World) (base L : Nat) (v : Value) (ns : List Int) : Prop := ∃ rows, Each (BigR w L) rows ns ∧ Own w base 34 2 v rows
theorem OwnB.keep {w w' : World} {base L : Nat} {v : Value} {ns : List Int} (h : OwnB w base L v ns) (hb : Below w.heap.size w w') : OwnB w' base L v ns := by
  obtain ⟨rows, h1, h2⟩ := h
  exact ⟨rows, h1.imp fun _ _ h => h.keep hb, h2.keep hb⟩
theorem OwnB.mono {w : World} {base b L M : Nat} {v : Value} {ns : List Int} (h : OwnB w base L v ns) (hb : b ≤ base) (hL : L ≤ M) : OwnB w b M v ns := by
  obtain ⟨rows, h1, h2⟩ := h
  exact ⟨rows, h1.imp fun _ _ h => h.mono hL, h2.mono hb⟩
theorem OwnB.at {w : World} {base L : Nat} {g n c : Nat} {ns : List Int} (h : OwnB w base L (.slice (some ⟨g, 0, none⟩) n c) ns) {i : Nat} {x : Int} (hx : ns[i]? = some x) :
    ∃ s A l d, w.cell? ⟨g, i * 2, none⟩ = some (.bool s) ∧ w.cell? ⟨g, i * 2 + 1, none⟩ = some (.slice A l.length d) ∧ IsBig w x s A l d ∧ l.length ≤ L := by
  obtain ⟨rows, h1, h2⟩ := h
  obtain ⟨hi, rfl⟩ := List.getElem?_eq_some_iff.1 hx
  obtain ⟨r, hr, s, A, l, d, rfl, hB, hl⟩ := h1.get hi
  obtain ⟨b, o, hA, hb, hc⟩ := h2.rd.1 i _ hr
  injection hA with hA
  injection hA with e1 e2 _
  subst e1 e2
  have c0 := hc 0 _ rfl
  have c1 := hc 1 _ rfl
  simp only [Nat.zero_add, Nat.add_zero] at c0 c1
  exact ⟨s, A, l, d, c0, c1, hB, hl⟩
theorem OwnB.len {w : World} {base L : Nat} {A : Option Addr} {n c : Nat} {ns : List Int} (h : OwnB w base L (.slice A n c) ns) : n = ns.length ∧ n ≤ c ∧ c ≤ maxLen := by
  obtain ⟨rows, h1, h2⟩ := h
  have h3 := h2.rd
  exact ⟨h3.2.1.trans h1.len, by omega, h3.2.2.2⟩
theorem OwnB.frozen {w : World} {base L : Nat} {g n c : Nat} {ns : List Int} (h : OwnB w base L (.slice (some ⟨g, 0, none⟩) n c) ns) : (∀ i, w.frozen? ⟨g, i, none⟩ = false) ∧ base ≤ g ∧ g < w.heap.size := by
  obtain ⟨rows, h1, h2⟩ := h
  obtain ⟨cur, hk⟩ := h2.blk rfl
  have h3 := h2.block g rfl
  exact ⟨fun i => hk.frozen i, h3⟩
/-- A store of a whole number at place i. -/
theorem OwnB.store {w : World} {base L M : Nat} {g n c : Nat} {ns : List Int} (h : OwnB w base L (.slice (some ⟨g, 0, none⟩) n c) ns) {i : Nat} (hi : i < ns.length) {s : Bool} {A : Option Addr} {l : List Int} {d : Nat} {x : Int} (hB : IsBig w x s A l d) (hl : l.length ≤ M) (hL : L ≤ M) :
    OwnB ((w.setCell ⟨g, i * 2, none⟩ (.bool s)).setCell ⟨g, i * 2 + 1, none⟩ (.slice A l.length d)) base M (.slice (some ⟨g, 0, none⟩) n c) (ns.set i x) := by
  obtain ⟨s0, A0, l0, d0, c0, c1, _, _⟩ := h.at (List.getElem?_eq_getElem hi)
  obtain ⟨rows, h1, h2⟩ := h
  have hi' : i < rows.length := by rw [h1.len]; exact hi
  have hr := h2.1 _ (List.getElem_mem hi')
  obtain ⟨p, q, he⟩ : ∃ p q, rows[i] = [p, q] := by
    match h4 : rows[i], hr with
    | [p, q], _ => exact ⟨p, q, rfl⟩
  have k1 := h2.put rfl (List.getElem?_eq_getElem hi') (show 0 < 2 from by omega) (.bool s)
  have k2 := k1.put rfl (List.getElem?_set_self (by simpa using hi')) (show 1 < 2 from by omega) (.slice A l.length d)
  simp only [List.set_set, he, List.set_cons_zero, List.set_cons_succ, Nat.add_zero] at k2
  have c1' : (w.setCell ⟨g, i * 2, none⟩ (.bool s)).cell? ⟨g, i * 2 + 1, none⟩ = some (.slice A0 l0.length d0) := by
    rw [World.cell?_setCell_other _ _ _ _ (by intro e; injection e with _ e _; omega)]; exact c1
  refine ⟨_, ⟨by rw [List.length_set, List.length_set, h1.len], fun j a b ha hb => ?_⟩, k2⟩
  rw [List.getElem?_set] at ha hb
  split at ha
  · rename_i e
    subst e
    try rw [if_pos hi'] at ha
    rw [if_pos rfl, if_pos hi] at hb
    injection ha with ha
    injection hb with hb
    subst ha hb
    exact ⟨s, A, l, d, rfl, (hB.far c0 (by simp) _).far c1' (by simp) _, hl⟩
  · rename_i e
    rw [if_neg e] at hb
    exact (((h1.pt j a b ha hb).far c0 (by simp) _).far c1' (by simp) _).mono hL
/-- Noughts, made as a literal. -/
theorem ownB_zeros (w : World) (n : Nat) (hn : n ≤ maxLen) (cs : Array Value) (hcs : cs = ((List.replicate n [Value.bool false, .slice none 0 0]).flatten).toArray) {base : Nat} (hb : base ≤ w.heap.size) (L : Nat) :
    OwnB (w.alloc (.cells cs 34)) base L (.slice (some ⟨w.heap.size, 0, none⟩) n n) (List.replicate n 0) := by
  have hall : ∀ r ∈ List.replicate n [Value.bool false, .slice none 0 0], r.length = 2 := by
    intro r hr; rw [List.eq_of_mem_replicate hr]; rfl
  refine ⟨List.replicate n [.bool false, .slice none 0 0], ⟨by simp, fun i a b h1 h2 => ?_⟩, hall, ?_, .inr ⟨w.heap.size, n, cs, by simp, hb, heap_alloc_new w _, by simp, hn, ?_, ?_⟩⟩
  · have e1 := List.eq_of_mem_replicate (List.mem_of_getElem? h1)
    have e2 := List.eq_of_mem_replicate (List.mem_of_getElem? h2)
    subst e1 e2
    exact ⟨false, none, [], 0, rfl, isBig_zero _, by simp⟩
  · rw [flatten_length hall]
  · rw [hcs]; simp only [List.size_toArray]; rw [flatten_length hall]; simp
  · rw [hcs]
    simp only []
    rw [List.take_of_length_le]
    rw [flatten_length hall]; exact Nat.le_refl _
end Go.Proofs.Ytiidplinmempcaa

/- Legs: contracts of vec.Is, Get, the reference's Is, Get. -/
namespace Go.Proofs.Ytiidplinmempcaa
open Go.RowKit
structure Leg where
  inst : Int
  qty : Int
  deriving DecidableEq
def encLeg (x : Leg) : List Value := [.int .i64 x.inst, .int .i64 x.qty]
def okLeg (x : Leg) : Prop := In64 x.inst ∧ In64 x.qty
theorem rowsLeg (l : List Leg) : ∀ r ∈ l.map encLeg, r.length = 2 ∧ ∀ u ∈ r, u.oneCell' = true := by
  intro r hr
  obtain ⟨m, _, rfl⟩ := List.mem_map.1 hr
  refine ⟨rfl, ?_⟩
  simp only [encLeg, List.mem_cons, List.not_mem_nil, or_false, forall_eq_or_imp, forall_eq]
  exact ⟨rfl, rfl⟩
theorem encLeg_inj {x y : Leg} (h : encLeg x = encLeg y) : x = y := by
  unfold encLeg at h
  simp only [List.cons.injEq, Value.int.injEq, and_true, true_and] at h
  obtain ⟨h0, h1⟩ := h
  obtain ⟨xinst, xqty⟩ := x
  obtain ⟨yinst, yqty⟩ := y
  simp only at h0 h1
  subst h0 h1
  rfl
theorem neqLeg {x y : Leg} (h : x ≠ y) : ((x.inst == y.inst) = false) ∨ ((x.qty == y.qty) = false) := by
  cases h0 : (x.inst == y.inst)
  · simp
  cases h1 : (x.qty == y.qty)
  · simp
  · exfalso
    apply h
    obtain ⟨xinst, xqty⟩ := x
    obtain ⟨yinst, yqty⟩ := y
    simp_all
theorem elLeg : Elem Try.prog 23 116 2 16 := elem_of Try.underlying23 (z := .agg #[.int .i64 0, .int .i64 0]) (by kernel_rfl) rfl (by omega)
def isF : Int → List Leg → Bool
  | _, [] => true
  | a, x :: l => decide (a < x.inst) && decide (x.inst ≤ 8) && decide (x.qty ≠ 0) && isF x.inst l
def getF (i : Int) : List Leg → Int
  | [] => 0
  | x :: l => if x.inst = i then x.qty else getF i l
def isV (l : List Leg) : Bool := isF 0 l
theorem isF_yes {a : Int} {x : Leg} {l : List Leg} (h1 : a < x.inst ∧ x.inst ≤ 8) (h3 : (x.qty == 0) = false) : isF a (x :: l) = isF x.inst l := by
  have : x.qty ≠ 0 := by simpa using h3
  simp [isF, h1.1, h1.2, this]
theorem isF_no {a : Int} {x : Leg} {l : List Leg} (h1 : ¬ (a < x.inst ∧ x.inst ≤ 8)) : isF a (x :: l) = false := by
  simp only [isF, Bool.and_eq_false_iff, decide_eq_false_iff_not]
  omega
theorem isF_no0 {a : Int} {x : Leg} {l : List Leg} (h3 : (x.qty == 0) = true) : isF a (x :: l) = false := by
  have : x.qty = 0 := by simpa using h3
  simp [isF, this]
set_option maxRecDepth 100000 in
set_option maxHeartbeats 1000000 in
theorem vecIs (l : List Leg) (A : Option Addr) (c : Nat) (w : World) (hl : l.length ≤ 1099511627776) (hr : Rd w A 2 (l.map encLeg)) :
    Calls Try.prog 71 #[.slice A l.length c] w fun e w' => e = .returned (.bool (isV l)) ∧ Below w.heap.size w w' := by
  have HR := Lib.hid hr
  clear hr
  go_enter Try.func71, Try.ntmps71
  go_wp2_with fail
  go_loopw [3, 8] (fun a i wr => ∃ (k : Nat) (x : Int), k ≤ l.length ∧ i = .int .i64 k ∧ a = .int .i64 x ∧ isV l = isF x (l.drop k) ∧ Below w.heap.size w wr) (fun _ i _ => l.length - (intOf i).toNat)
  case atStart => exact ⟨0, 0, Nat.zero_le _, rfl, rfl, rfl, Below.refl _ _⟩
  case round =>
    obtain ⟨k, x, hk, rfl, rfl, hv, hbl⟩ := hrel
    have Hbl := Lib.hid hbl
    have HV := Lib.hid hv
    have hz := hbl.size
    clear hbl hv
    by_cases hlt : k < l.length
    · obtain ⟨be, oe, rfl, hbe, hqe⟩ := HR.out k (encLeg l[k]) (by simp [hlt])
      replace hqe := fun j v hv => (Hbl.out.cell (p := ⟨be, oe + k * 2 + j, none⟩) hbe).trans (hqe j v hv)
      have e0 := hqe 0 _ rfl
      have e1 := hqe 1 _ rfl
      simp only [Nat.add_zero] at e0
      clear hqe
      have HD := Lib.hid (drop_cons' hlt)
      cases hq : (l[k].qty == 0)
      · by_cases hg : x < l[k].inst ∧ l[k].inst ≤ 8
        · have HN := Lib.hid (isF_yes (l := l.drop (k + 1)) hg hq)
          go_wp2_with fail
          go_roundw
          case rel => exact ⟨k + 1, _, by omega, by go_num, rfl, by rw [HV.out, HD.out, HN.out], by have hbl := Hbl.out; (repeat' (first | (with_reducible exact Below.refl _ _) | (with_reducible assumption) | (with_reducible refine Below.alloc ?_ ?_ _) | (with_reducible refine Below.setCell ?_ ?_ _) | (with_reducible refine Below.drew ?_) | (with_reducible refine below_drewN ?_ _) | (with_reducible refine below_via ?_ (by with_reducible assumption) ?_) | omega | (simp; done) | (simp; omega)))⟩
          case measure => simp [intOf]; omega
        · have HN := Lib.hid (isF_no (l := l.drop (k + 1)) hg)
          go_wp2_with fail
          all_goals
            go_ret
            exact ⟨by rw [HV.out, HD.out, HN.out]; first | done | rfl, by (have hbl := Hbl.out; (repeat' (first | (with_reducible exact Below.refl _ _) | (with_reducible assumption) | (with_reducible refine Below.alloc ?_ ?_ _) | (with_reducible refine Below.setCell ?_ ?_ _) | (with_reducible refine Below.drew ?_) | (with_reducible refine below_drewN ?_ _) | (with_reducible refine below_via ?_ (by with_reducible assumption) ?_) | omega | (simp; done) | (simp; omega))))⟩
      · have HN := Lib.hid (isF_no0 (a := x) (l := l.drop (k + 1)) hq)
        go_wp2_with fail
        all_goals
          go_ret
          exact ⟨by rw [HV.out, HD.out, HN.out]; first | done | rfl, by (have hbl := Hbl.out; (repeat' (first | (with_reducible exact Below.refl _ _) | (with_reducible assumption) | (with_reducible refine Below.alloc ?_ ?_ _) | (with_reducible refine Below.setCell ?_ ?_ _) | (with_reducible refine Below.drew ?_) | (with_reducible refine below_drewN ?_ _) | (with_reducible refine below_via ?_ (by with_reducible assumption) ?_) | omega | (simp; done) | (simp; omega))))⟩
    · have HD := Lib.hid (drop_all (l := l) (k := k) (by omega))
      go_wp2_with fail
      go_ret
      exact ⟨by rw [HV.out, HD.out]; rfl, Hbl.out⟩
set_option maxRecDepth 100000 in
set_option maxHeartbeats 1000000 in
theorem vecGet (l : List Leg) (id : Int) (A : Option Addr) (c : Nat) (w : World) (hl : l.length ≤ 1099511627776) (hr : Rd w A 2 (l.map encLeg)) :
    Calls Try.prog 104 #[.slice A l.length c, .int .i64 id] w fun e w' => e = .returned (.int .i64 (getF id l)) ∧ Below w.heap.size w w' := by
  have HR := Lib.hid hr
  clear hr
  go_enter Try.func104, Try.ntmps104
  go_wp2_with fail
  go_loopw [9] (fun i wr => ∃ k : Nat, k ≤ l.length ∧ i = .int .i64 k ∧ getF id l = getF id (l.drop k) ∧ Below w.heap.size w wr) (fun i _ => l.length - (intOf i).toNat)
  case atStart => exact ⟨0, Nat.zero_le _, rfl, rfl, Below.refl _ _⟩
  case round =>
    obtain ⟨k, hk, rfl, hv, hbl⟩ := hrel
    have Hbl := Lib.hid hbl
    have HV := Lib.hid hv
    have hz := hbl.size
    clear hbl hv
    by_cases hlt : k < l.length
    · obtain ⟨be, oe, rfl, hbe, hqe⟩ := HR.out k (encLeg l[k]) (by simp [hlt])
      replace hqe := fun j v hv => (Hbl.out.cell (p := ⟨be, oe + k * 2 + j, none⟩) hbe).trans (hqe j v hv)
      have e0 := hqe 0 _ rfl
      have e1 := hqe 1 _ rfl
      simp only [Nat.add_zero] at e0
      clear hqe
      have HD := Lib.hid (drop_cons' hlt)
      cases hq : (l[k].inst == id)
      · have HN := Lib.hid (show getF id (l[k] :: l.drop (k + 1)) = getF id (l.drop (k + 1)) from by rw [getF, if_neg (by simpa using hq)])
        go_wp2_with fail
        go_roundw
        case rel => exact ⟨k + 1, by omega, by go_num, by rw [HV.out, HD.out, HN.out], by (have hbl := Hbl.out; (repeat' (first | (with_reducible exact Below.refl _ _) | (with_reducible assumption) | (with_reducible refine Below.alloc ?_ ?_ _) | (with_reducible refine Below.setCell ?_ ?_ _) | (with_reducible refine Below.drew ?_) | (with_reducible refine below_drewN ?_ _) | (with_reducible refine below_via ?_ (by with_reducible assumption) ?_) | omega | (simp; done) | (simp; omega))))⟩
        case measure => simp [intOf]; omega
      · have HN := Lib.hid (show getF id (l[k] :: l.drop (k + 1)) = l[k].qty from by rw [getF, if_pos (by simpa using hq)])
        go_wp2_with fail
        go_ret
        exact ⟨by rw [HV.out, HD.out, HN.out]; first | done | rfl, by (have hbl := Hbl.out; (repeat' (first | (with_reducible exact Below.refl _ _) | (with_reducible assumption) | (with_reducible refine Below.alloc ?_ ?_ _) | (with_reducible refine Below.setCell ?_ ?_ _) | (with_reducible refine Below.drew ?_) | (with_reducible refine below_drewN ?_ _) | (with_reducible refine below_via ?_ (by with_reducible assumption) ?_) | omega | (simp; done) | (simp; omega))))⟩
    · have HD := Lib.hid (drop_all (l := l) (k := k) (by omega))
      go_wp2_with fail
      go_ret
      exact ⟨by rw [HV.out, HD.out]; rfl, Hbl.out⟩
set_option maxRecDepth 100000 in
set_option maxHeartbeats 1000000 in
theorem refGet11 (l : List Leg) (id : Int) (A : Option Addr) (c : Nat) (w : World) (hl : l.length ≤ 1099511627776) (hr : Rd w A 2 (l.map encLeg)) :
    Calls Try.prog 84 #[.slice A l.length c, .int .i64 id] w fun e w' => e = .returned (.int .i64 (getF id l)) ∧ Below w.heap.size w w' := by
  have HR := Lib.hid hr
  clear hr
  go_enter Try.func84, Try.ntmps84
  go_wp2_with fail
  go_loopw [5] (fun i wr => ∃ k : Nat, k ≤ l.length ∧ i = .int .i64 k ∧ getF id l = getF id (l.drop k) ∧ Below w.heap.size w wr) (fun i _ => l.length - (intOf i).toNat)
  case atStart => exact ⟨0, Nat.zero_le _, rfl, rfl, Below.refl _ _⟩
  case round =>
    obtain ⟨k, hk, rfl, hv, hbl⟩ := hrel
    have Hbl := Lib.hid hbl
    have HV := Lib.hid hv
    have hz := hbl.size
    clear hbl hv
    by_cases hlt : k < l.length
    · obtain ⟨be, oe, rfl, hbe, hqe⟩ := HR.out k (encLeg l[k]) (by simp [hlt])
      replace hqe := fun j v hv => (Hbl.out.cell (p := ⟨be, oe + k * 2 + j, none⟩) hbe).trans (hqe j v hv)
      have e0 := hqe 0 _ rfl
      have e1 := hqe 1 _ rfl
      simp only [Nat.add_zero] at e0
      clear hqe
      have HD := Lib.hid (drop_cons' hlt)
      cases hq : (l[k].inst == id)
      · have HN := Lib.hid (show getF id (l[k] :: l.drop (k + 1)) = getF id (l.drop (k + 1)) from by rw [getF, if_neg (by simpa using hq)])
        go_wp2_with fail
        go_roundw
        case rel => exact ⟨k + 1, by omega, by go_num, by rw [HV.out, HD.out, HN.out], by (have hbl := Hbl.out; (repeat' (first | (with_reducible exact Below.refl _ _) | (with_reducible assumption) | (with_reducible refine Below.alloc ?_ ?_ _) | (with_reducible refine Below.setCell ?_ ?_ _) | (with_reducible refine Below.drew ?_) | (with_reducible refine below_drewN ?_ _) | (with_reducible refine below_via ?_ (by with_reducible assumption) ?_) | omega | (simp; done) | (simp; omega))))⟩
        case measure => simp [intOf]; omega
      · have HN := Lib.hid (show getF id (l[k] :: l.drop (k + 1)) = l[k].qty from by rw [getF, if_pos (by simpa using hq)])
        go_wp2_with fail
        go_ret
        exact ⟨by rw [HV.out, HD.out, HN.out]; first | done | rfl, by (have hbl := Hbl.out; (repeat' (first | (with_reducible exact Below.refl _ _) | (with_reducible assumption) | (with_reducible refine Below.alloc ?_ ?_ _) | (with_reducible refine Below.setCell ?_ ?_ _) | (with_reducible refine Below.drew ?_) | (with_reducible refine below_drewN ?_ _) | (with_reducible refine below_via ?_ (by with_reducible assumption) ?_) | omega | (simp; done) | (simp; omega))))⟩
    · have HD := Lib.hid (drop_all (l := l) (k := k) (by omega))
      go_wp2_with fail
      go_ret
      exact ⟨by rw [HV.out, HD.out]; rfl, Hbl.out⟩
theorem isF_bad {a : Int} {x : Leg} {l : List Leg} (h : ¬ a < x.inst ∨ 8 < x.inst ∨ (x.qty == 0) = true) : isF a (x :: l) = false := by
  rcases h with h | h | h
  · exact isF_no (by omega)
  · exact isF_no (by omega)
  · exact isF_no0 h
set_option maxRecDepth 100000 in
set_option maxHeartbeats 4000000 in
theorem refIs11 (l : List Leg) (A : Option Addr) (c : Nat) (w : World) (hl : l.length ≤ 1099511627776) (hr : Rd w A 2 (l.map encLeg)) :
    Calls Try.prog 76 #[.slice A l.length c] w fun e w' => e = .returned (.bool (isV l)) ∧ Below w.heap.size w w' := by
  have HR := Lib.hid hr
  clear hr
  go_enter Try.func76, Try.ntmps76
  go_wp2_with fail
  go_loopw [3] (fun i wr => ∃ (k : Nat) (x : Int), k ≤ l.length ∧ i = .int .i64 k ∧ isV l = isF x (l.drop k) ∧ Below w.heap.size w wr ∧ (k = 0 ∧ x = 0 ∨ 0 < k ∧ x = (l.getD (k - 1) ⟨0, 0⟩).inst ∧ 1 ≤ x)) (fun i _ => l.length - (intOf i).toNat)
  case atStart => exact ⟨0, 0, Nat.zero_le _, rfl, rfl, Below.refl _ _, .inl ⟨rfl, rfl⟩⟩
  case round =>
    obtain ⟨k, x, hk, rfl, hv, hbl, hx⟩ := hrel
    have Hbl := Lib.hid hbl
    have HV := Lib.hid hv
    have hz := hbl.size
    clear hbl hv
    by_cases hlt : k < l.length
    · obtain ⟨be, oe, rfl, hbe, hqe⟩ := HR.out k (encLeg l[k]) (by simp [hlt])
      replace hqe := fun j v hv => (Hbl.out.cell (p := ⟨be, oe + k * 2 + j, none⟩) hbe).trans (hqe j v hv)
      have e0 := hqe 0 _ rfl
      have e1 := hqe 1 _ rfl
      simp only [Nat.add_zero] at e0
      clear hqe
      have HD := Lib.hid (drop_cons' hlt)
      have WK := Lib.hid (show IntKind.i64.wrap ((k : Int) - 1) = (k : Int) - 1 from IntWalk.i64_in _ (by omega))
      have TK := Lib.hid (show ((k : Int) - 1).toNat = k - 1 from by omega)
      rcases hx with ⟨k0, hx⟩ | ⟨k0, hx, x1⟩
      · have g0 : decide (0 < k) = false := by simp; omega
        have K0 := Lib.hid k0
        have X0 := Lib.hid hx
        have x0 : 0 ≤ x ∧ x ≤ 0 := by omega
        clear k0 hx
        by_cases t0 : l[k].inst < 1
        · have d0 := decide_eq_true t0
          have HN := Lib.hid (isF_bad (a := x) (x := l[k]) (l := l.drop (k + 1)) (by first | (left; omega) | (right; left; omega) | (right; right; assumption)))
          have wk := WK.out
          have tk := TK.out
          go_wp2_with fail
          go_quiet (fail)
          clear wk tk
          go_wp2_with fail
          go_ret
          exact ⟨by rw [HV.out, HD.out, HN.out]; first | done | rfl, by (have hbl := Hbl.out; (repeat' (first | (with_reducible exact Below.refl _ _) | (with_reducible assumption) | (with_reducible refine Below.alloc ?_ ?_ _) | (with_reducible refine Below.setCell ?_ ?_ _) | (with_reducible refine Below.drew ?_) | (with_reducible refine below_drewN ?_ _) | (with_reducible refine below_via ?_ (by with_reducible assumption) ?_) | omega | (simp; done) | (simp; omega))))⟩
        have d0 := decide_eq_false t0
        by_cases t1 : 8 < l[k].inst
        · have d1 := decide_eq_true t1
          have HN := Lib.hid (isF_bad (a := x) (x := l[k]) (l := l.drop (k + 1)) (by first | (left; omega) | (right; left; omega) | (right; right; assumption)))
          have wk := WK.out
          have tk := TK.out
          go_wp2_with fail
          go_quiet (fail)
          clear wk tk
          go_wp2_with fail
          go_ret
          exact ⟨by rw [HV.out, HD.out, HN.out]; first | done | rfl, by (have hbl := Hbl.out; (repeat' (first | (with_reducible exact Below.refl _ _) | (with_reducible assumption) | (with_reducible refine Below.alloc ?_ ?_ _) | (with_reducible refine Below.setCell ?_ ?_ _) | (with_reducible refine Below.drew ?_) | (with_reducible refine below_drewN ?_ _) | (with_reducible refine below_via ?_ (by with_reducible assumption) ?_) | omega | (simp; done) | (simp; omega))))⟩
        have d1 := decide_eq_false t1
        cases t2 : (l[k].qty == 0)
        rotate_left
        · have HN := Lib.hid (isF_bad (a := x) (x := l[k]) (l := l.drop (k + 1)) (by first | (left; omega) | (right; left; omega) | (right; right; assumption)))
          have wk := WK.out
          have tk := TK.out
          go_wp2_with fail
          go_quiet (fail)
          clear wk tk
          go_wp2_with fail
          go_ret
          exact ⟨by rw [HV.out, HD.out, HN.out]; first | done | rfl, by (have hbl := Hbl.out; (repeat' (first | (with_reducible exact Below.refl _ _) | (with_reducible assumption) | (with_reducible refine Below.alloc ?_ ?_ _) | (with_reducible refine Below.setCell ?_ ?_ _) | (with_reducible refine Below.drew ?_) | (with_reducible refine below_drewN ?_ _) | (with_reducible refine below_via ?_ (by with_reducible assumption) ?_) | omega | (simp; done) | (simp; omega))))⟩
        have X1 : x < l[k].inst := by omega
        have HN := Lib.hid (isF_yes (a := x) (x := l[k]) (l := l.drop (k + 1)) ⟨by omega, by omega⟩ t2)
        have wk := WK.out
        have tk := TK.out
        go_wp2_with fail
        go_quiet (fail)
        clear wk tk
        go_wp2_with fail
        go_roundw
        case rel => exact ⟨k + 1, l[k].inst, by omega, by go_num, by rw [HV.out, HD.out, HN.out], by (have hbl := Hbl.out; (repeat' (first | (with_reducible exact Below.refl _ _) | (with_reducible assumption) | (with_reducible refine Below.alloc ?_ ?_ _) | (with_reducible refine Below.setCell ?_ ?_ _) | (with_reducible refine Below.drew ?_) | (with_reducible refine below_drewN ?_ _) | (with_reducible refine below_via ?_ (by with_reducible assumption) ?_) | omega | (simp; done) | (simp; omega)))), .inr ⟨by omega, by rw [Nat.add_sub_cancel, getD_at hlt], by omega⟩⟩
        case measure => simp [intOf]; omega
      · have g0 : decide (0 < k) = true := by simpa using k0
        have g1 : (0 : Int) ≤ (k : Int) - 1 := by omega
        have hk1 : k - 1 < l.length := by omega
        rw [getD_at hk1] at hx
        obtain ⟨b1, o1, q1, hb1, hq1⟩ := HR.out (k - 1) (encLeg l[k - 1]) (by simp [hk1])
        injection q1 with q1
        injection q1 with q1 q2 _
        subst q1 q2
        have f0 := (Hbl.out.cell (p := ⟨be, oe + (k - 1) * 2 + 0, none⟩) hbe).trans (hq1 0 _ rfl)
        simp only [Nat.add_zero] at f0
        rw [← hx] at f0
        have X0 := Lib.hid hx
        clear hq1 hx
        by_cases t0 : l[k].inst < 1
        · have d0 := decide_eq_true t0
          have HN := Lib.hid (isF_bad (a := x) (x := l[k]) (l := l.drop (k + 1)) (by first | (left; omega) | (right; left; omega) | (right; right; assumption)))
          have wk := WK.out
          have tk := TK.out
          go_wp2_with fail
          go_quiet (fail)
          clear wk tk
          go_wp2_with fail
          go_ret
          exact ⟨by rw [HV.out, HD.out, HN.out]; first | done | rfl, by (have hbl := Hbl.out; (repeat' (first | (with_reducible exact Below.refl _ _) | (with_reducible assumption) | (with_reducible refine Below.alloc ?_ ?_ _) | (with_reducible refine Below.setCell ?_ ?_ _) | (with_reducible refine Below.drew ?_) | (with_reducible refine below_drewN ?_ _) | (with_reducible refine below_via ?_ (by with_reducible assumption) ?_) | omega | (simp; done) | (simp; omega))))⟩
        have d0 := decide_eq_false t0
        by_cases t1 : 8 < l[k].inst
        · have d1 := decide_eq_true t1
          have HN := Lib.hid (isF_bad (a := x) (x := l[k]) (l := l.drop (k + 1)) (by first | (left; omega) | (right; left; omega) | (right; right; assumption)))
          have wk := WK.out
          have tk := TK.out
          go_wp2_with fail
          go_quiet (fail)
          clear wk tk
          go_wp2_with fail
          go_ret
          exact ⟨by rw [HV.out, HD.out, HN.out]; first | done | rfl, by (have hbl := Hbl.out; (repeat' (first | (with_reducible exact Below.refl _ _) | (with_reducible assumption) | (with_reducible refine Below.alloc ?_ ?_ _) | (with_reducible refine Below.setCell ?_ ?_ _) | (with_reducible refine Below.drew ?_) | (with_reducible refine below_drewN ?_ _) | (with_reducible refine below_via ?_ (by with_reducible assumption) ?_) | omega | (simp; done) | (simp; omega))))⟩
        have d1 := decide_eq_false t1
        cases t2 : (l[k].qty == 0)
        rotate_left
        · have HN := Lib.hid (isF_bad (a := x) (x := l[k]) (l := l.drop (k + 1)) (by first | (left; omega) | (right; left; omega) | (right; right; assumption)))
          have wk := WK.out
          have tk := TK.out
          go_wp2_with fail
          go_quiet (fail)
          clear wk tk
          go_wp2_with fail
          go_ret
          exact ⟨by rw [HV.out, HD.out, HN.out]; first | done | rfl, by (have hbl := Hbl.out; (repeat' (first | (with_reducible exact Below.refl _ _) | (with_reducible assumption) | (with_reducible refine Below.alloc ?_ ?_ _) | (with_reducible refine Below.setCell ?_ ?_ _) | (with_reducible refine Below.drew ?_) | (with_reducible refine below_drewN ?_ _) | (with_reducible refine below_via ?_ (by with_reducible assumption) ?_) | omega | (simp; done) | (simp; omega))))⟩
        by_cases t3 : l[k].inst ≤ x
        · have d3 := decide_eq_true t3
          have HN := Lib.hid (isF_bad (a := x) (x := l[k]) (l := l.drop (k + 1)) (by first | (left; omega) | (right; left; omega) | (right; right; assumption)))
          have wk := WK.out
          have tk := TK.out
          go_wp2_with fail
          go_quiet (fail)
          clear wk tk
          go_wp2_with fail
          go_ret
          exact ⟨by rw [HV.out, HD.out, HN.out]; first | done | rfl, by (have hbl := Hbl.out; (repeat' (first | (with_reducible exact Below.refl _ _) | (with_reducible assumption) | (with_reducible refine Below.alloc ?_ ?_ _) | (with_reducible refine Below.setCell ?_ ?_ _) | (with_reducible refine Below.drew ?_) | (with_reducible refine below_drewN ?_ _) | (with_reducible refine below_via ?_ (by with_reducible assumption) ?_) | omega | (simp; done) | (simp; omega))))⟩
        have d3 := decide_eq_false t3
        have HN := Lib.hid (isF_yes (a := x) (x := l[k]) (l := l.drop (k + 1)) ⟨by omega, by omega⟩ t2)
        have wk := WK.out
        have tk := TK.out
        go_wp2_with fail
        go_quiet (fail)
        clear wk tk
        go_wp2_with fail
        go_roundw
        case rel => exact ⟨k + 1, l[k].inst, by omega, by go_num, by rw [HV.out, HD.out, HN.out], by (have hbl := Hbl.out; (repeat' (first | (with_reducible exact Below.refl _ _) | (with_reducible assumption) | (with_reducible refine Below.alloc ?_ ?_ _) | (with_reducible refine Below.setCell ?_ ?_ _) | (with_reducible refine Below.drew ?_) | (with_reducible refine below_drewN ?_ _) | (with_reducible refine below_via ?_ (by with_reducible assumption) ?_) | omega | (simp; done) | (simp; omega)))), .inr ⟨by omega, by rw [Nat.add_sub_cancel, getD_at hlt], by omega⟩⟩
        case measure => simp [intOf]; omega
    · have HD := Lib.hid (drop_all (l := l) (k := k) (by omega))
      go_wp2_with fail
      go_ret
      exact ⟨by rw [HV.out, HD.out]; rfl, Hbl.out⟩
end Go.Proofs.Ytiidplinmempcaa

/- Contracts of vec.none, ContainsFunc of it, vec.Same. -/
namespace Go.Proofs.Ytiidplinmempcaa
open Go.RowKit
set_option maxRecDepth 100000 in
set_option maxHeartbeats 1000000 in
theorem vecNone (l : List Leg) (A : Option Addr) (c : Nat) (w : World) (hl : l.length ≤ 1099511627776) (hr : Rd w A 2 (l.map encLeg)) :
    Calls Try.prog 138 #[.slice A l.length c] w fun e w' => e = .returned (.bool (!isV l)) ∧ Below w.heap.size w w' := by
  have HR := Lib.hid hr
  clear hr
  go_enter Try.func138, Try.ntmps138
  go_wp2_with (go_at_call 71; (with_reducible refine (vecIs l A c _ hl HR.out).mono ?_); rintro e w1 ⟨rfl, hb1⟩; obtain ⟨fc1, fg1, hc1, hf1, hz1⟩ := bget hb1; try simp at hz1)
  go_ret
  exact ⟨rfl, by (repeat' (first | (with_reducible exact Below.refl _ _) | (with_reducible assumption) | (with_reducible refine Below.alloc ?_ ?_ _) | (with_reducible refine Below.setCell ?_ ?_ _) | (with_reducible refine Below.drew ?_) | (with_reducible refine below_drewN ?_ _) | (with_reducible refine below_via ?_ (by with_reducible assumption) ?_) | omega | (simp; done) | (simp; omega)))⟩
def Short (ls : List (List Leg)) : Prop := ls.length ≤ 1099511627776 ∧ ∀ l ∈ ls, l.length ≤ 1099511627776
theorem Short.pt {ls : List (List Leg)} (h : Short ls) {i : Nat} (hi : i < ls.length) : ls[i].length ≤ 1099511627776 := h.2 _ (List.getElem_mem hi)
set_option maxRecDepth 100000 in
set_option maxHeartbeats 1000000 in
theorem vecIndex (ls : List (List Leg)) (A : Option Addr) (c : Nat) (w : World) (hl : Short ls) (hr : RsS 2 encLeg w ls A c) :
    Calls Try.prog 168 #[.slice A ls.length c, .func (Fn.func 138) #[] #[]] w fun e w' => e = .returned (.int .i64 (idxOf (fun l => !isV l) ls)) ∧ Below w.heap.size w w' := by
  have HR := Lib.hid hr
  have HL := Lib.hid hl
  have hl1 := hl.1
  clear hr hl
  go_enter Try.func168, Try.ntmps168
  go_wp2_with fail
  go_loopw [8] (fun i wr => ∃ k : Nat, k ≤ ls.length ∧ i = .int .i64 k ∧ Below w.heap.size w wr ∧ ∀ j (_ : j < ls.length), j < k → (!isV ls[j]) = false) (fun i _ => ls.length - (intOf i).toNat)
  case atStart => exact ⟨0, Nat.zero_le _, rfl, Below.refl _ _, fun j _ h => absurd h (by omega)⟩
  case round =>
    obtain ⟨k, hk, rfl, hbl, hno⟩ := hrel
    have Hbl := Lib.hid hbl
    have Hno := Lib.hid hno
    have hz := hbl.size
    clear hbl hno
    by_cases hlt : k < ls.length
    · obtain ⟨b, o, B, d, rfl, hb, hq, hrk⟩ := HR.out.row hlt
      have e0 := (Hbl.out.cell (p := ⟨b, o + k, none⟩) hb).trans hq
      have HK := Lib.hid (hrk.keep Hbl.out)
      have HKL := HL.out.pt hlt
      clear hq hrk
      cases hm : (!isV ls[k])
      · have Hm := Lib.hid hm
        clear hm
        go_wp2_with (go_at_call 138; (with_reducible refine (vecNone ls[k] B d _ HKL HK.out.rd).mono ?_); rw [Hm.out]; rintro e w1 ⟨rfl, hb1⟩; have hz1 := hb1.size; have Hb1 := Lib.hid hb1; clear hb1)
        go_roundw
        case rel => exact ⟨k + 1, by omega, by go_num, Hbl.out.trans (Hb1.out.mono hz), fun j hj h => by
          rcases Nat.lt_or_ge j k with h1 | h1
          · exact Hno.out j hj h1
          · obtain rfl : j = k := by omega
            exact Hm.out⟩
        case measure => simp [intOf]; omega
      · have hi := idx_hit (p := fun l => !isV l) hlt hm Hno.out
        have Hi := Lib.hid hi
        have Hm := Lib.hid hm
        clear hm hi
        go_wp2_with (go_at_call 138; (with_reducible refine (vecNone ls[k] B d _ HKL HK.out.rd).mono ?_); rw [Hm.out]; rintro e w1 ⟨rfl, hb1⟩; have hz1 := hb1.size; have Hb1 := Lib.hid hb1; clear hb1)
        go_ret
        exact ⟨by rw [Hi.out]; rfl, Hbl.out.trans (Hb1.out.mono hz)⟩
    · have hi := idx_miss (p := fun l => !isV l) (l := ls) (fun j hj => Hno.out j hj (by omega))
      have Hi := Lib.hid hi
      clear hi
      go_wp2_with fail
      go_ret
      exact ⟨by rw [Hi.out]; rfl, Hbl.out⟩
def allV (ls : List (List Leg)) : Bool := ls.all isV
theorem idx_none (ls : List (List Leg)) : decide (0 ≤ idxOf (fun l => !isV l) ls) = !allV ls := by
  unfold idxOf allV
  cases h : ls.findIdx? (fun l => !isV l) with
  | none =>
    rw [List.findIdx?_eq_none_iff] at h
    have : ls.all isV = true := by rw [List.all_eq_true]; intro x hx; simpa using h x hx
    simp [this]
  | some k =>
    rw [List.findIdx?_eq_some_iff_getElem] at h
    obtain ⟨hk, h1, _⟩ := h
    have : ls.all isV = false := by
      rw [List.all_eq_false]; exact ⟨_, List.getElem_mem hk, by simpa using h1⟩
    simp [this]
set_option maxRecDepth 100000 in
set_option maxHeartbeats 1000000 in
theorem vecContains (ls : List (List Leg)) (A : Option Addr) (c : Nat) (w : World) (hl : Short ls) (hr : RsS 2 encLeg w ls A c) :
    Calls Try.prog 137 #[.slice A ls.length c, .func (Fn.func 138) #[] #[]] w fun e w' => e = .returned (.bool (!allV ls)) ∧ Below w.heap.size w w' := by
  have HR := Lib.hid hr
  have HL := Lib.hid hl
  have HI := Lib.hid (idx_none ls)
  clear hr hl
  go_enter Try.func137, Try.ntmps137
  go_wp2_with (go_at_call 168; (with_reducible refine (vecIndex ls A c _ HL.out HR.out).mono ?_); rintro e w1 ⟨rfl, hb1⟩; obtain ⟨fc1, fg1, hc1, hf1, hz1⟩ := bget hb1; try simp at hz1)
  go_ret
  exact ⟨by rw [← HI.out]; rfl, by (repeat' (first | (with_reducible exact Below.refl _ _) | (with_reducible assumption) | (with_reducible refine Below.alloc ?_ ?_ _) | (with_reducible refine Below.setCell ?_ ?_ _) | (with_reducible refine Below.drew ?_) | (with_reducible refine below_drewN ?_ _) | (with_reducible refine below_via ?_ (by with_reducible assumption) ?_) | omega | (simp; done) | (simp; omega)))⟩
end Go.Proofs.Ytiidplinmempcaa
