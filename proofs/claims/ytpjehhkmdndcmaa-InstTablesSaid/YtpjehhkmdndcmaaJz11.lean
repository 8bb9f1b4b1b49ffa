/- Joined: InstQ, InstR. -/
import Derived.Test.YtpjehhkmdndcmaaJz10
/- Instruments in tables: contracts of inst.at, Find, Put. -/
namespace Go.Proofs.Ytpjehhkmdndcmaa
open Go.RowKit
set_option maxRecDepth 100000 in
set_option maxHeartbeats 1000000 in
theorem instAtFn (x : InstV) (id : Int) (g : Nat) (w : World) (hcap : CapC w g [.int .i64 id]) :
    Calls Try.prog 101 #[.agg #[.int .i64 x.id, .int .i64 x.mult, .int .i64 x.price, .int .i64 x.next, .slice x.moves.A x.moves.val.length x.moves.c], .pointer (some ⟨g, 0, none⟩)] w fun e w' => e = .returned (.bool (x.id == id)) ∧ Below w.heap.size w w' := by
  have h0 := hcap.2 0 _ rfl
  have hg := hcap.1
  clear hcap
  go_enter Try.func101, Try.ntmps101
  go_wp2_with fail
  go_ret
  exact ⟨rfl, by (repeat' (first | (with_reducible exact Below.refl _ _) | (with_reducible assumption) | (with_reducible refine Below.alloc ?_ ?_ _) | (with_reducible refine Below.setCell ?_ ?_ _) | (with_reducible refine Below.drew ?_) | (with_reducible refine below_drewN ?_ _) | (with_reducible refine below_via ?_ (by with_reducible assumption) ?_) | omega | (simp; done) | (simp; omega)))⟩
set_option maxRecDepth 100000 in
set_option maxHeartbeats 1000000 in
theorem instPutFn (x m : InstV) (g : Nat) (w : World) (hcap : CapC w g (encInstV m)) :
    Calls Try.prog 79 #[.agg #[.int .i64 x.id, .int .i64 x.mult, .int .i64 x.price, .int .i64 x.next, .slice x.moves.A x.moves.val.length x.moves.c], .pointer (some ⟨g, 0, none⟩)] w fun e w' => e = .returned (.bool (decide (m.id < x.id))) ∧ Below w.heap.size w w' := by
  have h0 := hcap.2 0 _ rfl
  have hg := hcap.1
  clear hcap
  go_enter Try.func79, Try.ntmps79
  go_wp2_with fail
  go_ret
  exact ⟨rfl, by (repeat' (first | (with_reducible exact Below.refl _ _) | (with_reducible assumption) | (with_reducible refine Below.alloc ?_ ?_ _) | (with_reducible refine Below.setCell ?_ ?_ _) | (with_reducible refine Below.drew ?_) | (with_reducible refine below_drewN ?_ _) | (with_reducible refine below_via ?_ (by with_reducible assumption) ?_) | omega | (simp; done) | (simp; omega)))⟩
set_option maxRecDepth 100000 in
set_option maxHeartbeats 1000000 in
theorem instAtIdx (l : List InstV) (id : Int) (A : Option Addr) (c g : Nat) (w : World) (hl : l.length ≤ 1099511627776) (hr : Rd w A 5 (l.map encInstV)) (hcap : CapC w g [.int .i64 id]) :
    Calls Try.prog 78 #[.slice A l.length c, .func (Fn.func 101) #[] #[.pointer (some ⟨g, 0, none⟩)]] w fun e w' => e = .returned (.int .i64 (idxOf (fun x : InstV => x.id == id) l)) ∧ Below w.heap.size w w' := by
  have Hr := Lib.hid hr
  have H0 := Lib.hid hcap
  clear hr hcap
  go_enter Try.func78, Try.ntmps78
  go_wp2_with fail
  go_loopw [8] (fun i wr => ∃ k : Nat, k ≤ l.length ∧ i = .int .i64 k ∧ Below w.heap.size w wr ∧ ∀ j (_ : j < l.length), j < k → (fun x : InstV => x.id == id) l[j] = false) (fun i _ => l.length - (intOf i).toNat)
  case atStart => exact ⟨0, Nat.zero_le _, rfl, Below.refl _ _, fun j _ h => absurd h (by omega)⟩
  case round =>
    obtain ⟨k, hk, rfl, hbl, hno⟩ := hrel
    have Hbl := Lib.hid hbl
    have Hno := Lib.hid hno
    have hz := hbl.size
    clear hbl hno
    by_cases hlt : k < l.length
    · obtain ⟨b, o, rfl, hb, hc⟩ := Hr.out k (encInstV l[k]) (by simp [hlt])
      have c0 := (Hbl.out.cell (p := ⟨b, o + k * 5 + 0, none⟩) hb).trans (hc 0 _ rfl)
      have c1 := (Hbl.out.cell (p := ⟨b, o + k * 5 + 1, none⟩) hb).trans (hc 1 _ rfl)
      have c2 := (Hbl.out.cell (p := ⟨b, o + k * 5 + 2, none⟩) hb).trans (hc 2 _ rfl)
      have c3 := (Hbl.out.cell (p := ⟨b, o + k * 5 + 3, none⟩) hb).trans (hc 3 _ rfl)
      have c4 := (Hbl.out.cell (p := ⟨b, o + k * 5 + 4, none⟩) hb).trans (hc 4 _ rfl)
      have H0' := Lib.hid (H0.out.keep Hbl.out)
      simp only [Nat.add_zero] at c0
      clear hc
      cases hm : (fun x : InstV => x.id == id) l[k]
      · have Hm := Lib.hid hm
        clear hm
        go_wp2_with (go_at_call 101; (with_reducible refine (instAtFn l[k] id g _ (H0'.out.keep (by (repeat' (first | (with_reducible exact Below.refl _ _) | (with_reducible assumption) | (with_reducible refine Below.alloc ?_ ?_ _) | (with_reducible refine Below.setCell ?_ ?_ _) | (with_reducible refine Below.drew ?_) | (with_reducible refine below_drewN ?_ _) | (with_reducible refine below_via ?_ (by with_reducible assumption) ?_) | omega | (simp; done) | (simp; omega)))))).mono ?_); rw [Hm.out]; rintro e w1 ⟨rfl, hb1⟩; have hz1 := hb1.size; have Hb1 := Lib.hid hb1; clear hb1)
        go_roundw
        case rel => exact ⟨k + 1, by omega, by go_num, Hbl.out.trans (Hb1.out.mono (by first | omega | (simp; done) | (simp; omega))), fun j hj h => by
          rcases Nat.lt_or_ge j k with h1 | h1
          · exact Hno.out j hj h1
          · obtain rfl : j = k := by omega
            exact Hm.out⟩
        case measure => simp [intOf]; omega
      · have hi := idx_hit (p := fun x : InstV => x.id == id) hlt hm Hno.out
        have Hi := Lib.hid hi
        have Hm := Lib.hid hm
        clear hm hi
        go_wp2_with (go_at_call 101; (with_reducible refine (instAtFn l[k] id g _ (H0'.out.keep (by (repeat' (first | (with_reducible exact Below.refl _ _) | (with_reducible assumption) | (with_reducible refine Below.alloc ?_ ?_ _) | (with_reducible refine Below.setCell ?_ ?_ _) | (with_reducible refine Below.drew ?_) | (with_reducible refine below_drewN ?_ _) | (with_reducible refine below_via ?_ (by with_reducible assumption) ?_) | omega | (simp; done) | (simp; omega)))))).mono ?_); rw [Hm.out]; rintro e w1 ⟨rfl, hb1⟩; have hz1 := hb1.size; have Hb1 := Lib.hid hb1; clear hb1)
        go_ret
        exact ⟨by rw [Hi.out]; rfl, Hbl.out.trans (Hb1.out.mono (by first | omega | (simp; done) | (simp; omega)))⟩
    · have hi := idx_miss (p := fun x : InstV => x.id == id) (l := l) (fun j hj => Hno.out j hj (by omega))
      have Hi := Lib.hid hi
      clear hi
      go_wp2_with fail
      go_ret
      exact ⟨by rw [Hi.out]; rfl, Hbl.out⟩
set_option maxRecDepth 100000 in
set_option maxHeartbeats 1000000 in
theorem instPutIdx (l : List InstV) (m : InstV) (A : Option Addr) (c g : Nat) (w : World) (hl : l.length ≤ 1099511627776) (hr : Rd w A 5 (l.map encInstV)) (hcap : CapC w g (encInstV m)) :
    Calls Try.prog 78 #[.slice A l.length c, .func (Fn.func 79) #[] #[.pointer (some ⟨g, 0, none⟩)]] w fun e w' => e = .returned (.int .i64 (idxOf (fun x : InstV => decide (m.id < x.id)) l)) ∧ Below w.heap.size w w' := by
  have Hr := Lib.hid hr
  have H0 := Lib.hid hcap
  clear hr hcap
  go_enter Try.func78, Try.ntmps78
  go_wp2_with fail
  go_loopw [8] (fun i wr => ∃ k : Nat, k ≤ l.length ∧ i = .int .i64 k ∧ Below w.heap.size w wr ∧ ∀ j (_ : j < l.length), j < k → (fun x : InstV => decide (m.id < x.id)) l[j] = false) (fun i _ => l.length - (intOf i).toNat)
  case atStart => exact ⟨0, Nat.zero_le _, rfl, Below.refl _ _, fun j _ h => absurd h (by omega)⟩
  case round =>
    obtain ⟨k, hk, rfl, hbl, hno⟩ := hrel
    have Hbl := Lib.hid hbl
    have Hno := Lib.hid hno
    have hz := hbl.size
    clear hbl hno
    by_cases hlt : k < l.length
    · obtain ⟨b, o, rfl, hb, hc⟩ := Hr.out k (encInstV l[k]) (by simp [hlt])
      have c0 := (Hbl.out.cell (p := ⟨b, o + k * 5 + 0, none⟩) hb).trans (hc 0 _ rfl)
      have c1 := (Hbl.out.cell (p := ⟨b, o + k * 5 + 1, none⟩) hb).trans (hc 1 _ rfl)
      have c2 := (Hbl.out.cell (p := ⟨b, o + k * 5 + 2, none⟩) hb).trans (hc 2 _ rfl)
      have c3 := (Hbl.out.cell (p := ⟨b, o + k * 5 + 3, none⟩) hb).trans (hc 3 _ rfl)
      have c4 := (Hbl.out.cell (p := ⟨b, o + k * 5 + 4, none⟩) hb).trans (hc 4 _ rfl)
      have H0' := Lib.hid (H0.out.keep Hbl.out)
      simp only [Nat.add_zero] at c0
      clear hc
      cases hm : (fun x : InstV => decide (m.id < x.id)) l[k]
      · have Hm := Lib.hid hm
        clear hm
        go_wp2_with (go_at_call 79; (with_reducible refine (instPutFn l[k] m g _ (H0'.out.keep (by (repeat' (first | (with_reducible exact Below.refl _ _) | (with_reducible assumption) | (with_reducible refine Below.alloc ?_ ?_ _) | (with_reducible refine Below.setCell ?_ ?_ _) | (with_reducible refine Below.drew ?_) | (with_reducible refine below_drewN ?_ _) | (with_reducible refine below_via ?_ (by with_reducible assumption) ?_) | omega | (simp; done) | (simp; omega)))))).mono ?_); rw [Hm.out]; rintro e w1 ⟨rfl, hb1⟩; have hz1 := hb1.size; have Hb1 := Lib.hid hb1; clear hb1)
        go_roundw
        case rel => exact ⟨k + 1, by omega, by go_num, Hbl.out.trans (Hb1.out.mono (by first | omega | (simp; done) | (simp; omega))), fun j hj h => by
          rcases Nat.lt_or_ge j k with h1 | h1
          · exact Hno.out j hj h1
          · obtain rfl : j = k := by omega
            exact Hm.out⟩
        case measure => simp [intOf]; omega
      · have hi := idx_hit (p := fun x : InstV => decide (m.id < x.id)) hlt hm Hno.out
        have Hi := Lib.hid hi
        have Hm := Lib.hid hm
        clear hm hi
        go_wp2_with (go_at_call 79; (with_reducible refine (instPutFn l[k] m g _ (H0'.out.keep (by (repeat' (first | (with_reducible exact Below.refl _ _) | (with_reducible assumption) | (with_reducible refine Below.alloc ?_ ?_ _) | (with_reducible refine Below.setCell ?_ ?_ _) | (with_reducible refine Below.drew ?_) | (with_reducible refine below_drewN ?_ _) | (with_reducible refine below_via ?_ (by with_reducible assumption) ?_) | omega | (simp; done) | (simp; omega)))))).mono ?_); rw [Hm.out]; rintro e w1 ⟨rfl, hb1⟩; have hz1 := hb1.size; have Hb1 := Lib.hid hb1; clear hb1)
        go_ret
        exact ⟨by rw [Hi.out]; rfl, Hbl.out.trans (Hb1.out.mono (by first | omega | (simp; done) | (simp; omega)))⟩
    · have hi := idx_miss (p := fun x : InstV => decide (m.id < x.id)) (l := l) (fun j hj => Hno.out j hj (by omega))
      have Hi := Lib.hid hi
      clear hi
      go_wp2_with fail
      go_ret
      exact ⟨by rw [Hi.out]; rfl, Hbl.out⟩
theorem cap1 {w : World} {g : Nat} {u : Value} (hg : g < w.heap.size) (h0 : w.cell? ⟨g, 0, none⟩ = some u) : CapC w g [u] := by
  refine ⟨hg, fun j v hv => ?_⟩
  match j with
  | 0 => simp at hv; subst hv; exact h0
  | j + 1 => simp at hv
theorem cap5 {w : World} {g : Nat} {u0 u1 u2 u3 u4 : Value} (hg : g < w.heap.size) (h0 : w.cell? ⟨g, 0, none⟩ = some u0) (h1 : w.cell? ⟨g, 1, none⟩ = some u1) (h2 : w.cell? ⟨g, 2, none⟩ = some u2) (h3 : w.cell? ⟨g, 3, none⟩ = some u3) (h4 : w.cell? ⟨g, 4, none⟩ = some u4) : CapC w g [u0, u1, u2, u3, u4] := by
  refine ⟨hg, fun j v hv => ?_⟩
  match j with
  | 0 => simp at hv; subst hv; exact h0
  | 1 => simp at hv; subst hv; exact h1
  | 2 => simp at hv; subst hv; exact h2
  | 3 => simp at hv; subst hv; exact h3
  | 4 => simp at hv; subst hv; exact h4
  | j + 5 => simp at hv
set_option maxRecDepth 100000 in
set_option maxHeartbeats 1000000 in
theorem instAt (l : List InstV) (id : Int) (A : Option Addr) (c : Nat) (w : World) (hl : l.length ≤ 1099511627776) (hr : Rd w A 5 (l.map encInstV)) :
    Calls Try.prog 77 #[.slice A l.length c, .int .i64 id] w fun e w' => e = .returned (.int .i64 (idxOf (fun x : InstV => x.id == id) l)) ∧ Below w.heap.size w w' := by
  have Hr := Lib.hid hr
  clear hr
  go_enter Try.func77, Try.ntmps77
  go_wp2_with (first | (go_at_call 78; (with_reducible refine (instAtIdx l id A c _ _ hl (Hr.out.keep (by (repeat' (first | (with_reducible exact Below.refl _ _) | (with_reducible assumption) | (with_reducible refine Below.alloc ?_ ?_ _) | (with_reducible refine Below.setCell ?_ ?_ _) | (with_reducible refine Below.drew ?_) | (with_reducible refine below_drewN ?_ _) | (with_reducible refine below_via ?_ (by with_reducible assumption) ?_) | omega | (simp; done) | (simp; omega))))) (cap1 ?_ ?_)).mono ?_); (focus (simp; done)); (focus (first | (simp [go_sem]; done) | (simp [go_sem, ↓IntWalk.iteOmega]; done))); rintro e w1 ⟨rfl, hb1⟩) | fail)
  go_ret
  exact ⟨rfl, by (repeat' (first | (with_reducible exact Below.refl _ _) | (with_reducible assumption) | (with_reducible refine Below.alloc ?_ ?_ _) | (with_reducible refine Below.setCell ?_ ?_ _) | (with_reducible refine Below.drew ?_) | (with_reducible refine below_drewN ?_ _) | (with_reducible refine below_via ?_ (by with_reducible assumption) ?_) | omega | (simp; done) | (simp; omega)))⟩
/-- A table in memory of its own, and why not: what the program's Put, Next answer. -/
def InstPost (w : World) (L : List Inst) (code : Int) (e : Ending) (w' : World) : Prop :=
  ∃ (v : Value) (ys : List InstV), e = .returned (.tuple #[v, .int .i64 code]) ∧ ys.map lgI = L ∧ Own w' w.heap.size 24 5 v (ys.map encInstV) ∧ (∀ y ∈ ys, Rs w' 1 (y.moves.val.map encI) y.moves.A y.moves.c) ∧ Below w.heap.size w w'
theorem idx_findV (l : List InstV) (id : Int) : (∃ k, ∃ h : k < l.length, (l[k].id == id) = true ∧ (∀ j (_ : j < l.length), j < k → (l[j].id == id) = false) ∧ idxOf (fun x : InstV => x.id == id) l = k ∧ findInstV l id = (l[k], true)) ∨ ((∀ j (_ : j < l.length), (l[j].id == id) = false) ∧ idxOf (fun x : InstV => x.id == id) l = -1 ∧ findInstV l id = (⟨0, 0, 0, 0, ⟨none, 0, []⟩⟩, false)) := by
  rcases idxCases (fun x : InstV => x.id == id) l with ⟨k, hk, hm, hn, he⟩ | ⟨hn, he⟩
  · exact .inl ⟨k, hk, hm, hn, he, findInstV_hit hk hm hn⟩
  · exact .inr ⟨hn, he, findInstV_miss hn⟩
set_option maxRecDepth 100000 in
set_option maxHeartbeats 4000000 in
theorem instFind (l : List InstV) (id : Int) (A : Option Addr) (c : Nat) (w : World) (hl : l.length ≤ 1000000) (hr : Rd w A 5 (l.map encInstV)) (hg : ∀ x ∈ l, x.moves.val.length ≤ 1048576 ∧ GoodI w x) :
    Calls Try.prog 41 #[.slice A l.length c, .int .i64 id] w fun e w' => ∃ y : InstV, e = .returned (.tuple #[.agg #[.int .i64 y.id, .int .i64 y.mult, .int .i64 y.price, .int .i64 y.next, .slice y.moves.A y.moves.val.length y.moves.c], .bool (findInstV l id).2]) ∧ lgI y = lgI (findInstV l id).1 ∧ GoodI w' y ∧ Below w.heap.size w w' := by
  have c1 := fun W (h : Rd W A 5 (l.map encInstV)) => instAt l id A c W (by omega) h
  have HR := Lib.hid hr
  rcases idx_findV l id with ⟨k, hk, hm, hn, he, hf⟩ | ⟨hn, he, hf⟩
  · rw [hf]
    rw [he] at c1
    have C1 := Lib.hid c1
    have kl : (k : Int) < (l.length : Int) := by omega
    have kk : decide ((k : Int) < 0) = false := by simp
    obtain ⟨b, o, rfl, hb, hc⟩ := hr k (encInstV l[k]) (by simp [hk])
    have e0 := hc 0 _ rfl
    have e1 := hc 1 _ rfl
    have e2 := hc 2 _ rfl
    have e3 := hc 3 _ rfl
    have e4 := hc 4 _ rfl
    simp only [Nat.add_zero] at e0
    have hx := hg l[k] (List.getElem_mem hk)
    have HX := Lib.hid (fun W (h : Below w.heap.size w W) => instOwn l[k] W hx.1 (hx.2.keep h))
    clear hr he hm hn hc c1 hf hg hx
    go_enter Try.func41, Try.ntmps41
    go_wp2_with (first | (go_at_call 77; (with_reducible refine (C1.out _ (HR.out.keep (by (repeat' (first | (with_reducible exact Below.refl _ _) | (with_reducible assumption) | (with_reducible refine Below.alloc ?_ ?_ _) | (with_reducible refine Below.setCell ?_ ?_ _) | (with_reducible refine Below.drew ?_) | (with_reducible refine below_drewN ?_ _) | (with_reducible refine below_via ?_ (by with_reducible assumption) ?_) | omega | (simp; done) | (simp; omega)))))).mono ?_); rintro e w1 ⟨rfl, hb1⟩; obtain ⟨fc1, fg1, hc1, hf1, hz1⟩ := bget hb1; try simp at hz1) | (go_at_call 82; (with_reducible refine (HX.out _ (by (repeat' (first | (with_reducible exact Below.refl _ _) | (with_reducible assumption) | (with_reducible refine Below.alloc ?_ ?_ _) | (with_reducible refine Below.setCell ?_ ?_ _) | (with_reducible refine Below.drew ?_) | (with_reducible refine below_drewN ?_ _) | (with_reducible refine below_via ?_ (by with_reducible assumption) ?_) | omega | (simp; done) | (simp; omega))))).mono ?_); rintro e w2 ⟨s, hs, rfl, hown2, hb2⟩; have Hs := Lib.hid hs; have Hown2 := Lib.hid hown2; clear hs hown2; obtain ⟨fc2, fg2, hc2, hf2, hz2⟩ := bget hb2; (try simp at hz2)) | fail)
    refine bodyPost_ret (v := .tuple #[.agg #[.int .i64 l[k].id, .int .i64 l[k].mult, .int .i64 l[k].price, .int .i64 l[k].next, .slice s.A s.val.length s.c], .bool true]) (by simp [results, Try.results41, go_sem, hc2, hc1, ↓IntWalk.iteOmega]; try rfl) rfl ⟨{ l[k] with moves := s }, rfl, ?_, ?_, ?_⟩
    · simp only [lgI, Hs.out]
    · have h0 := Hown2.out.mono (b := w.heap.size + 1) (by omega)
      refine Own.good (base := w.heap.size + 1) (E := 2) (n := s.val.length) ?_
      (repeat' (first | (with_reducible assumption) | (with_reducible refine Own.farLow ?_ ?_ _) | (simp; done) | omega))
    · (repeat' (first | (with_reducible exact Below.refl _ _) | (with_reducible assumption) | (with_reducible refine Below.alloc ?_ ?_ _) | (with_reducible refine Below.setCell ?_ ?_ _) | (with_reducible refine Below.drew ?_) | (with_reducible refine below_drewN ?_ _) | (with_reducible refine below_via ?_ (by with_reducible assumption) ?_) | omega | (simp; done) | (simp; omega)))
  · rw [hf]
    rw [he] at c1
    have C1 := Lib.hid c1
    clear hr he hn c1 hf hg
    go_enter Try.func41, Try.ntmps41
    go_wp2_with (go_at_call 77; (with_reducible refine (C1.out _ (HR.out.keep (by (repeat' (first | (with_reducible exact Below.refl _ _) | (with_reducible assumption) | (with_reducible refine Below.alloc ?_ ?_ _) | (with_reducible refine Below.setCell ?_ ?_ _) | (with_reducible refine Below.drew ?_) | (with_reducible refine below_drewN ?_ _) | (with_reducible refine below_via ?_ (by with_reducible assumption) ?_) | omega | (simp; done) | (simp; omega)))))).mono ?_); rintro e w1 ⟨rfl, hb1⟩; obtain ⟨fc1, fg1, hc1, hf1, hz1⟩ := bget hb1; try simp at hz1)
    refine bodyPost_ret (v := .tuple #[.agg #[.int .i64 0, .int .i64 0, .int .i64 0, .int .i64 0, .slice none 0 0], .bool false]) (by simp [results, Try.results41, go_sem, hc1]; try rfl) rfl ⟨⟨0, 0, 0, 0, ⟨none, 0, []⟩⟩, rfl, rfl, Rs.empty _ _, ?_⟩
    (repeat' (first | (with_reducible exact Below.refl _ _) | (with_reducible assumption) | (with_reducible refine Below.alloc ?_ ?_ _) | (with_reducible refine Below.setCell ?_ ?_ _) | (with_reducible refine Below.drew ?_) | (with_reducible refine below_drewN ?_ _) | (with_reducible refine below_via ?_ (by with_reducible assumption) ?_) | omega | (simp; done) | (simp; omega)))
end Go.Proofs.Ytpjehhkmdndcmaa

/- Instruments in tables: contract of inst.Put. -/
namespace Go.Proofs.Ytpjehhkmdndcmaa
open Go.RowKit
theorem zone_InstV (z : Value) (h : (Try.prog.info? 24).bind (·.zero) = some z) : ∀ u ∈ z.cells, u.oneCell' = true := by
  have e : (Try.prog.info? 24).bind (·.zero) = some (.agg #[.int .i64 0, .int .i64 0, .int .i64 0, .int .i64 0, .slice none 0 0]) := by kernel_rfl
  rw [h] at e
  injection e with e
  subst e
  simp [Value.cells]
  decide
theorem own_put5 {w : World} {base E : Nat} {v : Value} {rows : List (List Value)} (h : Own w base E 5 v rows) {g n c : Nat} (hv : v = .slice (some ⟨g, 0, none⟩) n c) {i : Nat} (hi : i < rows.length) (v0 v1 v2 v3 v4 : Value) :
    Own (((((w.setCell ⟨g, i * 5, none⟩ v0).setCell ⟨g, i * 5 + 1, none⟩ v1).setCell ⟨g, i * 5 + 2, none⟩ v2).setCell ⟨g, i * 5 + 3, none⟩ v3).setCell ⟨g, i * 5 + 4, none⟩ v4) base E 5 v (rows.set i [v0, v1, v2, v3, v4]) := by
  have hr := h.1 _ (List.getElem_mem hi)
  obtain ⟨p0, p1, p2, p3, p4, he⟩ : ∃ p0 p1 p2 p3 p4, rows[i] = [p0, p1, p2, p3, p4] := by
    match h4 : rows[i], hr with
    | [p0, p1, p2, p3, p4], _ => exact ⟨p0, p1, p2, p3, p4, rfl⟩
  have h0 := h.put hv (List.getElem?_eq_getElem hi) (show 0 < 5 from by omega) v0
  have h1 := h0.put hv (List.getElem?_set_self (by simpa using hi)) (show 1 < 5 from by omega) v1
  have h2 := h1.put hv (List.getElem?_set_self (by simpa using hi)) (show 2 < 5 from by omega) v2
  have h3 := h2.put hv (List.getElem?_set_self (by simpa using hi)) (show 3 < 5 from by omega) v3
  have h4 := h3.put hv (List.getElem?_set_self (by simpa using hi)) (show 4 < 5 from by omega) v4
  simp only [List.set_set, he, List.set_cons_zero, List.set_cons_succ, Nat.add_zero] at h4
  exact h4
theorem insInstAt_over (w : World) (gv g o lb cb m vc : Nat) (x : InstV) (cur : Array Value) (hv : Blk w gv 24 #[.int .i64 x.id, .int .i64 x.mult, .int .i64 x.price, .int .i64 x.next, .slice x.moves.A x.moves.val.length x.moves.c]) (hg : Blk w g 24 cur) (hne : gv ≠ g) (hc : cur.size ≠ 0) :
    (callFunc 102 #[.slice (some ⟨gv, 0, none⟩) m vc, .slice (some ⟨g, o, none⟩) lb cb]).run Try.prog w = .ok (.value (.bool false)) w := by
  rw [run_callFunc_extern Try.func102 (by kernel_rfl) (by kernel_rfl) (by kernel_rfl) (e := Extern.SlicesOverlaps.overlaps #[57, 57] #[4]) (by kernel_rfl),
    Lib.run_overlaps_apart w 57 4 24 Try.underlying57 5 (fun _ => by kernel_rfl) ⟨gv, 0, none⟩ ⟨g, o, none⟩ m vc lb cb hne _ _ _ _ hv.shape hg.shape hc (hv.frozen 0) (hv.frozen _)]
  rfl
set_option maxRecDepth 100000 in
set_option maxHeartbeats 4000000 in
theorem insInstAt (l : List InstV) (x : InstV) (i : Nat) (v : Value) (base gv : Nat) (w : World) (hi : i ≤ l.length) (hl : l.length ≤ 1048576) (hbs : base ≤ w.heap.size) (hown : Own w base 24 5 v (l.map encInstV)) (hv : Blk w gv 24 #[.int .i64 x.id, .int .i64 x.mult, .int .i64 x.price, .int .i64 x.next, .slice x.moves.A x.moves.val.length x.moves.c]) (hne : v.ownBlock ≠ some gv) :
    Calls Try.prog 80 #[v, .int .i64 i, .slice (some ⟨gv, 0, none⟩) 1 1] w fun e w' => ∃ v', e = .returned v' ∧ Own w' base 24 5 v' ((l.take i ++ x :: l.drop i).map encInstV) ∧ Below base w w' ∧ w.grownBy w' v.ownBlock := by
  have HOWN := Lib.hid hown
  have HV := Lib.hid hv
  have hil : (i : Int) ≤ (l.length : Int) := by omega
  obtain ⟨A, c, hv0, hrs, hform⟩ := hown.rs
  have hcap := hrs.cap
  have hroom := hrs.room
  rw [List.length_map] at hv0 hcap
  unfold maxLen at hroom
  subst hv0
  have HRD := Lib.hid hrs.rd
  clear hown hrs hv
  cases he : ((i : Int) == (l.length : Int))
  rotate_left
  · have hie : i = l.length := by have := eq_of_beq he; omega
    have HE := Lib.hid (show (l.take i ++ x :: l.drop i).map encInstV = l.map encInstV ++ [encInstV x] from by rw [hie, List.take_length, List.drop_length]; simp)
    have hie1 : i ≤ l.length ∧ l.length ≤ i := by omega
    clear hie
    have tailc : (A = none ∧ l.length = 0 ∧ c = 0 ∧ i = 0) ∨ (∃ g, A = some ⟨g, 0, none⟩ ∧ c = i) ∨ (∃ g, A = some ⟨g, 0, none⟩ ∧ ¬ c = i) := by
      rcases hform with ⟨h1, h2, h3⟩ | ⟨g, h1, _⟩
      · left; exact ⟨h1, by simpa using congrArg List.length h2, h3, by have := congrArg List.length h2; simp at this; rw [this] at hie1; simpa using hie1.1⟩
      · right
        by_cases h : c = i
        · left; exact ⟨g, h1, h⟩
        · right; exact ⟨g, h1, h⟩
    rcases tailc with ⟨rfl, hl0, rfl, rfl⟩ | ⟨g, rfl, hc⟩ | ⟨g, rfl, hc⟩
    · have hl1 : l = [] := List.eq_nil_of_length_eq_zero hl0
      subst hl1
      simp only [List.length_nil]
      go_enter Try.func80, Try.ntmps80
      go_wp2_with (at_builtin; refine wpList_appG rfl _ _ _ rfl elInstV base (.slice none 0 0) [] rfl (Own.nil _ _ _ _) ⟨gv, 0, none⟩ 1 1 rfl [encInstV x] rfl HV.out.rd (rowsInstV [x]) (by unfold maxLen; first | (simp; done) | omega | (simp; omega)) (by first | (simp; done) | omega | (simp; omega)) hbs ?_; intro v' w3 hown3 hb3 hg3)
      go_ret
      exact ⟨v', rfl, by simpa using hown3, hb3, hg3⟩
    · have hc' : ¬ c < i := by omega
      have hc2 : c ≤ i ∧ i ≤ c := by omega
      subst hc
      go_enter Try.func80, Try.ntmps80
      go_wp2_with (at_builtin; refine wpList_appG rfl _ _ _ rfl elInstV base (.slice (some ⟨g, 0, none⟩) l.length c) (l.map encInstV) rfl HOWN.out ⟨gv, 0, none⟩ 1 1 rfl [encInstV x] rfl HV.out.rd (rowsInstV [x]) (by unfold maxLen; first | (simp; done) | omega | (simp; omega)) (by first | (simp; done) | omega | (simp; omega)) hbs ?_; intro v' w3 hown3 hb3 hg3)
      go_ret
      exact ⟨v', rfl, by rw [HE.out]; exact hown3, hb3, hg3⟩
    · have hc' : ¬ i = c := by omega
      go_enter Try.func80, Try.ntmps80
      go_wp2_with (at_builtin; refine wpList_appG rfl _ _ _ rfl elInstV base (.slice (some ⟨g, 0, none⟩) l.length c) (l.map encInstV) rfl HOWN.out ⟨gv, 0, none⟩ 1 1 rfl [encInstV x] rfl HV.out.rd (rowsInstV [x]) (by unfold maxLen; first | (simp; done) | omega | (simp; omega)) (by first | (simp; done) | omega | (simp; omega)) hbs ?_; intro v' w3 hown3 hb3 hg3)
      go_ret
      exact ⟨v', rfl, by rw [HE.out]; exact hown3, hb3, hg3⟩
  have hlt : i < l.length := by
    rcases Nat.lt_or_ge i l.length with h | h
    · exact h
    · exfalso
      have e : (i : Int) = (l.length : Int) := by omega
      rw [e] at he
      simp at he
  obtain ⟨g, rfl, hgb, hgl⟩ : ∃ g, A = some ⟨g, 0, none⟩ ∧ base ≤ g ∧ g < w.heap.size := by
    rcases hform with ⟨_, h2, _⟩ | h
    · exfalso; have := congrArg List.length h2; simp at this; rw [this] at hlt; simp at hlt
    · exact h
  have hgne : g ≠ gv := by simpa [Value.ownBlock] using hne
  have hci : ¬ c = i := by omega
  have hci' : ¬ i = c := by omega
  have HX : Hid ((l.take i ++ x :: l.drop i).map encInstV = (l.map encInstV).take i ++ encInstV x :: (l.map encInstV).drop i) := by unfold Hid; simp [List.map_take, List.map_drop]
  have hrl : i < (l.map encInstV).length := by rw [List.length_map]; exact hlt
  have il : (i : Int) < (l.length : Int) := by omega
  by_cases hgrow : c < l.length + 1
  · have hg1 : decide ((c : Int) < (l.length : Int) + 1) = true := by simp; omega
    have RT := Lib.hid (rd_take' HRD.out i)
    have rdr := rd_dropR HRD.out i
    rw [Nat.zero_add] at rdr
    have RDR := Lib.hid rdr
    clear rdr
    have lt1 : ((l.map encInstV).take i).length = i := by rw [List.length_take]; omega
    have LT1 := Lib.hid lt1
    have LD1 := Lib.hid (show ((l.map encInstV).drop i).length = l.length - i from by simp)
    have HRW := Lib.hid (rowsInstV l)
    clear hform lt1
    go_enter Try.func80, Try.ntmps80
    go_wp2_with (first | (at_builtin; refine wpList_appZ rfl _ _ _ _ (kn := .i64) (by kernel_rfl) rfl elInstV (sLen := i) (sCap := c) (m := l.length + 1 - i) (N := l.length + 1) rfl rfl (by omega) LT1.out RT.out (fun r hr => (HRW.out r (List.mem_of_mem_take hr)).1) (by omega) (by omega) (by omega) (by unfold maxLen; omega) (by omega) ?_; intro w3 c3 junk hj hown3 hb3; have HJ := Lib.hid hj; have hc3 := hown3.rd.2.2; have hjl : l.length + 1 ≤ c3 := (by have := hown3.rd.2.1; omega); have hm3 : c3 ≤ 9223372036854775807 := (by have := hc3.2; unfold maxLen at this; omega); have HO3 := Lib.hid hown3; have Hb3 := Lib.hid hb3; have hz3 := hb3.size; have hi3 : ¬ c3 = i := (by omega); have hi3' : ¬ i = c3 := (by omega); clear hj hown3 hc3 hb3) | (refine wpList_copyR rfl _ _ _ _ rfl elInstV (base := w.heap.size) (g := w.heap.size) (n := l.length + 1) (d := i) (sLen := 1) (src := [encInstV x]) rfl rfl HO3.out (by change 1 = min _ _; omega) (by change i + 1 ≤ _; omega) (HV.out.below Hb3.out HV.out.lt).rd (rowsInstV [x]) ?_; intro w4 hown4 ho4; have HO4 := Lib.hid hown4; have Ho4 := Lib.hid ho4; have hz4 := ho4.size; clear hown4 ho4))
    have S1 := Lib.hid (show ((l.map encInstV).drop i).length = Nat.min (l.length - i) (l.length - i) from by rw [LD1.out]; change _ = min _ _; omega)
    have S2 := Lib.hid (show i + 1 + ((l.map encInstV).drop i).length ≤ l.length + 1 from by rw [LD1.out]; omega)
    have S3 := Lib.hid (show g ≠ w.heap.size from by omega)
    have wk : IntKind.i64.wrap ((i : Int) + 1) = (i : Int) + 1 := IntWalk.i64_in _ (by omega)
    have tk : ((i : Int) + 1).toNat = i + 1 := by omega
    have nk : (0 : Int) ≤ (i : Int) + 1 := by omega
    have ck : ¬ c3 = i + 1 := by omega
    have il1 : (i : Int) ≤ (l.length : Int) + 1 := by omega
    go_region_law (refine step_copyR rfl (.tmp 50) (.tmp 53) 57 57 rfl elInstV (base := w.heap.size) (g := w.heap.size) (n := l.length + 1) (c := c3) (d := i + 1) (dLen := l.length - i) (dCap := c3 - (i + 1)) (sLen := l.length - i) (sCap := c - i) (ad := ⟨g, i * 5, none⟩) (rows := lay ((l.map encInstV).take i ++ junk) [encInstV x] i) (src := (l.map encInstV).drop i) ?_ ?_ HO4.out.drew S1.out S2.out ((RDR.out.keep Hb3.out).only rfl Ho4.out S3.out).drew (fun r hr => HRW.out r (List.mem_of_mem_drop hr)) ?_; go_simp; go_simp; intro w5 hown5 ho5; have HO5 := Lib.hid hown5; have Ho5 := Lib.hid ho5.undrew; clear hown5 ho5)
    clear wk tk nk
    go_wp2_with fail
    go_ret
    refine ⟨_, rfl, ?_, ?_, ?_⟩
    · rw [HX.out, ← ins_grow hrl (by rw [HJ.out, List.length_map])]
      exact HO5.out.mono hbs
    · exact below_only (below_only (Hb3.out.mono hbs) Ho4.out (by omega) hbs) Ho5.out (by omega) hbs
    · exact grown_of_below (below_only (below_only Hb3.out Ho4.out (by omega) (Nat.le_refl _)) Ho5.out (by omega) (Nat.le_refl _))
  · have hg1 : decide ((c : Int) < (l.length : Int) + 1) = false := by simp; omega
    obtain ⟨junk, hj, hfull⟩ := HOWN.out.full
    have hhead := hfull.head (m := l.length + 1) (by omega)
    obtain ⟨cur, hcur⟩ := HOWN.out.blk rfl
    have hcs : cur.size ≠ 0 := by
      obtain ⟨cur', h1, _, _, _, _, h2, _⟩ := HOWN.out.raw
      unfold Blk at hcur
      rw [hcur] at h1
      injection h1 with h1
      injection h1 with h1 _ _
      subst h1
      omega
    have HJ := Lib.hid (show 0 < junk.length from by omega)
    have HH := Lib.hid hhead
    have hov := fun lb cb => insInstAt_over w gv g ((i + 1) * 5) lb cb 1 1 x cur HV.out hcur (fun e => hgne e.symm) hcs
    have LD1 := Lib.hid (show ((l.map encInstV).drop i).length = l.length - i from by simp)
    have HRW := Lib.hid (rowsInstV l)
    have rdr := rd_dropR HRD.out i
    rw [Nat.zero_add] at rdr
    have RDR := Lib.hid rdr
    clear rdr
    clear hform hfull hhead hcur hcs hj
    go_enter Try.func80, Try.ntmps80
    go_wp2_with fail
    clear hov
    have S1 := Lib.hid (show ((l.map encInstV).drop i).length = Nat.min (l.length + 1 - i) (l.length - i) from by rw [LD1.out]; change _ = min _ _; omega)
    have S2 := Lib.hid (show i + 1 + ((l.map encInstV).drop i).length ≤ l.length + 1 from by rw [LD1.out]; omega)
    have wk : IntKind.i64.wrap ((i : Int) + 1) = (i : Int) + 1 := IntWalk.i64_in _ (by omega)
    have tk : ((i : Int) + 1).toNat = i + 1 := by omega
    have nk : (0 : Int) ≤ (i : Int) + 1 := by omega
    have ck : ¬ c = i + 1 := by omega
    have il1 : (i : Int) ≤ (l.length : Int) + 1 := by omega
    go_region_law (refine step_copyR rfl (.tmp 73) (.tmp 76) 57 57 rfl elInstV (base := base) (g := g) (n := l.length + 1) (c := c) (d := i + 1) (dLen := l.length - i) (dCap := c - (i + 1)) (sLen := l.length + 1 - i) (sCap := c - i) (ad := ⟨g, i * 5, none⟩) (rows := (l.map encInstV ++ junk).take (l.length + 1)) (src := (l.map encInstV).drop i) ?_ ?_ HH.out.drew S1.out S2.out RDR.out.drew (fun r hr => HRW.out r (List.mem_of_mem_drop hr)) ?_; go_simp; go_simp; intro w5 hown5 ho5; have HO5 := Lib.hid hown5; have Ho5 := Lib.hid ho5.undrew; clear hown5 ho5)
    clear wk tk nk
    go_wp2_with (refine wpList_copyR rfl _ _ _ _ rfl elInstV (base := base) (g := g) (n := l.length + 1) (c := c) (d := i) (sLen := 1) (src := [encInstV x]) rfl rfl HO5.out (by change 1 = min _ _; omega) (by change i + 1 ≤ _; omega) (HV.out.only Ho5.out (fun e => hgne e.symm)).rd (rowsInstV [x]) ?_; intro w6 hown6 ho6; have HO6 := Lib.hid hown6; have Ho6 := Lib.hid ho6; clear hown6 ho6)
    go_ret
    refine ⟨_, rfl, ?_, ?_, ?_⟩
    · rw [HX.out, ← ins_room hrl HJ.out, List.length_map]
      exact HO6.out
    · exact below_only (below_only (Below.refl _ _) Ho5.out hbs hgb) Ho6.out (by have := Ho5.out.size; omega) hgb
    · exact grown_of_only Ho5.out Ho6.out
theorem instCheckV (m : InstV) (w : World) (hl : m.moves.val.length ≤ 1099511627776) (hg : GoodI w m) :
    Calls Try.prog 36 #[.agg #[.int .i64 m.id, .int .i64 m.mult, .int .i64 m.price, .int .i64 m.next, .slice m.moves.A m.moves.val.length m.moves.c]] w fun e w' => e = .returned (.int .i64 (codeI (lgI m))) ∧ Below w.heap.size w w' :=
  instCheck (lgI m) m.moves.A m.moves.c w hl hg.rd
theorem ins_place {l : List InstV} {m : InstV} (hn : (findInstV l m.id).2 = false) : ∃ n, n ≤ l.length ∧ insInstV l m = l.take n ++ m :: l.drop n ∧ ((idxOf (fun x : InstV => decide (m.id < x.id)) l = n ∧ n < l.length) ∨ (idxOf (fun x : InstV => decide (m.id < x.id)) l = -1 ∧ n = l.length)) := by
  have hne : ∀ j (_ : j < l.length), l[j].id ≠ m.id := by
    rcases idx_findV l m.id with ⟨k, hk, hm, _, _, hf⟩ | ⟨h, _, _⟩
    · rw [hf] at hn; cases hn
    · intro j hj e
      have := h j hj
      rw [e] at this; simp at this
  rcases idxCases (fun x : InstV => decide (m.id < x.id)) l with ⟨k, hk, hm, hlo, he⟩ | ⟨hlo, he⟩
  · have hm' : m.id < l[k].id := by simpa using hm
    have hw := while_cut (p := fun x : InstV => decide (x.id < m.id)) (l := l) (k := k) (fun j hj hjk => by
      have h1 := hlo j hj hjk
      have h2 := hne j hj
      simp at h1 ⊢; omega) (by omega) (fun _ => by simp; omega)
    exact ⟨k, by omega, by unfold insInstV; rw [hw.1, hw.2], .inl ⟨he, hk⟩⟩
  · have hw := while_cut (p := fun x : InstV => decide (x.id < m.id)) (l := l) (k := l.length) (fun j hj _ => by
      have h1 := hlo j hj
      have h2 := hne j hj
      simp at h1 ⊢; omega) (Nat.le_refl _) (fun h => absurd h (by omega))
    exact ⟨l.length, Nat.le_refl _, by unfold insInstV; rw [hw.1, hw.2], .inr ⟨he, rfl⟩⟩
theorem map_ins {α β : Type} {f : α → β} {ys l : List α} (h : ys.map f = l.map f) (n : Nat) {a b : α} (hab : f a = f b) : (ys.take n ++ a :: ys.drop n).map f = (l.take n ++ b :: l.drop n).map f := by
  simp only [List.map_append, List.map_cons, List.map_take, List.map_drop, h, hab]
set_option maxRecDepth 100000 in
set_option maxHeartbeats 8000000 in
theorem instPut (l : List InstV) (m : InstV) (A : Option Addr) (c : Nat) (w : World) (hl : l.length ≤ 900000) (hr : Rs w 5 (l.map encInstV) A c) (hg : ∀ x ∈ l, x.moves.val.length ≤ 1048576 ∧ GoodI w x) (hml : m.moves.val.length ≤ 1048576) (hmg : GoodI w m) :
    Calls Try.prog 37 #[.slice A l.length c, .agg #[.int .i64 m.id, .int .i64 m.mult, .int .i64 m.price, .int .i64 m.next, .slice m.moves.A m.moves.val.length m.moves.c]] w (InstPost w ((putInstVL (okV m) l m).map lgI) (putInstVC (okV m) l m)) := by
  have HR := Lib.hid hr
  have c1 := fun W (h : Below w.heap.size w W) => instCheckV m W (by omega) (hmg.keep h)
  have c2 := fun W (h : Rd W A 5 (l.map encInstV)) => instAt l m.id A c W (by omega) h
  clear hr
  by_cases hok : okI (lgI m)
  rotate_left
  · rw [codeI_no hok] at c1
    rw [show okV m = false from decide_eq_false hok]
    have hp : putInstVL false l m = [] := by unfold putInstVL; rw [if_neg (fun h => by cases h.1)]
    have hq : putInstVC false l m = 2 := rfl
    have HP := Lib.hid hp
    have HQ := Lib.hid hq
    have C1 := Lib.hid c1
    clear c1 c2 hp hq hok hg hmg
    go_enter Try.func37, Try.ntmps37
    go_wp2_with (go_at_call 36; (with_reducible refine (C1.out _ (by (repeat' (first | (with_reducible exact Below.refl _ _) | (with_reducible assumption) | (with_reducible refine Below.alloc ?_ ?_ _) | (with_reducible refine Below.setCell ?_ ?_ _) | (with_reducible refine Below.drew ?_) | (with_reducible refine below_drewN ?_ _) | (with_reducible refine below_via ?_ (by with_reducible assumption) ?_) | omega | (simp; done) | (simp; omega))))).mono ?_); rintro e w1 ⟨rfl, hb1⟩; obtain ⟨fc1, fg1, hc1, hf1, hz1⟩ := bget hb1; try simp at hz1)
    go_ret2
    exact ⟨_, [], by rw [HQ.out]; rfl, by rw [HP.out], Own.nil _ _ _ _, fun y hy => absurd hy (by simp), by (repeat' (first | (with_reducible exact Below.refl _ _) | (with_reducible assumption) | (with_reducible refine Below.alloc ?_ ?_ _) | (with_reducible refine Below.setCell ?_ ?_ _) | (with_reducible refine Below.drew ?_) | (with_reducible refine below_drewN ?_ _) | (with_reducible refine below_via ?_ (by with_reducible assumption) ?_) | omega | (simp; done) | (simp; omega)))⟩
  rw [codeI_yes hok] at c1
  rw [show okV m = true from decide_eq_true hok]
  rcases idx_findV l m.id with ⟨k, hk, hm, hn, he, hf⟩ | ⟨hn, he, hf⟩
  · have hf2 : (findInstV l m.id).2 = true := by rw [hf]
    rw [he] at c2
    have kk : decide (0 ≤ (k : Int)) = true := by simp
    have hp : putInstVL true l m = [] := by unfold putInstVL; rw [hf2, if_neg (by simp)]
    have hq : putInstVC true l m = 12 := by unfold putInstVC; rw [hf2]; rfl
    have HP := Lib.hid hp
    have HQ := Lib.hid hq
    have C1 := Lib.hid c1
    have C2 := Lib.hid c2
    clear c1 c2 hp hq hok hf hf2 hg hmg hn hm he
    go_enter Try.func37, Try.ntmps37
    go_wp2_with (first | (go_at_call 36; (with_reducible refine (C1.out _ (by (repeat' (first | (with_reducible exact Below.refl _ _) | (with_reducible assumption) | (with_reducible refine Below.alloc ?_ ?_ _) | (with_reducible refine Below.setCell ?_ ?_ _) | (with_reducible refine Below.drew ?_) | (with_reducible refine below_drewN ?_ _) | (with_reducible refine below_via ?_ (by with_reducible assumption) ?_) | omega | (simp; done) | (simp; omega))))).mono ?_); rintro e w1 ⟨rfl, hb1⟩; obtain ⟨fc1, fg1, hc1, hf1, hz1⟩ := bget hb1; try simp at hz1) | (go_at_call 77; (with_reducible refine (C2.out _ (HR.out.rd.keep (by (repeat' (first | (with_reducible exact Below.refl _ _) | (with_reducible assumption) | (with_reducible refine Below.alloc ?_ ?_ _) | (with_reducible refine Below.setCell ?_ ?_ _) | (with_reducible refine Below.drew ?_) | (with_reducible refine below_drewN ?_ _) | (with_reducible refine below_via ?_ (by with_reducible assumption) ?_) | omega | (simp; done) | (simp; omega)))))).mono ?_); rintro e w2 ⟨rfl, hb2⟩; obtain ⟨fc2, fg2, hc2, hf2, hz2⟩ := bget hb2; try simp at hz2) | fail)
    go_ret2
    exact ⟨_, [], by rw [HQ.out]; rfl, by rw [HP.out], Own.nil _ _ _ _, fun y hy => absurd hy (by simp), by (repeat' (first | (with_reducible exact Below.refl _ _) | (with_reducible assumption) | (with_reducible refine Below.alloc ?_ ?_ _) | (with_reducible refine Below.setCell ?_ ?_ _) | (with_reducible refine Below.drew ?_) | (with_reducible refine below_drewN ?_ _) | (with_reducible refine below_via ?_ (by with_reducible assumption) ?_) | omega | (simp; done) | (simp; omega)))⟩
  have hf2 : (findInstV l m.id).2 = false := by rw [hf]
  rw [he] at c2
  obtain ⟨n, hnl, hins, hpl⟩ := ins_place hf2
  have hp : putInstVL true l m = l.take n ++ m :: l.drop n := by unfold putInstVL; rw [hf2, if_pos ⟨rfl, rfl⟩, hins]
  have hq : putInstVC true l m = 0 := by unfold putInstVC; rw [hf2]; rfl
  have c3 := fun g W (h : Rd W A 5 (l.map encInstV)) hc => instPutIdx l m A c g W (by omega) h hc
  have HP := Lib.hid hp
  have HQ := Lib.hid hq
  have C1 := Lib.hid c1
  have C2 := Lib.hid c2
  have HG := Lib.hid (fun W (h : Below w.heap.size w W) => instCopied l A c W (by omega) (HR.out.rd.keep h) (fun x hx => ⟨(hg x hx).1, (hg x hx).2.keep h⟩))
  have HM := Lib.hid (fun W (h : Below w.heap.size w W) => instOwn m W hml (hmg.keep h))
  rcases hpl with ⟨hi, hlt⟩ | ⟨hi, rfl⟩
  · rw [hi] at c3
    have nn : decide ((n : Int) < 0) = false := by simp
    have C3 := Lib.hid c3
    clear c1 c2 c3 hp hq hok hf hf2 hg hmg hn he hins hi
    go_enter Try.func37, Try.ntmps37
    go_wp2_with (first | (go_at_call 36; (with_reducible refine (C1.out _ (by (repeat' (first | (with_reducible exact Below.refl _ _) | (with_reducible assumption) | (with_reducible refine Below.alloc ?_ ?_ _) | (with_reducible refine Below.setCell ?_ ?_ _) | (with_reducible refine Below.drew ?_) | (with_reducible refine below_drewN ?_ _) | (with_reducible refine below_via ?_ (by with_reducible assumption) ?_) | omega | (simp; done) | (simp; omega))))).mono ?_); rintro e w1 ⟨rfl, hb1⟩; obtain ⟨fc1, fg1, hc1, hf1, hz1⟩ := bget hb1; try simp at hz1) | (go_at_call 77; (with_reducible refine (C2.out _ (HR.out.rd.keep (by (repeat' (first | (with_reducible exact Below.refl _ _) | (with_reducible assumption) | (with_reducible refine Below.alloc ?_ ?_ _) | (with_reducible refine Below.setCell ?_ ?_ _) | (with_reducible refine Below.drew ?_) | (with_reducible refine below_drewN ?_ _) | (with_reducible refine below_via ?_ (by with_reducible assumption) ?_) | omega | (simp; done) | (simp; omega)))))).mono ?_); rintro e w2 ⟨rfl, hb2⟩; obtain ⟨fc2, fg2, hc2, hf2, hz2⟩ := bget hb2; try simp at hz2) | (go_at_call 78; (with_reducible refine (C3.out _ _ (HR.out.rd.keep (by (repeat' (first | (with_reducible exact Below.refl _ _) | (with_reducible assumption) | (with_reducible refine Below.alloc ?_ ?_ _) | (with_reducible refine Below.setCell ?_ ?_ _) | (with_reducible refine Below.drew ?_) | (with_reducible refine below_drewN ?_ _) | (with_reducible refine below_via ?_ (by with_reducible assumption) ?_) | omega | (simp; done) | (simp; omega))))) (cap5 ?_ ?_ ?_ ?_ ?_ ?_)).mono ?_); (focus (first | omega | (simp; done) | (simp; omega))); (focus (simp [go_sem, hc2, hc1, ↓IntWalk.iteOmega]; done)); (focus (simp [go_sem, hc2, hc1, ↓IntWalk.iteOmega]; done)); (focus (simp [go_sem, hc2, hc1, ↓IntWalk.iteOmega]; done)); (focus (simp [go_sem, hc2, hc1, ↓IntWalk.iteOmega]; done)); (focus (simp [go_sem, hc2, hc1, ↓IntWalk.iteOmega]; done)); rintro e w3 ⟨rfl, hb3⟩; obtain ⟨fc3, fg3, hc3, hf3, hz3⟩ := bget hb3; (try simp at hz3)) | fail)
    have m0 : w3.cell? ⟨w.heap.size, 0, none⟩ = some (.int .i64 m.id) := (by simp [hc3, hc2, hc1, go_sem, ↓IntWalk.iteOmega])
    have m1 : w3.cell? ⟨w.heap.size, 1, none⟩ = some (.int .i64 m.mult) := (by simp [hc3, hc2, hc1, go_sem, ↓IntWalk.iteOmega])
    have m2 : w3.cell? ⟨w.heap.size, 2, none⟩ = some (.int .i64 m.price) := (by simp [hc3, hc2, hc1, go_sem, ↓IntWalk.iteOmega])
    have m3 : w3.cell? ⟨w.heap.size, 3, none⟩ = some (.int .i64 m.next) := (by simp [hc3, hc2, hc1, go_sem, ↓IntWalk.iteOmega])
    have m4 : w3.cell? ⟨w.heap.size, 4, none⟩ = some (.slice m.moves.A m.moves.val.length m.moves.c) := (by simp [hc3, hc2, hc1, go_sem, ↓IntWalk.iteOmega])
    go_region_held3 (fun w' => w'.cell? ⟨w.heap.size, 0, none⟩ = some (.int .i64 m.id) ∧ w'.cell? ⟨w.heap.size, 1, none⟩ = some (.int .i64 m.mult) ∧ w'.cell? ⟨w.heap.size, 2, none⟩ = some (.int .i64 m.price) ∧ w'.cell? ⟨w.heap.size, 3, none⟩ = some (.int .i64 m.next) ∧ w'.cell? ⟨w.heap.size, 4, none⟩ = some (.slice m.moves.A m.moves.val.length m.moves.c)) (first | (simp [go_sem]; done) | (repeat' (first | (with_reducible assumption) | (with_reducible refine And.intro ?_ ?_) | (with_reducible refine cell_drew ?_) | (with_reducible refine cell_via (by with_reducible assumption) ?_ ?_) | (simp [*]; done) | (simp [go_sem]; done) | (with_reducible refine cell_alloc ?_ ?_) | (with_reducible refine cell_set_far ?_ ?_) | omega | (simp; omega)))) (first | (go_at_call 81; (with_reducible refine (HG.out _ (by (repeat' (first | (with_reducible exact Below.refl _ _) | (with_reducible assumption) | (with_reducible refine Below.alloc ?_ ?_ _) | (with_reducible refine Below.setCell ?_ ?_ _) | (with_reducible refine Below.drew ?_) | (with_reducible refine below_drewN ?_ _) | (with_reducible refine below_via ?_ (by with_reducible assumption) ?_) | omega | (simp; done) | (simp; omega))))).mono ?_); rintro e w4 ⟨v4, ys, rfl, hlg4, hown4, hys4, hb4⟩; have HL4 := Lib.hid hlg4; have HO4 := Lib.hid hown4; have HY4 := Lib.hid hys4; have HW4 := Lib.hid hown4.block; clear hlg4 hown4 hys4; obtain ⟨fc4, fg4, hc4, hf4, hz4⟩ := bget hb4; (try simp at hz4)) | (go_at_call 82; (with_reducible refine (HM.out _ (by (repeat' (first | (with_reducible exact Below.refl _ _) | (with_reducible assumption) | (with_reducible refine Below.alloc ?_ ?_ _) | (with_reducible refine Below.setCell ?_ ?_ _) | (with_reducible refine Below.drew ?_) | (with_reducible refine below_drewN ?_ _) | (with_reducible refine below_via ?_ (by with_reducible assumption) ?_) | omega | (simp; done) | (simp; omega))))).mono ?_); rintro e w5 ⟨s, hs, rfl, hown5, hb5⟩; have HS := Lib.hid hs; have HO5 := Lib.hid hown5; clear hs hown5; obtain ⟨fc5, fg5, hc5, hf5, hz5⟩ := bget hb5; (try simp at hz5)) | (go_at_call 80; (with_reducible refine (insInstAt ys { m with moves := s } n v4 w3.heap.size _ _ ?_ ?_ ?_ ?_ ?_ ?_).mono ?_); (focus (have := congrArg List.length HL4.out; simp only [List.length_map] at this; omega)); (focus (have := congrArg List.length HL4.out; simp only [List.length_map] at this; omega)); (focus (first | omega | (simp; done) | (simp; omega))); (focus (exact ((HO4.out.keep hb5).alloc _))); (focus (exact Blk.new _ _ _)); (focus (intro h; have h2 := HW4.out _ h; (first | omega | (simp at h2; done) | (simp at h2; omega)))); rintro e w6 ⟨v6, rfl, hown6, hb6, hg6⟩; have HO6 := Lib.hid hown6; have HG6 := Lib.hid hg6; clear hown6 hg6; obtain ⟨fc6, fg6, hc6, hf6, hz6⟩ := bget hb6; (try simp at hz6)) | fail)
    all_goals
      go_wp2_with fail
      go_ret2
      have haw : Away 24 w5 w6 := (Away.below ((Below.refl _ _).alloc (Nat.le_refl _) _)).trans (Away.grown HG6.out (Own.typed ((HO4.out.keep hb5).alloc _)))
      refine ⟨_, ys.take n ++ { m with moves := s } :: ys.drop n, by rw [HQ.out]; rfl, ?_, ?_, ?_, by (repeat' (first | (with_reducible exact Below.refl _ _) | (with_reducible assumption) | (with_reducible refine Below.alloc ?_ ?_ _) | (with_reducible refine Below.setCell ?_ ?_ _) | (with_reducible refine Below.drew ?_) | (with_reducible refine below_drewN ?_ _) | (with_reducible refine below_via ?_ (by with_reducible assumption) ?_) | omega | (simp; done) | (simp; omega)))⟩
      · rw [HP.out]
        exact map_ins HL4.out n (by simp only [lgI, HS.out])
      · exact HO6.out.mono (by omega)
      · intro y hy
        rcases List.mem_append.1 hy with h | h
        · exact Own.good (((HY4.out y (List.mem_of_mem_take h)).keep hb5).away haw (by decide))
        · rcases List.mem_cons.1 h with rfl | h
          · exact Own.good (HO5.out.away haw (by decide))
          · exact Own.good (((HY4.out y (List.mem_of_mem_drop h)).keep hb5).away haw (by decide))
  · rw [hi] at c3
    have C3 := Lib.hid c3
    have hnl2 : l.length ≤ l.length := Nat.le_refl _
    clear c1 c2 c3 hp hq hok hf hf2 hg hmg hn he hins hi
    generalize hlen : l.length = n at *
    go_enter Try.func37, Try.ntmps37
    go_wp2_with (first | (go_at_call 36; (with_reducible refine (C1.out _ (by (repeat' (first | (with_reducible exact Below.refl _ _) | (with_reducible assumption) | (with_reducible refine Below.alloc ?_ ?_ _) | (with_reducible refine Below.setCell ?_ ?_ _) | (with_reducible refine Below.drew ?_) | (with_reducible refine below_drewN ?_ _) | (with_reducible refine below_via ?_ (by with_reducible assumption) ?_) | omega | (simp; done) | (simp; omega))))).mono ?_); rintro e w1 ⟨rfl, hb1⟩; obtain ⟨fc1, fg1, hc1, hf1, hz1⟩ := bget hb1; try simp at hz1) | (go_at_call 77; (with_reducible refine (C2.out _ (HR.out.rd.keep (by (repeat' (first | (with_reducible exact Below.refl _ _) | (with_reducible assumption) | (with_reducible refine Below.alloc ?_ ?_ _) | (with_reducible refine Below.setCell ?_ ?_ _) | (with_reducible refine Below.drew ?_) | (with_reducible refine below_drewN ?_ _) | (with_reducible refine below_via ?_ (by with_reducible assumption) ?_) | omega | (simp; done) | (simp; omega)))))).mono ?_); rintro e w2 ⟨rfl, hb2⟩; obtain ⟨fc2, fg2, hc2, hf2, hz2⟩ := bget hb2; try simp at hz2) | (go_at_call 78; (with_reducible refine (C3.out _ _ (HR.out.rd.keep (by (repeat' (first | (with_reducible exact Below.refl _ _) | (with_reducible assumption) | (with_reducible refine Below.alloc ?_ ?_ _) | (with_reducible refine Below.setCell ?_ ?_ _) | (with_reducible refine Below.drew ?_) | (with_reducible refine below_drewN ?_ _) | (with_reducible refine below_via ?_ (by with_reducible assumption) ?_) | omega | (simp; done) | (simp; omega))))) (cap5 ?_ ?_ ?_ ?_ ?_ ?_)).mono ?_); (focus (first | omega | (simp; done) | (simp; omega))); (focus (simp [go_sem, hc2, hc1, ↓IntWalk.iteOmega]; done)); (focus (simp [go_sem, hc2, hc1, ↓IntWalk.iteOmega]; done)); (focus (simp [go_sem, hc2, hc1, ↓IntWalk.iteOmega]; done)); (focus (simp [go_sem, hc2, hc1, ↓IntWalk.iteOmega]; done)); (focus (simp [go_sem, hc2, hc1, ↓IntWalk.iteOmega]; done)); rintro e w3 ⟨rfl, hb3⟩; obtain ⟨fc3, fg3, hc3, hf3, hz3⟩ := bget hb3; (try simp at hz3)) | fail)
    have m0 : w3.cell? ⟨w.heap.size, 0, none⟩ = some (.int .i64 m.id) := (by simp [hc3, hc2, hc1, go_sem, ↓IntWalk.iteOmega])
    have m1 : w3.cell? ⟨w.heap.size, 1, none⟩ = some (.int .i64 m.mult) := (by simp [hc3, hc2, hc1, go_sem, ↓IntWalk.iteOmega])
    have m2 : w3.cell? ⟨w.heap.size, 2, none⟩ = some (.int .i64 m.price) := (by simp [hc3, hc2, hc1, go_sem, ↓IntWalk.iteOmega])
    have m3 : w3.cell? ⟨w.heap.size, 3, none⟩ = some (.int .i64 m.next) := (by simp [hc3, hc2, hc1, go_sem, ↓IntWalk.iteOmega])
    have m4 : w3.cell? ⟨w.heap.size, 4, none⟩ = some (.slice m.moves.A m.moves.val.length m.moves.c) := (by simp [hc3, hc2, hc1, go_sem, ↓IntWalk.iteOmega])
    go_region_held3 (fun w' => w'.cell? ⟨w.heap.size, 0, none⟩ = some (.int .i64 m.id) ∧ w'.cell? ⟨w.heap.size, 1, none⟩ = some (.int .i64 m.mult) ∧ w'.cell? ⟨w.heap.size, 2, none⟩ = some (.int .i64 m.price) ∧ w'.cell? ⟨w.heap.size, 3, none⟩ = some (.int .i64 m.next) ∧ w'.cell? ⟨w.heap.size, 4, none⟩ = some (.slice m.moves.A m.moves.val.length m.moves.c)) (first | (simp [go_sem]; done) | (repeat' (first | (with_reducible assumption) | (with_reducible refine And.intro ?_ ?_) | (with_reducible refine cell_drew ?_) | (with_reducible refine cell_via (by with_reducible assumption) ?_ ?_) | (simp [*]; done) | (simp [go_sem]; done) | (with_reducible refine cell_alloc ?_ ?_) | (with_reducible refine cell_set_far ?_ ?_) | omega | (simp; omega)))) (first | (go_at_call 81; (with_reducible refine (HG.out _ (by (repeat' (first | (with_reducible exact Below.refl _ _) | (with_reducible assumption) | (with_reducible refine Below.alloc ?_ ?_ _) | (with_reducible refine Below.setCell ?_ ?_ _) | (with_reducible refine Below.drew ?_) | (with_reducible refine below_drewN ?_ _) | (with_reducible refine below_via ?_ (by with_reducible assumption) ?_) | omega | (simp; done) | (simp; omega))))).mono ?_); rintro e w4 ⟨v4, ys, rfl, hlg4, hown4, hys4, hb4⟩; have HL4 := Lib.hid hlg4; have HO4 := Lib.hid hown4; have HY4 := Lib.hid hys4; have HW4 := Lib.hid hown4.block; clear hlg4 hown4 hys4; obtain ⟨fc4, fg4, hc4, hf4, hz4⟩ := bget hb4; (try simp at hz4)) | (go_at_call 82; (with_reducible refine (HM.out _ (by (repeat' (first | (with_reducible exact Below.refl _ _) | (with_reducible assumption) | (with_reducible refine Below.alloc ?_ ?_ _) | (with_reducible refine Below.setCell ?_ ?_ _) | (with_reducible refine Below.drew ?_) | (with_reducible refine below_drewN ?_ _) | (with_reducible refine below_via ?_ (by with_reducible assumption) ?_) | omega | (simp; done) | (simp; omega))))).mono ?_); rintro e w5 ⟨s, hs, rfl, hown5, hb5⟩; have HS := Lib.hid hs; have HO5 := Lib.hid hown5; clear hs hown5; obtain ⟨fc5, fg5, hc5, hf5, hz5⟩ := bget hb5; (try simp at hz5)) | (go_at_call 80; (with_reducible refine (insInstAt ys { m with moves := s } n v4 w3.heap.size _ _ ?_ ?_ ?_ ?_ ?_ ?_).mono ?_); (focus (have := congrArg List.length HL4.out; simp only [List.length_map] at this; omega)); (focus (have := congrArg List.length HL4.out; simp only [List.length_map] at this; omega)); (focus (first | omega | (simp; done) | (simp; omega))); (focus (exact ((HO4.out.keep hb5).alloc _))); (focus (exact Blk.new _ _ _)); (focus (intro h; have h2 := HW4.out _ h; (first | omega | (simp at h2; done) | (simp at h2; omega)))); rintro e w6 ⟨v6, rfl, hown6, hb6, hg6⟩; have HO6 := Lib.hid hown6; have HG6 := Lib.hid hg6; clear hown6 hg6; obtain ⟨fc6, fg6, hc6, hf6, hz6⟩ := bget hb6; (try simp at hz6)) | fail)
    all_goals
      go_wp2_with fail
      go_ret2
      have haw : Away 24 w5 w6 := (Away.below ((Below.refl _ _).alloc (Nat.le_refl _) _)).trans (Away.grown HG6.out (Own.typed ((HO4.out.keep hb5).alloc _)))
      refine ⟨_, ys.take n ++ { m with moves := s } :: ys.drop n, by rw [HQ.out]; rfl, ?_, ?_, ?_, by (repeat' (first | (with_reducible exact Below.refl _ _) | (with_reducible assumption) | (with_reducible refine Below.alloc ?_ ?_ _) | (with_reducible refine Below.setCell ?_ ?_ _) | (with_reducible refine Below.drew ?_) | (with_reducible refine below_drewN ?_ _) | (with_reducible refine below_via ?_ (by with_reducible assumption) ?_) | omega | (simp; done) | (simp; omega)))⟩
      · rw [HP.out]
        exact map_ins HL4.out n (by simp only [lgI, HS.out])
      · exact HO6.out.mono (by omega)
      · intro y hy
        rcases List.mem_append.1 hy with h | h
        · exact Own.good (((HY4.out y (List.mem_of_mem_take h)).keep hb5).away haw (by decide))
        · rcases List.mem_cons.1 h with rfl | h
          · exact Own.good (HO5.out.away haw (by decide))
          · exact Own.good (((HY4.out y (List.mem_of_mem_drop h)).keep hb5).away haw (by decide))
end Go.Proofs.Ytpjehhkmdndcmaa
