/- Groups: contracts of block.at, Find, left, Alloc, Back. -/
import Derived.Test.YtenehpcliajdnaaBlkG
import Derived.Test.YtenehpcliajdnaaBlk1
import Derived.Test.YtenehpcliajdnaaCap
import Derived.Test.YtenehpcliajdnaaStore
import Derived.Test.YtenehpcliajdnaaAway
import Derived.Deep.CutRange
import Derived.Deep.DeepCutAuto
namespace Go.Proofs.Ytenehpcliajdnaa
open Go.RowKit
theorem elGroup : Elem Try.prog 45 51 6 48 := elem_of Try.underlying45 (z := .agg #[.int .i64 0, .int .i64 0, .int .i64 0, .int .i64 0, .int .i64 0, .int .i64 0]) (by kernel_rfl) rfl (by omega)
set_option maxRecDepth 100000 in
set_option maxHeartbeats 1000000 in
theorem grpClone (l : List Group) (A : Option Addr) (c : Nat) (w : World) (hl : l.length ≤ 1099511627776) (hr : Rs w 6 (l.map encGroup) A c) :
    Calls Try.prog 59 #[.slice A l.length c] w fun e w' => ∃ v, e = .returned v ∧ Own w' w.heap.size 51 6 v (l.map encGroup) ∧ Below w.heap.size w w' := by
  have Hr := Lib.hid hr
  have hnil := fun W : World => Lib.run_eql_slice_nil (P := Try.prog) W 45 51 A l.length c 0 0 Try.underlying45
  rcases A with _ | ad
  · have hl0 : l = [] := List.map_eq_nil_iff.1 hr.nilrows
    have hc0 : c = 0 := hr.nil rfl
    subst hl0 hc0
    simp only [List.length_nil] at hnil ⊢
    clear hr
    go_enter Try.func59, Try.ntmps59
    go_wp2_with fail
    go_ret
    exact ⟨_, rfl, Own.nil _ _ _ _, by (repeat' (first | (with_reducible exact Below.refl _ _) | (with_reducible assumption) | (with_reducible refine Below.alloc ?_ ?_ _) | (with_reducible refine Below.setCell ?_ ?_ _) | (with_reducible refine Below.drew ?_) | (with_reducible refine below_drewN ?_ _) | (with_reducible refine below_via ?_ (by with_reducible assumption) ?_) | omega | (simp; done) | (simp; omega)))⟩
  · clear hr
    go_enter Try.func59, Try.ntmps59
    go_wp2_with (at_builtin; refine wpList_app rfl _ _ _ rfl elGroup w.heap.size _ [] rfl (Own.made w (Nat.le_refl _)) (some ad) l.length c rfl (l.map encGroup) (by simp) (fun h => by cases h) (Hr.out.keep ((Below.refl _ _).alloc (Nat.le_refl _) _)).rd (rowsGroup l) (by unfold maxLen; simp; omega) (by simp; omega) (by simp) ?_; intro v' w3 hown3 hb3)
    go_ret
    exact ⟨v', rfl, by simpa using hown3, ((Below.refl _ _).alloc (Nat.le_refl _) _).trans hb3⟩
set_option maxRecDepth 100000 in
set_option maxHeartbeats 1000000 in
theorem grpAtFn (x : Group) (id : Int) (g : Nat) (w : World) (hcap : CapC w g [.int .i64 id]) :
    Calls Try.prog 79 #[.agg #[.int .i64 x.id, .int .i64 x.unit.acc, .int .i64 x.unit.cli, .int .i64 x.inst, .int .i64 x.price, .int .i64 x.left], .pointer (some ⟨g, 0, none⟩)] w fun e w' => e = .returned (.bool (x.id == id)) ∧ Below w.heap.size w w' := by
  have h0 := hcap.2 0 _ rfl
  have hg := hcap.1
  clear hcap
  go_enter Try.func79, Try.ntmps79
  go_wp2_with fail
  go_ret
  exact ⟨rfl, by (repeat' (first | (with_reducible exact Below.refl _ _) | (with_reducible assumption) | (with_reducible refine Below.alloc ?_ ?_ _) | (with_reducible refine Below.setCell ?_ ?_ _) | (with_reducible refine Below.drew ?_) | (with_reducible refine below_drewN ?_ _) | (with_reducible refine below_via ?_ (by with_reducible assumption) ?_) | omega | (simp; done) | (simp; omega)))⟩
set_option maxRecDepth 100000 in
set_option maxHeartbeats 1000000 in
theorem grpAtIdx (l : List Group) (id : Int) (A : Option Addr) (c g : Nat) (w : World) (hl : l.length ≤ 1099511627776) (hr : Rd w A 6 (l.map encGroup)) (hcap : CapC w g [.int .i64 id]) :
    Calls Try.prog 78 #[.slice A l.length c, .func (Fn.func 79) #[] #[.pointer (some ⟨g, 0, none⟩)]] w fun e w' => e = .returned (.int .i64 (idxOf (fun x : Group => x.id == id) l)) ∧ Below w.heap.size w w' := by
  have Hr := Lib.hid hr
  have H0 := Lib.hid hcap
  clear hr hcap
  go_enter Try.func78, Try.ntmps78
  go_wp2_with fail
  go_loopw [8] (fun i wr => ∃ k : Nat, k ≤ l.length ∧ i = .int .i64 k ∧ Below w.heap.size w wr ∧ ∀ j (_ : j < l.length), j < k → (fun x : Group => x.id == id) l[j] = false) (fun i _ => l.length - (intOf i).toNat)
  case atStart => exact ⟨0, Nat.zero_le _, rfl, Below.refl _ _, fun j _ h => absurd h (by omega)⟩
  case round =>
    obtain ⟨k, hk, rfl, hbl, hno⟩ := hrel
    have Hbl := Lib.hid hbl
    have Hno := Lib.hid hno
    have hz := hbl.size
    clear hbl hno
    by_cases hlt : k < l.length
    · obtain ⟨b, o, rfl, hb, hc⟩ := Hr.out k (encGroup l[k]) (by simp [hlt])
      have c0 := (Hbl.out.cell (p := ⟨b, o + k * 6 + 0, none⟩) hb).trans (hc 0 _ rfl)
      have c1 := (Hbl.out.cell (p := ⟨b, o + k * 6 + 1, none⟩) hb).trans (hc 1 _ rfl)
      have c2 := (Hbl.out.cell (p := ⟨b, o + k * 6 + 2, none⟩) hb).trans (hc 2 _ rfl)
      have c3 := (Hbl.out.cell (p := ⟨b, o + k * 6 + 3, none⟩) hb).trans (hc 3 _ rfl)
      have c4 := (Hbl.out.cell (p := ⟨b, o + k * 6 + 4, none⟩) hb).trans (hc 4 _ rfl)
      have c5 := (Hbl.out.cell (p := ⟨b, o + k * 6 + 5, none⟩) hb).trans (hc 5 _ rfl)
      have H0' := Lib.hid (H0.out.keep Hbl.out)
      simp only [Nat.add_zero] at c0
      clear hc
      cases hm : (fun x : Group => x.id == id) l[k]
      · have Hm := Lib.hid hm
        clear hm
        go_wp2_with (go_at_call 79; (with_reducible refine (grpAtFn l[k] id g _ (H0'.out.keep (by (repeat' (first | (with_reducible exact Below.refl _ _) | (with_reducible assumption) | (with_reducible refine Below.alloc ?_ ?_ _) | (with_reducible refine Below.setCell ?_ ?_ _) | (with_reducible refine Below.drew ?_) | (with_reducible refine below_drewN ?_ _) | (with_reducible refine below_via ?_ (by with_reducible assumption) ?_) | omega | (simp; done) | (simp; omega)))))).mono ?_); rw [Hm.out]; rintro e w1 ⟨rfl, hb1⟩; have hz1 := hb1.size; have Hb1 := Lib.hid hb1; clear hb1)
        go_roundw
        case rel => exact ⟨k + 1, by omega, by go_num, Hbl.out.trans (Hb1.out.mono (by first | omega | (simp; done) | (simp; omega))), fun j hj h => by
          rcases Nat.lt_or_ge j k with h1 | h1
          · exact Hno.out j hj h1
          · obtain rfl : j = k := by omega
            exact Hm.out⟩
        case measure => simp [intOf]; omega
      · have hi := idx_hit (p := fun x : Group => x.id == id) hlt hm Hno.out
        have Hi := Lib.hid hi
        have Hm := Lib.hid hm
        clear hm hi
        go_wp2_with (go_at_call 79; (with_reducible refine (grpAtFn l[k] id g _ (H0'.out.keep (by (repeat' (first | (with_reducible exact Below.refl _ _) | (with_reducible assumption) | (with_reducible refine Below.alloc ?_ ?_ _) | (with_reducible refine Below.setCell ?_ ?_ _) | (with_reducible refine Below.drew ?_) | (with_reducible refine below_drewN ?_ _) | (with_reducible refine below_via ?_ (by with_reducible assumption) ?_) | omega | (simp; done) | (simp; omega)))))).mono ?_); rw [Hm.out]; rintro e w1 ⟨rfl, hb1⟩; have hz1 := hb1.size; have Hb1 := Lib.hid hb1; clear hb1)
        go_ret
        exact ⟨by rw [Hi.out]; rfl, Hbl.out.trans (Hb1.out.mono (by first | omega | (simp; done) | (simp; omega)))⟩
    · have hi := idx_miss (p := fun x : Group => x.id == id) (l := l) (fun j hj => Hno.out j hj (by omega))
      have Hi := Lib.hid hi
      clear hi
      go_wp2_with fail
      go_ret
      exact ⟨by rw [Hi.out]; rfl, Hbl.out⟩
theorem cap1g {w : World} {g : Nat} {u : Value} (hg : g < w.heap.size) (h0 : w.cell? ⟨g, 0, none⟩ = some u) : CapC w g [u] := by
  refine ⟨hg, fun j v hv => ?_⟩
  match j with
  | 0 => simp at hv; subst hv; exact h0
  | j + 1 => simp at hv
set_option maxRecDepth 100000 in
set_option maxHeartbeats 1000000 in
theorem grpAt (l : List Group) (id : Int) (A : Option Addr) (c : Nat) (w : World) (hl : l.length ≤ 1099511627776) (hr : Rd w A 6 (l.map encGroup)) :
    Calls Try.prog 55 #[.slice A l.length c, .int .i64 id] w fun e w' => e = .returned (.int .i64 (idxOf (fun x : Group => x.id == id) l)) ∧ Below w.heap.size w w' := by
  have Hr := Lib.hid hr
  clear hr
  go_enter Try.func55, Try.ntmps55
  go_wp2_with (first | (go_at_call 78; (with_reducible refine (grpAtIdx l id A c _ _ hl (Hr.out.keep (by (repeat' (first | (with_reducible exact Below.refl _ _) | (with_reducible assumption) | (with_reducible refine Below.alloc ?_ ?_ _) | (with_reducible refine Below.setCell ?_ ?_ _) | (with_reducible refine Below.drew ?_) | (with_reducible refine below_drewN ?_ _) | (with_reducible refine below_via ?_ (by with_reducible assumption) ?_) | omega | (simp; done) | (simp; omega))))) (cap1g ?_ ?_)).mono ?_); (focus (simp; done)); (focus (first | (simp [go_sem]; done) | (simp [go_sem, ↓IntWalk.iteOmega]; done))); rintro e w1 ⟨rfl, hb1⟩) | fail)
  go_ret
  exact ⟨rfl, by (repeat' (first | (with_reducible exact Below.refl _ _) | (with_reducible assumption) | (with_reducible refine Below.alloc ?_ ?_ _) | (with_reducible refine Below.setCell ?_ ?_ _) | (with_reducible refine Below.drew ?_) | (with_reducible refine below_drewN ?_ _) | (with_reducible refine below_via ?_ (by with_reducible assumption) ?_) | omega | (simp; done) | (simp; omega)))⟩
set_option maxRecDepth 100000 in
set_option maxHeartbeats 4000000 in
theorem grpFind (l : List Group) (id : Int) (A : Option Addr) (c : Nat) (w : World) (hl : l.length ≤ 1000000) (hr : Rd w A 6 (l.map encGroup)) :
    Calls Try.prog 25 #[.slice A l.length c, .int .i64 id] w fun e w' => e = .returned (.tuple #[.agg #[.int .i64 (findGroup l id).1.id, .int .i64 (findGroup l id).1.unit.acc, .int .i64 (findGroup l id).1.unit.cli, .int .i64 (findGroup l id).1.inst, .int .i64 (findGroup l id).1.price, .int .i64 (findGroup l id).1.left], .bool (findGroup l id).2]) ∧ Below w.heap.size w w' := by
  have c1 := fun W (h : Rd W A 6 (l.map encGroup)) => grpAt l id A c W (by omega) h
  have HR := Lib.hid hr
  rcases idx_group l id with ⟨k, hk, hm, hn, he, hf⟩ | ⟨hn, he, hf⟩
  · rw [hf]
    rw [he] at c1
    have C1 := Lib.hid c1
    have kl : (k : Int) < (l.length : Int) := by omega
    have kk : decide ((k : Int) < 0) = false := by simp
    obtain ⟨b, o, rfl, hb, hc⟩ := hr k (encGroup l[k]) (by simp [hk])
    have e0 := hc 0 _ rfl
    have e1 := hc 1 _ rfl
    have e2 := hc 2 _ rfl
    have e3 := hc 3 _ rfl
    have e4 := hc 4 _ rfl
    have e5 := hc 5 _ rfl
    simp only [Nat.add_zero] at e0
    clear c1 hc hr hm hn he hf
    go_enter Try.func25, Try.ntmps25
    go_wp2_with (first | (go_at_call 55; (with_reducible refine (C1.out _ (HR.out.keep (by (repeat' (first | (with_reducible exact Below.refl _ _) | (with_reducible assumption) | (with_reducible refine Below.alloc ?_ ?_ _) | (with_reducible refine Below.setCell ?_ ?_ _) | (with_reducible refine Below.drew ?_) | (with_reducible refine below_drewN ?_ _) | (with_reducible refine below_via ?_ (by with_reducible assumption) ?_) | omega | (simp; done) | (simp; omega)))))).mono ?_); rintro e w1 ⟨rfl, hb1⟩; obtain ⟨fc1, fg1, hc1, hf1, hz1⟩ := bget hb1; (try simp at hz1)) | fail)
    refine bodyPost_ret (by simp [results, Try.results25, go_sem, hc1]; try rfl) rfl ⟨rfl, ?_⟩
    (repeat' (first | (with_reducible exact Below.refl _ _) | (with_reducible assumption) | (with_reducible refine Below.alloc ?_ ?_ _) | (with_reducible refine Below.setCell ?_ ?_ _) | (with_reducible refine Below.drew ?_) | (with_reducible refine below_drewN ?_ _) | (with_reducible refine below_via ?_ (by with_reducible assumption) ?_) | omega | (simp; done) | (simp; omega)))
  · rw [hf]
    rw [he] at c1
    have C1 := Lib.hid c1
    clear c1 hr hn he hf
    go_enter Try.func25, Try.ntmps25
    go_wp2_with (first | (go_at_call 55; (with_reducible refine (C1.out _ (HR.out.keep (by (repeat' (first | (with_reducible exact Below.refl _ _) | (with_reducible assumption) | (with_reducible refine Below.alloc ?_ ?_ _) | (with_reducible refine Below.setCell ?_ ?_ _) | (with_reducible refine Below.drew ?_) | (with_reducible refine below_drewN ?_ _) | (with_reducible refine below_via ?_ (by with_reducible assumption) ?_) | omega | (simp; done) | (simp; omega)))))).mono ?_); rintro e w1 ⟨rfl, hb1⟩; obtain ⟨fc1, fg1, hc1, hf1, hz1⟩ := bget hb1; (try simp at hz1)) | fail)
    refine bodyPost_ret (by simp [results, Try.results25, go_sem, hc1]; try rfl) rfl ⟨rfl, ?_⟩
    (repeat' (first | (with_reducible exact Below.refl _ _) | (with_reducible assumption) | (with_reducible refine Below.alloc ?_ ?_ _) | (with_reducible refine Below.setCell ?_ ?_ _) | (with_reducible refine Below.drew ?_) | (with_reducible refine below_drewN ?_ _) | (with_reducible refine below_via ?_ (by with_reducible assumption) ?_) | omega | (simp; done) | (simp; omega)))
set_option maxRecDepth 100000 in
set_option maxHeartbeats 4000000 in
theorem grpLeft (l : List Group) (k : Nat) (q : Int) (A : Option Addr) (c : Nat) (w : World) (hk : k < l.length) (hl : l.length ≤ 1000000) (hr : Rs w 6 (l.map encGroup) A c) :
    Calls Try.prog 56 #[.slice A l.length c, .int .i64 k, .int .i64 q] w fun e w' => ∃ v, e = .returned v ∧ Own w' w.heap.size 51 6 v ((l.set k (withLeft l[k] q)).map encGroup) ∧ Below w.heap.size w w' := by
  have HR := Lib.hid hr
  have kl : (k : Int) < (l.length : Int) := by omega
  have C1 := Lib.hid (fun W (h : Below w.heap.size w W) => grpClone l A c W (by omega) (HR.out.keep h))
  clear hr
  go_enter Try.func56, Try.ntmps56
  go_upto_region 2 with (first | (go_at_call 59; (with_reducible refine (C1.out _ (by (repeat' (first | (with_reducible exact Below.refl _ _) | (with_reducible assumption) | (with_reducible refine Below.alloc ?_ ?_ _) | (with_reducible refine Below.setCell ?_ ?_ _) | (with_reducible refine Below.drew ?_) | (with_reducible refine below_drewN ?_ _) | (with_reducible refine below_via ?_ (by with_reducible assumption) ?_) | omega | (simp; done) | (simp; omega))))).mono ?_); rintro e w4 ⟨v4, rfl, hown4, hb4⟩; have HO4 := Lib.hid hown4; clear hown4; obtain ⟨fc4, fg4, hc4, hf4, hz4⟩ := bget hb4; (try simp at hz4)) | fail)
  obtain ⟨A4, c4, hv4, _, _⟩ := HO4.out.rs
  rw [List.length_map] at hv4
  subst hv4
  obtain ⟨g, rfl, hg1, hg2⟩ := HO4.out.at (by rw [List.length_map]; omega)
  obtain ⟨cur, hblk⟩ := HO4.out.blk rfl
  have fz := fun i => hblk.frozen i
  obtain ⟨b', o', e', hb', hcc⟩ := (HO4.out.rd).1 k (encGroup l[k]) (by simp [hk])
  injection e' with e'
  injection e' with e1' e2' _
  subst e1' e2'
  have q5 := hcc 5 _ rfl
  simp only [Nat.zero_add] at q5
  have hbl4 := Lib.hid (show Below w.heap.size w w4 from by (repeat' (first | (with_reducible exact Below.refl _ _) | (with_reducible assumption) | (with_reducible refine Below.alloc ?_ ?_ _) | (with_reducible refine Below.setCell ?_ ?_ _) | (with_reducible refine Below.drew ?_) | (with_reducible refine below_drewN ?_ _) | (with_reducible refine below_via ?_ (by with_reducible assumption) ?_) | omega | (simp; done) | (simp; omega))))
  clear hcc hblk hc4 hf4
  go_wp2_with fail
  go_ret
  exact ⟨_, rfl, by exact (HO4.out.put rfl (i := k) (r := encGroup l[k]) (by simp [hk]) (show 5 < 6 by omega) (.int .i64 q)).mono (by first | omega | (simp; omega)), by have hbl := hbl4.out; (repeat' (first | (with_reducible exact Below.refl _ _) | (with_reducible assumption) | (with_reducible refine Below.alloc ?_ ?_ _) | (with_reducible refine Below.setCell ?_ ?_ _) | (with_reducible refine Below.drew ?_) | (with_reducible refine below_drewN ?_ _) | (with_reducible refine below_via ?_ (by with_reducible assumption) ?_) | omega | (simp; done) | (simp; omega)))⟩
def GrpPost (w : World) (L : List Group) (code : Int) (e : Ending) (w' : World) : Prop :=
  ∃ v, e = .returned (.tuple #[v, .int .i64 code]) ∧ Own w' w.heap.size 51 6 v (L.map encGroup) ∧ Below w.heap.size w w'
set_option maxRecDepth 100000 in
set_option maxHeartbeats 8000000 in
theorem grpAlloc (l : List Group) (id q : Int) (A : Option Addr) (c : Nat) (w : World) (hl : l.length ≤ 1000000) (hin : ∀ g ∈ l, In64 g.left) (hr : Rs w 6 (l.map encGroup) A c) :
    Calls Try.prog 24 #[.slice A l.length c, .int .i64 id, .int .i64 q] w (GrpPost w (alL l id q) (alC l id q)) := by
  have c1 := fun W (h : Rd W A 6 (l.map encGroup)) => grpAt l id A c W (by omega) h
  have HR := Lib.hid hr
  rcases idx_group l id with ⟨k, hk, hm, hn, he, hf⟩ | ⟨hn, he, hf⟩
  · rw [he] at c1
    have C1 := Lib.hid c1
    have kl : (k : Int) < (l.length : Int) := by omega
    have kk : decide ((k : Int) < 0) = false := by simp
    obtain ⟨b, o, rfl, hb, hc⟩ := hr.rd k (encGroup l[k]) (by simp [hk])
    have e5 := hc 5 _ rfl
    have h64 := hin l[k] (List.getElem_mem hk)
    unfold In64 at h64
    by_cases t0 : q = 0
    · have d0 : (q == 0) = true := by simpa using t0
      have HC := Lib.hid (show alC l id q = 2 from by unfold alC; rw [hf]; simp only [if_true]; rw [if_pos t0])
      have HL := Lib.hid (show alL l id q = [] from by unfold alL; rw [HC.out]; rfl)
      clear c1 hc hr hm hn he hf
      go_enter Try.func24, Try.ntmps24
      go_wp2_with (first | (go_at_call 55; (with_reducible refine (C1.out _ (HR.out.rd.keep (by (repeat' (first | (with_reducible exact Below.refl _ _) | (with_reducible assumption) | (with_reducible refine Below.alloc ?_ ?_ _) | (with_reducible refine Below.setCell ?_ ?_ _) | (with_reducible refine Below.drew ?_) | (with_reducible refine below_drewN ?_ _) | (with_reducible refine below_via ?_ (by with_reducible assumption) ?_) | omega | (simp; done) | (simp; omega)))))).mono ?_); rintro e w1 ⟨rfl, hb1⟩; obtain ⟨fc1, fg1, hc1, hf1, hz1⟩ := bget hb1; (try simp at hz1)) | fail)
      go_ret2
      exact ⟨_, by rw [HC.out]; rfl, by rw [HL.out]; exact Own.nil _ _ _ _, by (repeat' (first | (with_reducible exact Below.refl _ _) | (with_reducible assumption) | (with_reducible refine Below.alloc ?_ ?_ _) | (with_reducible refine Below.setCell ?_ ?_ _) | (with_reducible refine Below.drew ?_) | (with_reducible refine below_drewN ?_ _) | (with_reducible refine below_via ?_ (by with_reducible assumption) ?_) | omega | (simp; done) | (simp; omega)))⟩
    have d0 : (q == 0) = false := by simpa using t0
    rcases Int.lt_trichotomy l[k].left 0 with t1 | t1 | t1
    · have d1 : (l[k].left == 0) = false := by simp; omega
      have d2 : decide (l[k].left < 0) = true := by simpa using t1
      by_cases t3 : q < 0
      · have d3 : decide (q < 0) = true := by simpa using t3
        have d4 : decide (0 < q) = false := by simp; omega
        by_cases t5 : q < l[k].left
        · have d5 : decide (q < l[k].left) = true := by simpa using t5
          have HC := Lib.hid (show alC l id q = 23 from by unfold alC; rw [hf]; simp only [if_true]; rw [if_neg (by omega), if_neg (by omega), if_pos (by omega)])
          have HL := Lib.hid (show alL l id q = [] from by unfold alL; rw [HC.out]; rfl)
          clear c1 hc hr hm hn he hf
          go_enter Try.func24, Try.ntmps24
          go_wp2_with (first | (go_at_call 55; (with_reducible refine (C1.out _ (HR.out.rd.keep (by (repeat' (first | (with_reducible exact Below.refl _ _) | (with_reducible assumption) | (with_reducible refine Below.alloc ?_ ?_ _) | (with_reducible refine Below.setCell ?_ ?_ _) | (with_reducible refine Below.drew ?_) | (with_reducible refine below_drewN ?_ _) | (with_reducible refine below_via ?_ (by with_reducible assumption) ?_) | omega | (simp; done) | (simp; omega)))))).mono ?_); rintro e w1 ⟨rfl, hb1⟩; obtain ⟨fc1, fg1, hc1, hf1, hz1⟩ := bget hb1; (try simp at hz1)) | fail)
          go_ret2
          exact ⟨_, by rw [HC.out]; rfl, by rw [HL.out]; exact Own.nil _ _ _ _, by (repeat' (first | (with_reducible exact Below.refl _ _) | (with_reducible assumption) | (with_reducible refine Below.alloc ?_ ?_ _) | (with_reducible refine Below.setCell ?_ ?_ _) | (with_reducible refine Below.drew ?_) | (with_reducible refine below_drewN ?_ _) | (with_reducible refine below_via ?_ (by with_reducible assumption) ?_) | omega | (simp; done) | (simp; omega)))⟩
        · have d5 : decide (q < l[k].left) = false := by simpa using t5
          have HC := Lib.hid (show alC l id q = 0 from by unfold alC; rw [hf]; simp only [if_true]; rw [if_neg (by omega), if_neg (by omega), if_neg (by omega)])
          have HL := Lib.hid (show alL l id q = l.set k (withLeft l[k] (l[k].left - q)) from by unfold alL; rw [HC.out, if_pos rfl, hf, setL_hit hk hm hn])
          have C2 := Lib.hid (fun W h => grpLeft l k (l[k].left - q) (some ⟨b, o, none⟩) c W hk hl h)
          clear c1 hc hr hm hn he hf
          go_enter Try.func24, Try.ntmps24
          go_wp2_with (first | (go_at_call 55; (with_reducible refine (C1.out _ (HR.out.rd.keep (by (repeat' (first | (with_reducible exact Below.refl _ _) | (with_reducible assumption) | (with_reducible refine Below.alloc ?_ ?_ _) | (with_reducible refine Below.setCell ?_ ?_ _) | (with_reducible refine Below.drew ?_) | (with_reducible refine below_drewN ?_ _) | (with_reducible refine below_via ?_ (by with_reducible assumption) ?_) | omega | (simp; done) | (simp; omega)))))).mono ?_); rintro e w1 ⟨rfl, hb1⟩; obtain ⟨fc1, fg1, hc1, hf1, hz1⟩ := bget hb1; (try simp at hz1)) | (go_at_call 56; (with_reducible refine (C2.out _ (HR.out.keep (by (repeat' (first | (with_reducible exact Below.refl _ _) | (with_reducible assumption) | (with_reducible refine Below.alloc ?_ ?_ _) | (with_reducible refine Below.setCell ?_ ?_ _) | (with_reducible refine Below.drew ?_) | (with_reducible refine below_drewN ?_ _) | (with_reducible refine below_via ?_ (by with_reducible assumption) ?_) | omega | (simp; done) | (simp; omega)))))).mono ?_); rintro e w2 ⟨v2, rfl, hown2, hb2⟩; have HO2 := Lib.hid hown2; clear hown2; obtain ⟨fc2, fg2, hc2, hf2, hz2⟩ := bget hb2; (try simp at hz2)) | fail)
          go_ret2
          exact ⟨_, by rw [HC.out]; rfl, by rw [HL.out]; exact HO2.out.mono (by first | omega | (simp; omega)), by (repeat' (first | (with_reducible exact Below.refl _ _) | (with_reducible assumption) | (with_reducible refine Below.alloc ?_ ?_ _) | (with_reducible refine Below.setCell ?_ ?_ _) | (with_reducible refine Below.drew ?_) | (with_reducible refine below_drewN ?_ _) | (with_reducible refine below_via ?_ (by with_reducible assumption) ?_) | omega | (simp; done) | (simp; omega)))⟩
      · have d3 : decide (q < 0) = false := by simpa using t3
        have HC := Lib.hid (show alC l id q = 2 from by unfold alC; rw [hf]; simp only [if_true]; rw [if_neg (by omega), if_pos (by omega)])
        have HL := Lib.hid (show alL l id q = [] from by unfold alL; rw [HC.out]; rfl)
        clear c1 hc hr hm hn he hf
        go_enter Try.func24, Try.ntmps24
        go_wp2_with (first | (go_at_call 55; (with_reducible refine (C1.out _ (HR.out.rd.keep (by (repeat' (first | (with_reducible exact Below.refl _ _) | (with_reducible assumption) | (with_reducible refine Below.alloc ?_ ?_ _) | (with_reducible refine Below.setCell ?_ ?_ _) | (with_reducible refine Below.drew ?_) | (with_reducible refine below_drewN ?_ _) | (with_reducible refine below_via ?_ (by with_reducible assumption) ?_) | omega | (simp; done) | (simp; omega)))))).mono ?_); rintro e w1 ⟨rfl, hb1⟩; obtain ⟨fc1, fg1, hc1, hf1, hz1⟩ := bget hb1; (try simp at hz1)) | fail)
        go_ret2
        exact ⟨_, by rw [HC.out]; rfl, by rw [HL.out]; exact Own.nil _ _ _ _, by (repeat' (first | (with_reducible exact Below.refl _ _) | (with_reducible assumption) | (with_reducible refine Below.alloc ?_ ?_ _) | (with_reducible refine Below.setCell ?_ ?_ _) | (with_reducible refine Below.drew ?_) | (with_reducible refine below_drewN ?_ _) | (with_reducible refine below_via ?_ (by with_reducible assumption) ?_) | omega | (simp; done) | (simp; omega)))⟩
    · have d1 : (l[k].left == 0) = true := by simpa using t1
      rcases Int.lt_or_lt_of_ne t0 with t3 | t3
      · have d3 : decide (q < 0) = true := by simpa using t3
        have d4 : decide (0 < q) = false := by simp; omega
        have d5 : decide (q < l[k].left) = true := by simp; omega
        have HC := Lib.hid (show alC l id q = 23 from by unfold alC; rw [hf]; simp only [if_true]; rw [if_neg (by omega), if_neg (by omega), if_pos (by omega)])
        have HL := Lib.hid (show alL l id q = [] from by unfold alL; rw [HC.out]; rfl)
        clear c1 hc hr hm hn he hf
        go_enter Try.func24, Try.ntmps24
        go_wp2_with (first | (go_at_call 55; (with_reducible refine (C1.out _ (HR.out.rd.keep (by (repeat' (first | (with_reducible exact Below.refl _ _) | (with_reducible assumption) | (with_reducible refine Below.alloc ?_ ?_ _) | (with_reducible refine Below.setCell ?_ ?_ _) | (with_reducible refine Below.drew ?_) | (with_reducible refine below_drewN ?_ _) | (with_reducible refine below_via ?_ (by with_reducible assumption) ?_) | omega | (simp; done) | (simp; omega)))))).mono ?_); rintro e w1 ⟨rfl, hb1⟩; obtain ⟨fc1, fg1, hc1, hf1, hz1⟩ := bget hb1; (try simp at hz1)) | fail)
        go_ret2
        exact ⟨_, by rw [HC.out]; rfl, by rw [HL.out]; exact Own.nil _ _ _ _, by (repeat' (first | (with_reducible exact Below.refl _ _) | (with_reducible assumption) | (with_reducible refine Below.alloc ?_ ?_ _) | (with_reducible refine Below.setCell ?_ ?_ _) | (with_reducible refine Below.drew ?_) | (with_reducible refine below_drewN ?_ _) | (with_reducible refine below_via ?_ (by with_reducible assumption) ?_) | omega | (simp; done) | (simp; omega)))⟩
      · have d4 : decide (0 < q) = true := by simpa using t3
        have d5 : decide (l[k].left < q) = true := by simp; omega
        have HC := Lib.hid (show alC l id q = 23 from by unfold alC; rw [hf]; simp only [if_true]; rw [if_neg (by omega), if_neg (by omega), if_pos (by omega)])
        have HL := Lib.hid (show alL l id q = [] from by unfold alL; rw [HC.out]; rfl)
        clear c1 hc hr hm hn he hf
        go_enter Try.func24, Try.ntmps24
        go_wp2_with (first | (go_at_call 55; (with_reducible refine (C1.out _ (HR.out.rd.keep (by (repeat' (first | (with_reducible exact Below.refl _ _) | (with_reducible assumption) | (with_reducible refine Below.alloc ?_ ?_ _) | (with_reducible refine Below.setCell ?_ ?_ _) | (with_reducible refine Below.drew ?_) | (with_reducible refine below_drewN ?_ _) | (with_reducible refine below_via ?_ (by with_reducible assumption) ?_) | omega | (simp; done) | (simp; omega)))))).mono ?_); rintro e w1 ⟨rfl, hb1⟩; obtain ⟨fc1, fg1, hc1, hf1, hz1⟩ := bget hb1; (try simp at hz1)) | fail)
        go_ret2
        exact ⟨_, by rw [HC.out]; rfl, by rw [HL.out]; exact Own.nil _ _ _ _, by (repeat' (first | (with_reducible exact Below.refl _ _) | (with_reducible assumption) | (with_reducible refine Below.alloc ?_ ?_ _) | (with_reducible refine Below.setCell ?_ ?_ _) | (with_reducible refine Below.drew ?_) | (with_reducible refine below_drewN ?_ _) | (with_reducible refine below_via ?_ (by with_reducible assumption) ?_) | omega | (simp; done) | (simp; omega)))⟩
    · have d1 : (l[k].left == 0) = false := by simp; omega
      have d2 : decide (l[k].left < 0) = false := by simp; omega
      by_cases t3 : q < 0
      · have d3 : decide (q < 0) = true := by simpa using t3
        have HC := Lib.hid (show alC l id q = 2 from by unfold alC; rw [hf]; simp only [if_true]; rw [if_neg (by omega), if_pos (by omega)])
        have HL := Lib.hid (show alL l id q = [] from by unfold alL; rw [HC.out]; rfl)
        clear c1 hc hr hm hn he hf
        go_enter Try.func24, Try.ntmps24
        go_wp2_with (first | (go_at_call 55; (with_reducible refine (C1.out _ (HR.out.rd.keep (by (repeat' (first | (with_reducible exact Below.refl _ _) | (with_reducible assumption) | (with_reducible refine Below.alloc ?_ ?_ _) | (with_reducible refine Below.setCell ?_ ?_ _) | (with_reducible refine Below.drew ?_) | (with_reducible refine below_drewN ?_ _) | (with_reducible refine below_via ?_ (by with_reducible assumption) ?_) | omega | (simp; done) | (simp; omega)))))).mono ?_); rintro e w1 ⟨rfl, hb1⟩; obtain ⟨fc1, fg1, hc1, hf1, hz1⟩ := bget hb1; (try simp at hz1)) | fail)
        go_ret2
        exact ⟨_, by rw [HC.out]; rfl, by rw [HL.out]; exact Own.nil _ _ _ _, by (repeat' (first | (with_reducible exact Below.refl _ _) | (with_reducible assumption) | (with_reducible refine Below.alloc ?_ ?_ _) | (with_reducible refine Below.setCell ?_ ?_ _) | (with_reducible refine Below.drew ?_) | (with_reducible refine below_drewN ?_ _) | (with_reducible refine below_via ?_ (by with_reducible assumption) ?_) | omega | (simp; done) | (simp; omega)))⟩
      · have d3 : decide (q < 0) = false := by simpa using t3
        have d4 : decide (0 < q) = true := by simp; omega
        by_cases t5 : l[k].left < q
        · have d5 : decide (l[k].left < q) = true := by simpa using t5
          have HC := Lib.hid (show alC l id q = 23 from by unfold alC; rw [hf]; simp only [if_true]; rw [if_neg (by omega), if_neg (by omega), if_pos (by omega)])
          have HL := Lib.hid (show alL l id q = [] from by unfold alL; rw [HC.out]; rfl)
          clear c1 hc hr hm hn he hf
          go_enter Try.func24, Try.ntmps24
          go_wp2_with (first | (go_at_call 55; (with_reducible refine (C1.out _ (HR.out.rd.keep (by (repeat' (first | (with_reducible exact Below.refl _ _) | (with_reducible assumption) | (with_reducible refine Below.alloc ?_ ?_ _) | (with_reducible refine Below.setCell ?_ ?_ _) | (with_reducible refine Below.drew ?_) | (with_reducible refine below_drewN ?_ _) | (with_reducible refine below_via ?_ (by with_reducible assumption) ?_) | omega | (simp; done) | (simp; omega)))))).mono ?_); rintro e w1 ⟨rfl, hb1⟩; obtain ⟨fc1, fg1, hc1, hf1, hz1⟩ := bget hb1; (try simp at hz1)) | fail)
          go_ret2
          exact ⟨_, by rw [HC.out]; rfl, by rw [HL.out]; exact Own.nil _ _ _ _, by (repeat' (first | (with_reducible exact Below.refl _ _) | (with_reducible assumption) | (with_reducible refine Below.alloc ?_ ?_ _) | (with_reducible refine Below.setCell ?_ ?_ _) | (with_reducible refine Below.drew ?_) | (with_reducible refine below_drewN ?_ _) | (with_reducible refine below_via ?_ (by with_reducible assumption) ?_) | omega | (simp; done) | (simp; omega)))⟩
        · have d5 : decide (l[k].left < q) = false := by simpa using t5
          have HC := Lib.hid (show alC l id q = 0 from by unfold alC; rw [hf]; simp only [if_true]; rw [if_neg (by omega), if_neg (by omega), if_neg (by omega)])
          have HL := Lib.hid (show alL l id q = l.set k (withLeft l[k] (l[k].left - q)) from by unfold alL; rw [HC.out, if_pos rfl, hf, setL_hit hk hm hn])
          have C2 := Lib.hid (fun W h => grpLeft l k (l[k].left - q) (some ⟨b, o, none⟩) c W hk hl h)
          clear c1 hc hr hm hn he hf
          go_enter Try.func24, Try.ntmps24
          go_wp2_with (first | (go_at_call 55; (with_reducible refine (C1.out _ (HR.out.rd.keep (by (repeat' (first | (with_reducible exact Below.refl _ _) | (with_reducible assumption) | (with_reducible refine Below.alloc ?_ ?_ _) | (with_reducible refine Below.setCell ?_ ?_ _) | (with_reducible refine Below.drew ?_) | (with_reducible refine below_drewN ?_ _) | (with_reducible refine below_via ?_ (by with_reducible assumption) ?_) | omega | (simp; done) | (simp; omega)))))).mono ?_); rintro e w1 ⟨rfl, hb1⟩; obtain ⟨fc1, fg1, hc1, hf1, hz1⟩ := bget hb1; (try simp at hz1)) | (go_at_call 56; (with_reducible refine (C2.out _ (HR.out.keep (by (repeat' (first | (with_reducible exact Below.refl _ _) | (with_reducible assumption) | (with_reducible refine Below.alloc ?_ ?_ _) | (with_reducible refine Below.setCell ?_ ?_ _) | (with_reducible refine Below.drew ?_) | (with_reducible refine below_drewN ?_ _) | (with_reducible refine below_via ?_ (by with_reducible assumption) ?_) | omega | (simp; done) | (simp; omega)))))).mono ?_); rintro e w2 ⟨v2, rfl, hown2, hb2⟩; have HO2 := Lib.hid hown2; clear hown2; obtain ⟨fc2, fg2, hc2, hf2, hz2⟩ := bget hb2; (try simp at hz2)) | fail)
          go_ret2
          exact ⟨_, by rw [HC.out]; rfl, by rw [HL.out]; exact HO2.out.mono (by first | omega | (simp; omega)), by (repeat' (first | (with_reducible exact Below.refl _ _) | (with_reducible assumption) | (with_reducible refine Below.alloc ?_ ?_ _) | (with_reducible refine Below.setCell ?_ ?_ _) | (with_reducible refine Below.drew ?_) | (with_reducible refine below_drewN ?_ _) | (with_reducible refine below_via ?_ (by with_reducible assumption) ?_) | omega | (simp; done) | (simp; omega)))⟩
  · have HC := Lib.hid (show alC l id q = 11 from by unfold alC; rw [hf]; rfl)
    have HL := Lib.hid (show alL l id q = [] from by unfold alL; rw [HC.out]; rfl)
    rw [he] at c1
    have C1 := Lib.hid c1
    clear c1 hr hn he hf
    go_enter Try.func24, Try.ntmps24
    go_wp2_with (first | (go_at_call 55; (with_reducible refine (C1.out _ (HR.out.rd.keep (by (repeat' (first | (with_reducible exact Below.refl _ _) | (with_reducible assumption) | (with_reducible refine Below.alloc ?_ ?_ _) | (with_reducible refine Below.setCell ?_ ?_ _) | (with_reducible refine Below.drew ?_) | (with_reducible refine below_drewN ?_ _) | (with_reducible refine below_via ?_ (by with_reducible assumption) ?_) | omega | (simp; done) | (simp; omega)))))).mono ?_); rintro e w1 ⟨rfl, hb1⟩; obtain ⟨fc1, fg1, hc1, hf1, hz1⟩ := bget hb1; (try simp at hz1)) | fail)
    go_ret2
    exact ⟨_, by rw [HC.out]; rfl, by rw [HL.out]; exact Own.nil _ _ _ _, by (repeat' (first | (with_reducible exact Below.refl _ _) | (with_reducible assumption) | (with_reducible refine Below.alloc ?_ ?_ _) | (with_reducible refine Below.setCell ?_ ?_ _) | (with_reducible refine Below.drew ?_) | (with_reducible refine below_drewN ?_ _) | (with_reducible refine below_via ?_ (by with_reducible assumption) ?_) | omega | (simp; done) | (simp; omega)))⟩
theorem rd_twoG {w : World} {g : Nat} {u v : Int} (hg : g < w.heap.size) (h0 : w.cell? ⟨g, 0, none⟩ = some (.int .i64 u)) (h1 : w.cell? ⟨g, 1, none⟩ = some (.int .i64 v)) : Rd w (some ⟨g, 0, none⟩) 1 ([u, v].map encI) := by
  intro i r hr
  refine ⟨g, 0, rfl, hg, fun j x hx => ?_⟩
  match i, hr with
  | 0, hr =>
    simp [encI] at hr
    subst hr
    match j, hx with
    | 0, hx => simp at hx; subst hx; exact h0
    | j + 1, hx => simp at hx
  | 1, hr =>
    simp [encI] at hr
    subst hr
    match j, hx with
    | 0, hx => simp at hx; subst hx; exact h1
    | j + 1, hx => simp at hx
  | i + 2, hr => simp at hr
set_option maxRecDepth 100000 in
set_option maxHeartbeats 8000000 in
theorem grpBack (l : List Group) (id q : Int) (A : Option Addr) (c : Nat) (w : World) (hl : l.length ≤ 1000000) (hin : ∀ g ∈ l, In64 g.left) (hq : In64 q) (hr : Rs w 6 (l.map encGroup) A c) :
    Calls Try.prog 26 #[.slice A l.length c, .int .i64 id, .int .i64 q] w (GrpPost w (bkL l id q) (bkC l id q)) := by
  have c1 := fun W (h : Rd W A 6 (l.map encGroup)) => grpAt l id A c W (by omega) h
  have HR := Lib.hid hr
  rcases idx_group l id with ⟨k, hk, hm, hn, he, hf⟩ | ⟨hn, he, hf⟩
  · rw [he] at c1
    have C1 := Lib.hid c1
    have kl : (k : Int) < (l.length : Int) := by omega
    have kk : decide ((k : Int) < 0) = false := by simp
    obtain ⟨b, o, rfl, hb, hc⟩ := hr.rd k (encGroup l[k]) (by simp [hk])
    have e5 := hc 5 _ rfl
    have h64 := hin l[k] (List.getElem_mem hk)
    have CW := Lib.hid (fun W => blkWithin (l[k].left + q) W)
    have hs2 : [l[k].left, q].sum = l[k].left + q := by simp
    have hin2 : ∀ n ∈ [l[k].left, q], In64 n := by
      intro n hn
      simp at hn
      rcases hn with rfl | rfl
      · exact h64
      · exact hq
    by_cases hs : In64 (l[k].left + q)
    · have cs := fun W A c (h : Rd W A 1 ([l[k].left, q].map encI)) => show Calls Try.prog 57 #[.slice A 2 c] W _ from fixSumYes [l[k].left, q] A c W (by simp) hin2 h (by rw [hs2]; exact hs)
      rw [hs2] at cs
      cases hw : withinQ (l[k].left + q)
      · have HC := Lib.hid (show bkC l id q = 7 from by unfold bkC; rw [hf]; simp only [if_true]; rw [hw]; rfl)
        rw [hw] at CW
        clear hw
        have HL := Lib.hid (show bkL l id q = [] from by unfold bkL; rw [HC.out]; rfl)
        have CS := Lib.hid cs
        clear c1 cs hc hr hm hn he hf
        go_enter Try.func26, Try.ntmps26
        go_wp2_with (first | (go_at_call 55; (with_reducible refine (C1.out _ (HR.out.rd.keep (by (repeat' (first | (with_reducible exact Below.refl _ _) | (with_reducible assumption) | (with_reducible refine Below.alloc ?_ ?_ _) | (with_reducible refine Below.setCell ?_ ?_ _) | (with_reducible refine Below.drew ?_) | (with_reducible refine below_drewN ?_ _) | (with_reducible refine below_via ?_ (by with_reducible assumption) ?_) | omega | (simp; done) | (simp; omega)))))).mono ?_); rintro e w1 ⟨rfl, hb1⟩; obtain ⟨fc1, fg1, hc1, hf1, hz1⟩ := bget hb1; (try simp at hz1)) | (go_at_call 57; (with_reducible refine (CS.out _ _ _ (rd_twoG (u := l[k].left) (v := q) ?_ ?_ ?_)).mono ?_); (focus (first | omega | (simp; done) | (simp; omega))); (focus (simp [go_sem]; done)); (focus (simp [go_sem]; done)); rintro e w2 ⟨rfl, hb2⟩; obtain ⟨fc2, fg2, hc2, hf2, hz2⟩ := bget hb2; (try simp at hz2)) | (go_at_call 58; (with_reducible refine (CW.out _).mono ?_); rintro e w3 ⟨rfl, hb3⟩; obtain ⟨fc3, fg3, hc3, hf3, hz3⟩ := bget hb3; (try simp at hz3)) | fail)
        go_ret2
        exact ⟨_, by rw [HC.out]; rfl, by rw [HL.out]; exact Own.nil _ _ _ _, by (repeat' (first | (with_reducible exact Below.refl _ _) | (with_reducible assumption) | (with_reducible refine Below.alloc ?_ ?_ _) | (with_reducible refine Below.setCell ?_ ?_ _) | (with_reducible refine Below.drew ?_) | (with_reducible refine below_drewN ?_ _) | (with_reducible refine below_via ?_ (by with_reducible assumption) ?_) | omega | (simp; done) | (simp; omega)))⟩
      · have HC := Lib.hid (show bkC l id q = 0 from by unfold bkC; rw [hf]; simp only [if_true]; rw [hw]; rfl)
        have HL := Lib.hid (show bkL l id q = l.set k (withLeft l[k] (l[k].left + q)) from by unfold bkL; rw [HC.out, if_pos rfl, hf, setL_hit hk hm hn])
        have C2 := Lib.hid (fun W h => grpLeft l k (l[k].left + q) (some ⟨b, o, none⟩) c W hk hl h)
        have CS := Lib.hid cs
        rw [hw] at CW
        clear c1 cs hc hr hm hn he hf hw
        go_enter Try.func26, Try.ntmps26
        go_wp2_with (first | (go_at_call 55; (with_reducible refine (C1.out _ (HR.out.rd.keep (by (repeat' (first | (with_reducible exact Below.refl _ _) | (with_reducible assumption) | (with_reducible refine Below.alloc ?_ ?_ _) | (with_reducible refine Below.setCell ?_ ?_ _) | (with_reducible refine Below.drew ?_) | (with_reducible refine below_drewN ?_ _) | (with_reducible refine below_via ?_ (by with_reducible assumption) ?_) | omega | (simp; done) | (simp; omega)))))).mono ?_); rintro e w1 ⟨rfl, hb1⟩; obtain ⟨fc1, fg1, hc1, hf1, hz1⟩ := bget hb1; (try simp at hz1)) | (go_at_call 57; (with_reducible refine (CS.out _ _ _ (rd_twoG (u := l[k].left) (v := q) ?_ ?_ ?_)).mono ?_); (focus (first | omega | (simp; done) | (simp; omega))); (focus (simp [go_sem]; done)); (focus (simp [go_sem]; done)); rintro e w2 ⟨rfl, hb2⟩; obtain ⟨fc2, fg2, hc2, hf2, hz2⟩ := bget hb2; (try simp at hz2)) | (go_at_call 58; (with_reducible refine (CW.out _).mono ?_); rintro e w3 ⟨rfl, hb3⟩; obtain ⟨fc3, fg3, hc3, hf3, hz3⟩ := bget hb3; (try simp at hz3)) | (go_at_call 56; (with_reducible refine (C2.out _ (HR.out.keep (by (repeat' (first | (with_reducible exact Below.refl _ _) | (with_reducible assumption) | (with_reducible refine Below.alloc ?_ ?_ _) | (with_reducible refine Below.setCell ?_ ?_ _) | (with_reducible refine Below.drew ?_) | (with_reducible refine below_drewN ?_ _) | (with_reducible refine below_via ?_ (by with_reducible assumption) ?_) | omega | (simp; done) | (simp; omega)))))).mono ?_); rintro e w4 ⟨v4, rfl, hown4, hb4⟩; have HO4 := Lib.hid hown4; clear hown4; obtain ⟨fc4, fg4, hc4, hf4, hz4⟩ := bget hb4; (try simp at hz4)) | fail)
        go_ret2
        exact ⟨_, by rw [HC.out]; rfl, by rw [HL.out]; exact HO4.out.mono (by first | omega | (simp; omega)), by (repeat' (first | (with_reducible exact Below.refl _ _) | (with_reducible assumption) | (with_reducible refine Below.alloc ?_ ?_ _) | (with_reducible refine Below.setCell ?_ ?_ _) | (with_reducible refine Below.drew ?_) | (with_reducible refine below_drewN ?_ _) | (with_reducible refine below_via ?_ (by with_reducible assumption) ?_) | omega | (simp; done) | (simp; omega)))⟩
    · have cs := fun W A c (h : Rd W A 1 ([l[k].left, q].map encI)) => show Calls Try.prog 57 #[.slice A 2 c] W _ from fixSumNo [l[k].left, q] A c W (by simp) hin2 h (by rw [hs2]; exact hs)
      have hw : withinQ (l[k].left + q) = false := by
        unfold In64 at hs
        unfold withinQ
        simp
        omega
      have HC := Lib.hid (show bkC l id q = 7 from by unfold bkC; rw [hf]; simp only [if_true]; rw [hw]; rfl)
      have HL := Lib.hid (show bkL l id q = [] from by unfold bkL; rw [HC.out]; rfl)
      have CS := Lib.hid cs
      clear c1 cs hc hr hm hn he hf
      go_enter Try.func26, Try.ntmps26
      go_wp2_with (first | (go_at_call 55; (with_reducible refine (C1.out _ (HR.out.rd.keep (by (repeat' (first | (with_reducible exact Below.refl _ _) | (with_reducible assumption) | (with_reducible refine Below.alloc ?_ ?_ _) | (with_reducible refine Below.setCell ?_ ?_ _) | (with_reducible refine Below.drew ?_) | (with_reducible refine below_drewN ?_ _) | (with_reducible refine below_via ?_ (by with_reducible assumption) ?_) | omega | (simp; done) | (simp; omega)))))).mono ?_); rintro e w1 ⟨rfl, hb1⟩; obtain ⟨fc1, fg1, hc1, hf1, hz1⟩ := bget hb1; (try simp at hz1)) | (go_at_call 57; (with_reducible refine (CS.out _ _ _ (rd_twoG (u := l[k].left) (v := q) ?_ ?_ ?_)).mono ?_); (focus (first | omega | (simp; done) | (simp; omega))); (focus (simp [go_sem]; done)); (focus (simp [go_sem]; done)); rintro e w2 ⟨rfl, hb2⟩; obtain ⟨fc2, fg2, hc2, hf2, hz2⟩ := bget hb2; (try simp at hz2)) | (go_at_call 58; (with_reducible refine (CW.out _).mono ?_); rintro e w3 ⟨rfl, hb3⟩; obtain ⟨fc3, fg3, hc3, hf3, hz3⟩ := bget hb3; (try simp at hz3)) | fail)
      go_ret2
      exact ⟨_, by rw [HC.out]; rfl, by rw [HL.out]; exact Own.nil _ _ _ _, by (repeat' (first | (with_reducible exact Below.refl _ _) | (with_reducible assumption) | (with_reducible refine Below.alloc ?_ ?_ _) | (with_reducible refine Below.setCell ?_ ?_ _) | (with_reducible refine Below.drew ?_) | (with_reducible refine below_drewN ?_ _) | (with_reducible refine below_via ?_ (by with_reducible assumption) ?_) | omega | (simp; done) | (simp; omega)))⟩
  · have HC := Lib.hid (show bkC l id q = 11 from by unfold bkC; rw [hf]; rfl)
    have HL := Lib.hid (show bkL l id q = [] from by unfold bkL; rw [HC.out]; rfl)
    rw [he] at c1
    have C1 := Lib.hid c1
    clear c1 hr hn he hf
    go_enter Try.func26, Try.ntmps26
    go_wp2_with (first | (go_at_call 55; (with_reducible refine (C1.out _ (HR.out.rd.keep (by (repeat' (first | (with_reducible exact Below.refl _ _) | (with_reducible assumption) | (with_reducible refine Below.alloc ?_ ?_ _) | (with_reducible refine Below.setCell ?_ ?_ _) | (with_reducible refine Below.drew ?_) | (with_reducible refine below_drewN ?_ _) | (with_reducible refine below_via ?_ (by with_reducible assumption) ?_) | omega | (simp; done) | (simp; omega)))))).mono ?_); rintro e w1 ⟨rfl, hb1⟩; obtain ⟨fc1, fg1, hc1, hf1, hz1⟩ := bget hb1; (try simp at hz1)) | fail)
    go_ret2
    exact ⟨_, by rw [HC.out]; rfl, by rw [HL.out]; exact Own.nil _ _ _ _, by (repeat' (first | (with_reducible exact Below.refl _ _) | (with_reducible assumption) | (with_reducible refine Below.alloc ?_ ?_ _) | (with_reducible refine Below.setCell ?_ ?_ _) | (with_reducible refine Below.drew ?_) | (with_reducible refine below_drewN ?_ _) | (with_reducible refine below_via ?_ (by with_reducible assumption) ?_) | omega | (simp; done) | (simp; omega)))⟩
end Go.Proofs.Ytenehpcliajdnaa
