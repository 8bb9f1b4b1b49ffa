/- Joined: InstV, InstP, List2, Cap, InstQ. -/
import Derived.Test.YtalgfpegaobacaaGreatKz9
import Derived.Test.YtalgfpegaobacaaGreatKz6
import Derived.Test.YtalgfpegaobacaaGreatKz8
import Derived.Test.YtalgfpegaobacaaGreatKz1
import Derived.Deep.RegionLaw
import Derived.Outline
/- Instruments in tables: the reference's Find, Put, Table. -/
namespace Go.Proofs.YtalgfpegaobacaaGreat
open Go.RowKit
structure InstV where
  id : Int
  mult : Int
  price : Int
  next : Int
  moves : SlOf Int
  deriving DecidableEq
def encInstV (x : InstV) : List Value := [.int .i64 x.id, .int .i64 x.mult, .int .i64 x.price, .int .i64 x.next, .slice x.moves.A x.moves.val.length x.moves.c]
theorem rowsInstV (l : List InstV) : ∀ r ∈ l.map encInstV, r.length = 5 ∧ ∀ u ∈ r, u.oneCell' = true := by
  intro r hr
  obtain ⟨m, _, rfl⟩ := List.mem_map.1 hr
  refine ⟨rfl, ?_⟩
  simp only [encInstV, List.mem_cons, List.not_mem_nil, or_false, forall_eq_or_imp, forall_eq]
  exact ⟨rfl, rfl, rfl, rfl, rfl⟩
theorem elInstV : Elem Tryz.prog 23 91 5 56 := elem_of Tryz.underlying23 (z := .agg #[.int .i64 0, .int .i64 0, .int .i64 0, .int .i64 0, .slice none 0 0]) (by kernel_rfl) rfl (by omega)
def findInstV (l : List InstV) (id : Int) : InstV × Bool := match l.find? (fun m => m.id == id) with | some m => (m, true) | none => (⟨0, 0, 0, 0, ⟨none, 0, []⟩⟩, false)
theorem findInstV_hit {l : List InstV} {id : Int} {k : Nat} (h : k < l.length) (hm : (l[k].id == id) = true) (hn : ∀ j (_ : j < l.length), j < k → (l[j].id == id) = false) : findInstV l id = (l[k], true) := by
  have : l.find? (fun m => m.id == id) = some l[k] := by
    rw [List.find?_eq_some_iff_getElem]
    exact ⟨hm, k, h, rfl, fun j hj => by simp [hn j (by omega) hj]⟩
  simp [findInstV, this]
theorem findInstV_miss {l : List InstV} {id : Int} (hn : ∀ j (_ : j < l.length), (l[j].id == id) = false) : findInstV l id = (⟨0, 0, 0, 0, ⟨none, 0, []⟩⟩, false) := by
  have : l.find? (fun m => m.id == id) = none := by
    rw [List.find?_eq_none]
    intro x hx
    obtain ⟨j, hj, rfl⟩ := List.mem_iff_getElem.1 hx
    simp [hn j hj]
  simp [findInstV, this]
def insInstV (l : List InstV) (m : InstV) : List InstV := l.takeWhile (fun x => decide (x.id < m.id)) ++ m :: l.dropWhile (fun x => decide (x.id < m.id))
def putInstVC (ob : Bool) (l : List InstV) (m : InstV) : Int := if ob then (if (findInstV l m.id).2 then 12 else 0) else 2
def putInstVL (ob : Bool) (l : List InstV) (m : InstV) : List InstV := if ob = true ∧ (findInstV l m.id).2 = false then insInstV l m else []
def PutInstVPost (ob : Bool) (w : World) (l : List InstV) (m : InstV) (e : Ending) (w' : World) : Prop :=
  ∃ v, e = .returned (.tuple #[v, .int .i64 (putInstVC ob l m)]) ∧ Own w' w.heap.size 91 5 v ((putInstVL ob l m).map encInstV) ∧ Below w.heap.size w w'
theorem insInstV_len (l : List InstV) (m : InstV) : (insInstV l m).length = l.length + 1 := by
  unfold insInstV
  have := congrArg List.length (List.takeWhile_append_dropWhile (p := fun x : InstV => decide (x.id < m.id)) (l := l))
  simp only [List.length_append, List.length_cons] at this ⊢
  omega
theorem putInstVL_len (ob : Bool) (l : List InstV) (m : InstV) : (putInstVL ob l m).length ≤ l.length + 1 := by
  unfold putInstVL
  split
  · rw [insInstV_len]; omega
  · simp
def stepInstV (okf : InstV → Bool) (out : List InstV) (m : InstV) : List InstV := if putInstVC (okf m) out m = 0 then putInstVL (okf m) out m else out
def tabInstVN (okf : InstV → Bool) (l : List InstV) (k : Nat) : List InstV := (l.take k).foldl (stepInstV okf) []
theorem tabInstVN_succ {okf : InstV → Bool} {l : List InstV} {k : Nat} (h : k < l.length) : tabInstVN okf l (k + 1) = stepInstV okf (tabInstVN okf l k) l[k] := by
  unfold tabInstVN
  rw [List.take_succ_eq_append_getElem h, List.foldl_append]
  rfl
theorem tabInstVN_len (okf : InstV → Bool) (l : List InstV) : ∀ k, (tabInstVN okf l k).length ≤ k
  | 0 => by simp [tabInstVN]
  | k + 1 => by
    have ih := tabInstVN_len okf l k
    rcases Nat.lt_or_ge k l.length with h | h
    · rw [tabInstVN_succ h]; unfold stepInstV; split
      · have := putInstVL_len (okf l[k]) (tabInstVN okf l k) l[k]; omega
      · omega
    · have : tabInstVN okf l (k + 1) = tabInstVN okf l k := by unfold tabInstVN; rw [List.take_of_length_le (by omega), List.take_of_length_le h]
      rw [this]; omega
theorem tabInstV_at {okf : InstV → Bool} {l : List InstV} {k n : Nat} (h : k = n ∨ (k ≤ n ∧ l.length ≤ k)) : tabInstVN okf l k = tabInstVN okf l n := by
  rcases h with rfl | ⟨h1, h2⟩
  · rfl
  · unfold tabInstVN; rw [List.take_of_length_le h2, List.take_of_length_le (by omega)]
/-- What it is, wherever its moves lie. -/
def lgI (x : InstV) : Inst := ⟨x.id, x.mult, x.price, x.next, x.moves.val⟩
/-- Its moves are there. -/
def GoodI (w : World) (x : InstV) : Prop := Rs w 1 (x.moves.val.map encI) x.moves.A x.moves.c
theorem GoodI.keep {w w' : World} {x : InstV} (h : GoodI w x) (hb : Below w.heap.size w w') : GoodI w' x := Rs.keep h hb
def okV (x : InstV) : Bool := decide (okI (lgI x))
theorem ref13IsV (x : InstV) (w : World) (hl : x.moves.val.length ≤ 1099511627776) (hg : GoodI w x) :
    Calls Tryz.prog 90 #[.agg #[.int .i64 x.id, .int .i64 x.mult, .int .i64 x.price, .int .i64 x.next, .slice x.moves.A x.moves.val.length x.moves.c]] w fun e w' => e = .returned (.bool (okV x)) ∧ Below w.heap.size w w' :=
  ref13Is (lgI x) x.moves.A x.moves.c w hl hg.rd
set_option maxRecDepth 100000 in
set_option maxHeartbeats 2000000 in
theorem ref13Find (l : List InstV) (id : Int) (A : Option Addr) (c : Nat) (w : World) (hl : l.length ≤ 1099511627776) (hr : Rd w A 5 (l.map encInstV)) :
    Calls Tryz.prog 91 #[.slice A l.length c, .int .i64 id] w fun e w' => e = .returned (.tuple #[.agg #[.int .i64 (findInstV l id).1.id, .int .i64 (findInstV l id).1.mult, .int .i64 (findInstV l id).1.price, .int .i64 (findInstV l id).1.next, .slice (findInstV l id).1.moves.A (findInstV l id).1.moves.val.length (findInstV l id).1.moves.c], .bool (findInstV l id).2]) ∧ Below w.heap.size w w' := by
  have Hr := Lib.hid hr
  clear hr
  go_enter Tryz.func91, Tryz.ntmps91
  go_wp2_with fail
  go_loopw [6] (fun i wr => ∃ k : Nat, k ≤ l.length ∧ i = .int .i64 k ∧ Below w.heap.size w wr ∧ (wr.cell? ⟨w.heap.size, 0, none⟩ = some (.int .i64 0) ∧ wr.cell? ⟨w.heap.size, 1, none⟩ = some (.int .i64 0) ∧ wr.cell? ⟨w.heap.size, 2, none⟩ = some (.int .i64 0) ∧ wr.cell? ⟨w.heap.size, 3, none⟩ = some (.int .i64 0) ∧ wr.cell? ⟨w.heap.size, 4, none⟩ = some (.slice none 0 0) ∧ wr.frozen? ⟨w.heap.size, 0, none⟩ = false ∧ wr.frozen? ⟨w.heap.size, 1, none⟩ = false ∧ wr.frozen? ⟨w.heap.size, 2, none⟩ = false ∧ wr.frozen? ⟨w.heap.size, 3, none⟩ = false ∧ wr.frozen? ⟨w.heap.size, 4, none⟩ = false) ∧ ∀ j (_ : j < l.length), j < k → (l[j].id == id) = false) (fun i _ => l.length - (intOf i).toNat)
  case atStart => exact ⟨0, Nat.zero_le _, rfl, by (repeat' (first | (with_reducible exact Below.refl _ _) | (with_reducible assumption) | (with_reducible refine Below.alloc ?_ ?_ _) | (with_reducible refine Below.setCell ?_ ?_ _) | (with_reducible refine Below.drew ?_) | (with_reducible refine below_drewN ?_ _) | (with_reducible refine below_via ?_ (by with_reducible assumption) ?_) | omega | (simp; done) | (simp; omega))), by simp [go_sem], fun j _ h => absurd h (by omega)⟩
  case round =>
    obtain ⟨k, hk, rfl, hbl, ⟨g0, g1, g2, g3, g4, f0, f1, f2, f3, f4⟩, hno⟩ := hrel
    have Hbl := Lib.hid hbl
    have Hno := Lib.hid hno
    have hz := hbl.size
    clear hbl hno
    by_cases hlt : k < l.length
    · obtain ⟨b, o, rfl, hb, hc⟩ := Hr.out k (encInstV l[k]) (by simp [hlt])
      have c0 := (Hbl.out.cell (p := ⟨b, o + k * 5 + 0, none⟩) hb).trans (hc 0 _ rfl)
      have c1 := (Hbl.out.cell (p := ⟨b, o + k * 5 + 1, none⟩) hb).trans (hc 1 _ rfl)
      have c2 := (Hbl.out.cell (p := ⟨b, o + k * 5 + 2, none⟩) hb).trans (hc 2 _ rfl)
      have c3 := (Hbl.out.cell (p := ⟨b, o + k * 5 + 3, none⟩) hb).trans (hc 3 _ rfl)
      have c4 := (Hbl.out.cell (p := ⟨b, o + k * 5 + 4, none⟩) hb).trans (hc 4 _ rfl)
      simp only [Nat.add_zero] at c0
      clear hc
      cases hm : (l[k].id == id)
      · have Hm := Lib.hid hm
        go_wp2_with fail
        go_roundw
        case rel => exact ⟨k + 1, by omega, by go_num, Hbl.out, ⟨g0, g1, g2, g3, g4, f0, f1, f2, f3, f4⟩, fun j hj h => by
          rcases Nat.lt_or_ge j k with h1 | h1
          · exact Hno.out j hj h1
          · obtain rfl : j = k := by omega
            exact Hm.out⟩
        case measure => simp [intOf]; omega
      · have hi := findInstV_hit hlt hm Hno.out
        have Hi := Lib.hid hi
        clear hi
        go_wp2_with fail
        rw [Hi.out]
        have hbl := Hbl.out
        refine bodyPost_ret (by simp [results, Tryz.results91, go_sem, g0, g1, g2, g3, g4]; try rfl) rfl ⟨rfl, ?_⟩
        (repeat' (first | (with_reducible exact Below.refl _ _) | (with_reducible assumption) | (with_reducible refine Below.alloc ?_ ?_ _) | (with_reducible refine Below.setCell ?_ ?_ _) | (with_reducible refine Below.drew ?_) | (with_reducible refine below_drewN ?_ _) | (with_reducible refine below_via ?_ (by with_reducible assumption) ?_) | omega | (simp; done) | (simp; omega)))
    · have hi := findInstV_miss (l := l) (fun j hj => Hno.out j hj (by omega))
      have Hi := Lib.hid hi
      clear hi
      go_wp2_with fail
      rw [Hi.out]
      have hbl := Hbl.out
      refine bodyPost_ret (by simp [results, Tryz.results91, go_sem, g0, g1, g2, g3, g4]; try rfl) rfl ⟨rfl, ?_⟩
      (repeat' (first | (with_reducible exact Below.refl _ _) | (with_reducible assumption) | (with_reducible refine Below.alloc ?_ ?_ _) | (with_reducible refine Below.setCell ?_ ?_ _) | (with_reducible refine Below.drew ?_) | (with_reducible refine below_drewN ?_ _) | (with_reducible refine below_via ?_ (by with_reducible assumption) ?_) | omega | (simp; done) | (simp; omega)))
set_option maxRecDepth 100000 in
set_option maxHeartbeats 4000000 in
theorem ref13Put (ob : Bool) (l : List InstV) (m : InstV) (A : Option Addr) (c : Nat) (w : World) (hl : l.length ≤ 1048576) (hr : Rs w 5 (l.map encInstV) A c) (hform : (A = none ∧ l = [] ∧ c = 0) ∨ ∃ b o, A = some ⟨b, o, none⟩)
    (c1 : ∀ W, Below w.heap.size w W → Calls Tryz.prog 90 #[.agg #[.int .i64 m.id, .int .i64 m.mult, .int .i64 m.price, .int .i64 m.next, .slice m.moves.A m.moves.val.length m.moves.c]] W fun e w' => e = .returned (.bool ob) ∧ Below W.heap.size W w') :
    Calls Tryz.prog 73 #[.slice A l.length c, .agg #[.int .i64 m.id, .int .i64 m.mult, .int .i64 m.price, .int .i64 m.next, .slice m.moves.A m.moves.val.length m.moves.c]] w (PutInstVPost ob w l m) := by
  have HR := Lib.hid hr
  have HFO := Lib.hid hform
  have hlc := hr.cap
  have hcm := hr.room
  rw [List.length_map] at hlc
  have c2 := fun W (h : Rd W A 5 (l.map encInstV)) => ref13Find l m.id A c W (by omega) h
  cases ob
  · have hp : putInstVL false l m = [] := by unfold putInstVL; rw [if_neg (fun h => by cases h.1)]
    have hq : putInstVC false l m = 2 := rfl
    have HP := Lib.hid hp
    have HQ := Lib.hid hq
    have C1 := Lib.hid c1
    clear hr c1 c2 hp hq hform hcm hlc
    go_enter Tryz.func73, Tryz.ntmps73
    go_wp2_with (go_at_call 90; (with_reducible refine (C1.out _ (by (repeat' (first | (with_reducible exact Below.refl _ _) | (with_reducible assumption) | (with_reducible refine Below.alloc ?_ ?_ _) | (with_reducible refine Below.setCell ?_ ?_ _) | (with_reducible refine Below.drew ?_) | (with_reducible refine below_drewN ?_ _) | (with_reducible refine below_via ?_ (by with_reducible assumption) ?_) | omega | (simp; done) | (simp; omega))))).mono ?_); rintro e w1 ⟨rfl, hb1⟩; obtain ⟨fc1, fg1, hc1, hf1, hz1⟩ := bget hb1; try simp at hz1)
    go_ret2
    exact ⟨_, by rw [HQ.out]; rfl, by rw [HP.out]; exact Own.nil _ _ _ _, by (repeat' (first | (with_reducible exact Below.refl _ _) | (with_reducible assumption) | (with_reducible refine Below.alloc ?_ ?_ _) | (with_reducible refine Below.setCell ?_ ?_ _) | (with_reducible refine Below.drew ?_) | (with_reducible refine below_drewN ?_ _) | (with_reducible refine below_via ?_ (by with_reducible assumption) ?_) | omega | (simp; done) | (simp; omega)))⟩
  cases hf : (findInstV l m.id).2
  rotate_left
  · rw [hf] at c2
    have hp : putInstVL true l m = [] := by unfold putInstVL; rw [hf, if_neg (by simp)]
    have hq : putInstVC true l m = 12 := by unfold putInstVC; rw [hf]; rfl
    have HP := Lib.hid hp
    have HQ := Lib.hid hq
    have C1 := Lib.hid c1
    have C2 := Lib.hid c2
    clear hr c1 c2 hp hq hf hform hcm hlc
    go_enter Tryz.func73, Tryz.ntmps73
    go_wp2_with (first | (go_at_call 90; (with_reducible refine (C1.out _ (by (repeat' (first | (with_reducible exact Below.refl _ _) | (with_reducible assumption) | (with_reducible refine Below.alloc ?_ ?_ _) | (with_reducible refine Below.setCell ?_ ?_ _) | (with_reducible refine Below.drew ?_) | (with_reducible refine below_drewN ?_ _) | (with_reducible refine below_via ?_ (by with_reducible assumption) ?_) | omega | (simp; done) | (simp; omega))))).mono ?_); rintro e w1 ⟨rfl, hb1⟩; obtain ⟨fc1, fg1, hc1, hf1, hz1⟩ := bget hb1; try simp at hz1) | (go_at_call 91; (with_reducible refine (C2.out _ (HR.out.rd.keep (by (repeat' (first | (with_reducible exact Below.refl _ _) | (with_reducible assumption) | (with_reducible refine Below.alloc ?_ ?_ _) | (with_reducible refine Below.setCell ?_ ?_ _) | (with_reducible refine Below.drew ?_) | (with_reducible refine below_drewN ?_ _) | (with_reducible refine below_via ?_ (by with_reducible assumption) ?_) | omega | (simp; done) | (simp; omega)))))).mono ?_); rintro e w2 ⟨rfl, hb2⟩; obtain ⟨fc2, fg2, hc2, hf2, hz2⟩ := bget hb2; try simp at hz2) | fail)
    go_ret2
    exact ⟨_, by rw [HQ.out]; rfl, by rw [HP.out]; exact Own.nil _ _ _ _, by (repeat' (first | (with_reducible exact Below.refl _ _) | (with_reducible assumption) | (with_reducible refine Below.alloc ?_ ?_ _) | (with_reducible refine Below.setCell ?_ ?_ _) | (with_reducible refine Below.drew ?_) | (with_reducible refine below_drewN ?_ _) | (with_reducible refine below_via ?_ (by with_reducible assumption) ?_) | omega | (simp; done) | (simp; omega)))⟩
  rw [hf] at c2
  have hp : putInstVL true l m = insInstV l m := by unfold putInstVL; rw [hf, if_pos ⟨rfl, rfl⟩]
  have hq : putInstVC true l m = 0 := by unfold putInstVC; rw [hf]; rfl
  have HP := Lib.hid hp
  have HQ := Lib.hid hq
  have C1 := Lib.hid c1
  have C2 := Lib.hid c2
  clear hr c1 c2 hp hq hf hform
  rcases HFO.out with ⟨rfl, rfl, rfl⟩ | ⟨b, o, rfl⟩
  · have c2' := C2.out
    simp only [List.length_nil] at c2'
    have C2' := Lib.hid c2'
    clear c2' C2
    go_enter Tryz.func73, Tryz.ntmps73
    go_wp2_with (first | (go_at_call 90; (with_reducible refine (C1.out _ (by (repeat' (first | (with_reducible exact Below.refl _ _) | (with_reducible assumption) | (with_reducible refine Below.alloc ?_ ?_ _) | (with_reducible refine Below.setCell ?_ ?_ _) | (with_reducible refine Below.drew ?_) | (with_reducible refine below_drewN ?_ _) | (with_reducible refine below_via ?_ (by with_reducible assumption) ?_) | omega | (simp; done) | (simp; omega))))).mono ?_); rintro e w1 ⟨rfl, hb1⟩; obtain ⟨fc1, fg1, hc1, hf1, hz1⟩ := bget hb1; try simp at hz1) | (go_at_call 91; (with_reducible refine (C2'.out _ (HR.out.rd.keep (by (repeat' (first | (with_reducible exact Below.refl _ _) | (with_reducible assumption) | (with_reducible refine Below.alloc ?_ ?_ _) | (with_reducible refine Below.setCell ?_ ?_ _) | (with_reducible refine Below.drew ?_) | (with_reducible refine below_drewN ?_ _) | (with_reducible refine below_via ?_ (by with_reducible assumption) ?_) | omega | (simp; done) | (simp; omega)))))).mono ?_); rintro e w2 ⟨rfl, hb2⟩; obtain ⟨fc2, fg2, hc2, hf2, hz2⟩ := bget hb2; try simp at hz2) | fail)
    refine wp_loop_rounds 1 ?_
    rw [rounds_succ]
    go_wp2_with fail
    go_quiet (fail)
    go_wp2_with (first | (at_builtin; refine wpList_app rfl _ _ _ rfl elInstV w2.heap.size _ [] rfl (Own.nil _ _ _ _) none 0 0 rfl [] rfl (fun _ => rfl) (fun i r h => by simp at h) (fun r h => by simp at h) (by unfold maxLen; simp) (by simp) (by first | omega | (simp; done) | (simp; omega)) ?_; intro v1 w3 hown1 hb3; obtain ⟨fc3, fg3, hc3, hf3, hz3⟩ := bget hb3; (try simp at hz3)) | (at_builtin; refine wpList_app rfl _ _ _ rfl elInstV w2.heap.size _ _ rfl (hown1.alloc _) (some ⟨w3.heap.size, 0, none⟩) 1 1 rfl [encInstV m] rfl (fun h => by cases h) rd_one (rowsInstV [m]) (by unfold maxLen; simp) (by simp) (by first | omega | (simp; done) | (simp; omega)) ?_; intro v2 w4 hown2 hb4; obtain ⟨fc4, fg4, hc4, hf4, hz4⟩ := bget hb4; (try simp at hz4)) | (at_builtin; refine wpList_app rfl _ _ _ rfl elInstV w2.heap.size _ _ rfl hown2 none 0 0 rfl [] rfl (fun _ => rfl) (fun i r h => by simp at h) (fun r h => by simp at h) (by unfold maxLen; simp) (by simp) (by first | omega | (simp; done) | (simp; omega)) ?_; intro v3 w5 hown3 hb5) | fail)
    go_ret2
    exact ⟨_, by rw [HQ.out]; rfl, by rw [HP.out]; exact (by simpa [insInstV] using hown3.mono (by first | omega | (simp; done) | (simp; omega))), by (repeat' (first | (with_reducible exact Below.refl _ _) | (with_reducible assumption) | (with_reducible refine Below.alloc ?_ ?_ _) | (with_reducible refine Below.setCell ?_ ?_ _) | (with_reducible refine Below.drew ?_) | (with_reducible refine below_drewN ?_ _) | (with_reducible refine below_via ?_ (by with_reducible assumption) ?_) | omega | (simp; done) | (simp; omega)))⟩
  · have HF := Lib.hid HR.out.rd
    go_enter Tryz.func73, Tryz.ntmps73
    go_wp2_with (first | (go_at_call 90; (with_reducible refine (C1.out _ (by (repeat' (first | (with_reducible exact Below.refl _ _) | (with_reducible assumption) | (with_reducible refine Below.alloc ?_ ?_ _) | (with_reducible refine Below.setCell ?_ ?_ _) | (with_reducible refine Below.drew ?_) | (with_reducible refine below_drewN ?_ _) | (with_reducible refine below_via ?_ (by with_reducible assumption) ?_) | omega | (simp; done) | (simp; omega))))).mono ?_); rintro e w1 ⟨rfl, hb1⟩; obtain ⟨fc1, fg1, hc1, hf1, hz1⟩ := bget hb1; try simp at hz1) | (go_at_call 91; (with_reducible refine (C2.out _ (HR.out.rd.keep (by (repeat' (first | (with_reducible exact Below.refl _ _) | (with_reducible assumption) | (with_reducible refine Below.alloc ?_ ?_ _) | (with_reducible refine Below.setCell ?_ ?_ _) | (with_reducible refine Below.drew ?_) | (with_reducible refine below_drewN ?_ _) | (with_reducible refine below_via ?_ (by with_reducible assumption) ?_) | omega | (simp; done) | (simp; omega)))))).mono ?_); rintro e w2 ⟨rfl, hb2⟩; obtain ⟨fc2, fg2, hc2, hf2, hz2⟩ := bget hb2; try simp at hz2) | fail)
    go_loopw [9] (fun i wr => ∃ k : Nat, k ≤ l.length ∧ i = .int .i64 k ∧ Below w.heap.size w wr ∧ w.heap.size < wr.heap.size ∧ (wr.cell? ⟨w.heap.size, 0, none⟩ = some (.int .i64 m.id) ∧ wr.cell? ⟨w.heap.size, 1, none⟩ = some (.int .i64 m.mult) ∧ wr.cell? ⟨w.heap.size, 2, none⟩ = some (.int .i64 m.price) ∧ wr.cell? ⟨w.heap.size, 3, none⟩ = some (.int .i64 m.next) ∧ wr.cell? ⟨w.heap.size, 4, none⟩ = some (.slice m.moves.A m.moves.val.length m.moves.c)) ∧ ∀ j (_ : j < l.length), j < k → decide (l[j].id < m.id) = true) (fun i _ => l.length - (intOf i).toNat)
    case atStart => exact ⟨0, Nat.zero_le _, rfl, by (repeat' (first | (with_reducible exact Below.refl _ _) | (with_reducible assumption) | (with_reducible refine Below.alloc ?_ ?_ _) | (with_reducible refine Below.setCell ?_ ?_ _) | (with_reducible refine Below.drew ?_) | (with_reducible refine below_drewN ?_ _) | (with_reducible refine below_via ?_ (by with_reducible assumption) ?_) | omega | (simp; done) | (simp; omega))), (by first | omega | (simp; done) | (simp; omega)), by simp [go_sem, hc1, hc2, ↓IntWalk.iteOmega], fun j _ h => absurd h (by omega)⟩
    case round =>
      obtain ⟨k, hk, rfl, hbl, hsz, ⟨g0, g1, g2, g3, g4⟩, hno⟩ := hrel
      have Hbl := Lib.hid hbl
      have Hno := Lib.hid hno
      have hz := hbl.size
      clear hbl hno
      have kl : (k : Int) ≤ (l.length : Int) := by omega
      by_cases hlt : k < l.length
      · obtain ⟨b', o', e, hb, hc⟩ := HF.out k (encInstV l[k]) (by simp [hlt])
        injection e with e
        injection e with e1 e2 _
        subst e1 e2
        have c0 := (Hbl.out.cell (p := ⟨b, o + k * 5 + 0, none⟩) hb).trans (hc 0 _ rfl)
        simp only [Nat.add_zero] at c0
        clear hc
        have hck : ¬ c = k := by omega
        have hck' : ¬ k = c := by omega
        have kl' : (k : Int) < (l.length : Int) := by omega
        cases hm : decide (l[k].id < m.id)
        · have hw := while_cut (p := fun x : InstV => decide (x.id < m.id)) Hno.out hk (fun _ => hm)
          have hin : insInstV l m = l.take k ++ [m] ++ l.drop k := by unfold insInstV; rw [hw.1, hw.2]; simp
          have HIN := Lib.hid hin
          clear hw hin
          go_wp2_with fail
          go_quiet (fail)
          go_wp2_with (first | (at_builtin; refine wpList_app rfl _ _ _ rfl elInstV wr.heap.size _ [] rfl (Own.nil _ _ _ _) (some ⟨b, o, none⟩) k _ rfl ((l.take k).map encInstV) (by simp; omega) (fun h => by cases h) (by rw [List.map_take]; exact rd_take' (HF.out.keep (by have hbl := Hbl.out; (repeat' (first | (with_reducible exact Below.refl _ _) | (with_reducible assumption) | (with_reducible refine Below.alloc ?_ ?_ _) | (with_reducible refine Below.setCell ?_ ?_ _) | (with_reducible refine Below.drew ?_) | (with_reducible refine below_drewN ?_ _) | (with_reducible refine below_via ?_ (by with_reducible assumption) ?_) | omega | (simp; done) | (simp; omega))))) k) (rowsInstV _) (by unfold maxLen; simp; omega) (by simp; omega) (by first | omega | (simp; done) | (simp; omega)) ?_; intro v1 w3 hown1 hb3; obtain ⟨fc3, fg3, hc3, hf3, hz3⟩ := bget hb3; (try simp at hz3)) | (at_builtin; refine wpList_app rfl _ _ _ rfl elInstV wr.heap.size _ _ rfl (hown1.alloc _) (some ⟨w3.heap.size, 0, none⟩) 1 1 rfl [encInstV m] rfl (fun h => by cases h) rd_one (rowsInstV [m]) (by unfold maxLen; simp; omega) (by simp; omega) (by first | omega | (simp; done) | (simp; omega)) ?_; intro v2 w4 hown2 hb4; obtain ⟨fc4, fg4, hc4, hf4, hz4⟩ := bget hb4; (try simp at hz4)) | (at_builtin; refine wpList_app rfl _ _ _ rfl elInstV wr.heap.size _ _ rfl hown2 (some ⟨b, o + k * 5, none⟩) (l.length - k) (c - k) rfl ((l.drop k).map encInstV) (by simp) (fun h => by cases h) (by rw [List.map_drop]; exact rd_dropR (HF.out.keep (by have hbl := Hbl.out; (repeat' (first | (with_reducible exact Below.refl _ _) | (with_reducible assumption) | (with_reducible refine Below.alloc ?_ ?_ _) | (with_reducible refine Below.setCell ?_ ?_ _) | (with_reducible refine Below.drew ?_) | (with_reducible refine below_drewN ?_ _) | (with_reducible refine below_via ?_ (by with_reducible assumption) ?_) | omega | (simp; done) | (simp; omega))))) k) (rowsInstV _) (by unfold maxLen; simp; omega) (by simp; omega) (by first | omega | (simp; done) | (simp; omega)) ?_; intro v3 w5 hown3 hb5) | (at_builtin; refine wpList_app rfl _ _ _ rfl elInstV wr.heap.size _ _ rfl hown2 (some ⟨b, o, none⟩) 0 0 rfl [] rfl (fun h => by cases h) (fun i r h => by simp at h) (fun r h => by simp at h) (by unfold maxLen; simp; omega) (by simp; omega) (by first | omega | (simp; done) | (simp; omega)) ?_; intro v3 w5 hown3 hb5) | fail)
          go_ret2
          exact ⟨_, by rw [HQ.out]; rfl, by rw [HP.out, HIN.out]; exact (by simpa using hown3.mono (by first | omega | (simp; done) | (simp; omega))), by have hbl := Hbl.out; (repeat' (first | (with_reducible exact Below.refl _ _) | (with_reducible assumption) | (with_reducible refine Below.alloc ?_ ?_ _) | (with_reducible refine Below.setCell ?_ ?_ _) | (with_reducible refine Below.drew ?_) | (with_reducible refine below_drewN ?_ _) | (with_reducible refine below_via ?_ (by with_reducible assumption) ?_) | omega | (simp; done) | (simp; omega)))⟩
        · have Hm := Lib.hid hm
          go_wp2_with fail
          go_quiet (fail)
          go_wp2_with fail
          go_roundw
          case rel => exact ⟨k + 1, by omega, by go_num, by have hbl := Hbl.out; (repeat' (first | (with_reducible exact Below.refl _ _) | (with_reducible assumption) | (with_reducible refine Below.alloc ?_ ?_ _) | (with_reducible refine Below.setCell ?_ ?_ _) | (with_reducible refine Below.drew ?_) | (with_reducible refine below_drewN ?_ _) | (with_reducible refine below_via ?_ (by with_reducible assumption) ?_) | omega | (simp; done) | (simp; omega))), by simpa using hsz, by simp [go_sem, g0, g1, g2, g3, g4], fun j hj h => by
            rcases Nat.lt_or_ge j k with h1 | h1
            · exact Hno.out j hj h1
            · obtain rfl : j = k := by omega
              exact Hm.out⟩
          case measure => simp [intOf]; omega
      · have hw := while_cut (p := fun x : InstV => decide (x.id < m.id)) Hno.out hk (fun h => absurd h hlt)
        have hin : insInstV l m = l.take k ++ [m] ++ l.drop k := by unfold insInstV; rw [hw.1, hw.2]; simp
        have HIN := Lib.hid hin
        clear hw hin
        have hd : decide ((k : Int) < (l.length : Int)) = false := by simp; omega
        by_cases hck : c = k
        · obtain rfl : k = c := hck.symm
          go_wp2_with fail
          go_quiet (fail)
          go_wp2_with (first | (at_builtin; refine wpList_app rfl _ _ _ rfl elInstV wr.heap.size _ [] rfl (Own.nil _ _ _ _) (some ⟨b, o, none⟩) k _ rfl ((l.take k).map encInstV) (by simp; omega) (fun h => by cases h) (by rw [List.map_take]; exact rd_take' (HF.out.keep (by have hbl := Hbl.out; (repeat' (first | (with_reducible exact Below.refl _ _) | (with_reducible assumption) | (with_reducible refine Below.alloc ?_ ?_ _) | (with_reducible refine Below.setCell ?_ ?_ _) | (with_reducible refine Below.drew ?_) | (with_reducible refine below_drewN ?_ _) | (with_reducible refine below_via ?_ (by with_reducible assumption) ?_) | omega | (simp; done) | (simp; omega))))) k) (rowsInstV _) (by unfold maxLen; simp; omega) (by simp; omega) (by first | omega | (simp; done) | (simp; omega)) ?_; intro v1 w3 hown1 hb3; obtain ⟨fc3, fg3, hc3, hf3, hz3⟩ := bget hb3; (try simp at hz3)) | (at_builtin; refine wpList_app rfl _ _ _ rfl elInstV wr.heap.size _ _ rfl (hown1.alloc _) (some ⟨w3.heap.size, 0, none⟩) 1 1 rfl [encInstV m] rfl (fun h => by cases h) rd_one (rowsInstV [m]) (by unfold maxLen; simp; omega) (by simp; omega) (by first | omega | (simp; done) | (simp; omega)) ?_; intro v2 w4 hown2 hb4; obtain ⟨fc4, fg4, hc4, hf4, hz4⟩ := bget hb4; (try simp at hz4)) | (at_builtin; refine wpList_app rfl _ _ _ rfl elInstV wr.heap.size _ _ rfl hown2 (some ⟨b, o + k * 5, none⟩) (l.length - k) (c - k) rfl ((l.drop k).map encInstV) (by simp) (fun h => by cases h) (by rw [List.map_drop]; exact rd_dropR (HF.out.keep (by have hbl := Hbl.out; (repeat' (first | (with_reducible exact Below.refl _ _) | (with_reducible assumption) | (with_reducible refine Below.alloc ?_ ?_ _) | (with_reducible refine Below.setCell ?_ ?_ _) | (with_reducible refine Below.drew ?_) | (with_reducible refine below_drewN ?_ _) | (with_reducible refine below_via ?_ (by with_reducible assumption) ?_) | omega | (simp; done) | (simp; omega))))) k) (rowsInstV _) (by unfold maxLen; simp; omega) (by simp; omega) (by first | omega | (simp; done) | (simp; omega)) ?_; intro v3 w5 hown3 hb5) | (at_builtin; refine wpList_app rfl _ _ _ rfl elInstV wr.heap.size _ _ rfl hown2 (some ⟨b, o, none⟩) 0 0 rfl [] rfl (fun h => by cases h) (fun i r h => by simp at h) (fun r h => by simp at h) (by unfold maxLen; simp; omega) (by simp; omega) (by first | omega | (simp; done) | (simp; omega)) ?_; intro v3 w5 hown3 hb5) | fail)
          go_ret2
          exact ⟨_, by rw [HQ.out]; rfl, by rw [HP.out, HIN.out, List.drop_eq_nil_of_le (show l.length ≤ k from by omega)]; exact (by simpa using hown3.mono (by first | omega | (simp; done) | (simp; omega))), by have hbl := Hbl.out; (repeat' (first | (with_reducible exact Below.refl _ _) | (with_reducible assumption) | (with_reducible refine Below.alloc ?_ ?_ _) | (with_reducible refine Below.setCell ?_ ?_ _) | (with_reducible refine Below.drew ?_) | (with_reducible refine below_drewN ?_ _) | (with_reducible refine below_via ?_ (by with_reducible assumption) ?_) | omega | (simp; done) | (simp; omega)))⟩
        · have hck' : ¬ k = c := fun h => hck h.symm
          go_wp2_with fail
          go_quiet (fail)
          go_wp2_with (first | (at_builtin; refine wpList_app rfl _ _ _ rfl elInstV wr.heap.size _ [] rfl (Own.nil _ _ _ _) (some ⟨b, o, none⟩) k _ rfl ((l.take k).map encInstV) (by simp; omega) (fun h => by cases h) (by rw [List.map_take]; exact rd_take' (HF.out.keep (by have hbl := Hbl.out; (repeat' (first | (with_reducible exact Below.refl _ _) | (with_reducible assumption) | (with_reducible refine Below.alloc ?_ ?_ _) | (with_reducible refine Below.setCell ?_ ?_ _) | (with_reducible refine Below.drew ?_) | (with_reducible refine below_drewN ?_ _) | (with_reducible refine below_via ?_ (by with_reducible assumption) ?_) | omega | (simp; done) | (simp; omega))))) k) (rowsInstV _) (by unfold maxLen; simp; omega) (by simp; omega) (by first | omega | (simp; done) | (simp; omega)) ?_; intro v1 w3 hown1 hb3; obtain ⟨fc3, fg3, hc3, hf3, hz3⟩ := bget hb3; (try simp at hz3)) | (at_builtin; refine wpList_app rfl _ _ _ rfl elInstV wr.heap.size _ _ rfl (hown1.alloc _) (some ⟨w3.heap.size, 0, none⟩) 1 1 rfl [encInstV m] rfl (fun h => by cases h) rd_one (rowsInstV [m]) (by unfold maxLen; simp; omega) (by simp; omega) (by first | omega | (simp; done) | (simp; omega)) ?_; intro v2 w4 hown2 hb4; obtain ⟨fc4, fg4, hc4, hf4, hz4⟩ := bget hb4; (try simp at hz4)) | (at_builtin; refine wpList_app rfl _ _ _ rfl elInstV wr.heap.size _ _ rfl hown2 (some ⟨b, o + k * 5, none⟩) (l.length - k) (c - k) rfl ((l.drop k).map encInstV) (by simp) (fun h => by cases h) (by rw [List.map_drop]; exact rd_dropR (HF.out.keep (by have hbl := Hbl.out; (repeat' (first | (with_reducible exact Below.refl _ _) | (with_reducible assumption) | (with_reducible refine Below.alloc ?_ ?_ _) | (with_reducible refine Below.setCell ?_ ?_ _) | (with_reducible refine Below.drew ?_) | (with_reducible refine below_drewN ?_ _) | (with_reducible refine below_via ?_ (by with_reducible assumption) ?_) | omega | (simp; done) | (simp; omega))))) k) (rowsInstV _) (by unfold maxLen; simp; omega) (by simp; omega) (by first | omega | (simp; done) | (simp; omega)) ?_; intro v3 w5 hown3 hb5) | (at_builtin; refine wpList_app rfl _ _ _ rfl elInstV wr.heap.size _ _ rfl hown2 (some ⟨b, o, none⟩) 0 0 rfl [] rfl (fun h => by cases h) (fun i r h => by simp at h) (fun r h => by simp at h) (by unfold maxLen; simp; omega) (by simp; omega) (by first | omega | (simp; done) | (simp; omega)) ?_; intro v3 w5 hown3 hb5) | fail)
          go_ret2
          exact ⟨_, by rw [HQ.out]; rfl, by rw [HP.out, HIN.out]; exact (by simpa using hown3.mono (by first | omega | (simp; done) | (simp; omega))), by have hbl := Hbl.out; (repeat' (first | (with_reducible exact Below.refl _ _) | (with_reducible assumption) | (with_reducible refine Below.alloc ?_ ?_ _) | (with_reducible refine Below.setCell ?_ ?_ _) | (with_reducible refine Below.drew ?_) | (with_reducible refine below_drewN ?_ _) | (with_reducible refine below_via ?_ (by with_reducible assumption) ?_) | omega | (simp; done) | (simp; omega)))⟩
theorem own_formInstV {w : World} {base : Nat} {v : Value} {l : List InstV} (h : Own w base 91 5 v (l.map encInstV)) : ∃ A c, v = .slice A l.length c ∧ Rs w 5 (l.map encInstV) A c ∧ ((A = none ∧ l = [] ∧ c = 0) ∨ ∃ b o, A = some ⟨b, o, none⟩) := by
  obtain ⟨A, c, h1, h2, h3⟩ := h.rs
  rw [List.length_map] at h1
  refine ⟨A, c, h1, h2, ?_⟩
  rcases h3 with ⟨ha, hr, hc⟩ | ⟨g, ha, _⟩
  · exact .inl ⟨ha, List.map_eq_nil_iff.1 hr, hc⟩
  · exact .inr ⟨g, 0, ha⟩
set_option maxRecDepth 100000 in
set_option maxHeartbeats 4000000 in
theorem ref13Table (okf : InstV → Bool) (l : List InstV) (A : Option Addr) (c : Nat) (w : World) (hl : l.length ≤ maxLen) (hr : Rd w A 5 (l.map encInstV))
    (his : ∀ m ∈ l, ∀ W, Below w.heap.size w W → Calls Tryz.prog 90 #[.agg #[.int .i64 m.id, .int .i64 m.mult, .int .i64 m.price, .int .i64 m.next, .slice m.moves.A m.moves.val.length m.moves.c]] W fun e w' => e = .returned (.bool (okf m)) ∧ Below W.heap.size W w') :
    Calls Tryz.prog 40 #[.slice A l.length c] w fun e w' => ∃ v, e = .returned v ∧ Own w' w.heap.size 91 5 v ((tabInstVN okf l 10).map encInstV) ∧ Below w.heap.size w w' := by
  have HR := Lib.hid hr
  have HIS := Lib.hid his
  have hml : (l.length : Int) ≤ 9223372036854775807 := by unfold maxLen at hl; omega
  clear hr hl his
  go_enter Tryz.func40, Tryz.ntmps40
  go_wp2_with fail
  go_loopw [3, 4] (fun v i wr => ∃ k : Nat, k ≤ l.length ∧ k ≤ 10 ∧ i = .int .i64 k ∧ Own wr w.heap.size 91 5 v ((tabInstVN okf l k).map encInstV) ∧ Below w.heap.size w wr) (fun _ i _ => l.length - (intOf i).toNat)
  case atStart => exact ⟨0, Nat.zero_le _, Nat.zero_le _, rfl, Own.nil _ _ _ _, Below.refl _ _⟩
  case round =>
    obtain ⟨k, hk, hk10, rfl, hown, hbl⟩ := hrel
    have Hbl := Lib.hid hbl
    have Hown := Lib.hid hown
    have hz := hbl.size
    clear hbl hown
    by_cases hgo : k < l.length ∧ k < 10
    · obtain ⟨hlt, h10⟩ := hgo
      have kl : (k : Int) < (l.length : Int) := by omega
      have k10 : (k : Int) < 10 := by omega
      have d10 : decide ((k : Int) < 10) = true := by simpa using k10
      obtain ⟨A1, c1, hv1, hms, hfo⟩ := own_formInstV Hown.out
      have Hms := Lib.hid hms
      have Hfo := Lib.hid hfo
      have hlen := tabInstVN_len okf l k
      subst hv1
      obtain ⟨b, o, rfl, hb, hc⟩ := HR.out k (encInstV l[k]) (by simp [hlt])
      have e0 := (Hbl.out.cell (p := ⟨b, o + k * 5 + 0, none⟩) hb).trans (hc 0 _ rfl)
      have e1 := (Hbl.out.cell (p := ⟨b, o + k * 5 + 1, none⟩) hb).trans (hc 1 _ rfl)
      have e2 := (Hbl.out.cell (p := ⟨b, o + k * 5 + 2, none⟩) hb).trans (hc 2 _ rfl)
      have e3 := (Hbl.out.cell (p := ⟨b, o + k * 5 + 3, none⟩) hb).trans (hc 3 _ rfl)
      have e4 := (Hbl.out.cell (p := ⟨b, o + k * 5 + 4, none⟩) hb).trans (hc 4 _ rfl)
      simp only [Nat.add_zero] at e0
      have hs := tabInstVN_succ (okf := okf) hlt
      have HS := Lib.hid hs
      have hst : stepInstV okf (tabInstVN okf l k) l[k] = if putInstVC (okf l[k]) (tabInstVN okf l k) l[k] = 0 then putInstVL (okf l[k]) (tabInstVN okf l k) l[k] else tabInstVN okf l k := rfl
      have HST := Lib.hid hst
      have HI := Lib.hid (fun W (h : Below wr.heap.size wr W) => HIS.out l[k] (List.getElem_mem hlt) W (Hbl.out.trans (h.mono hz)))
      clear hc hms hs hst hfo
      cases hq : (putInstVC (okf l[k]) (tabInstVN okf l k) l[k] == 0)
      · have HQ := Lib.hid (show ¬ putInstVC (okf l[k]) (tabInstVN okf l k) l[k] = 0 from by simpa using hq)
        go_wp2_with (go_at_call 73; (with_reducible refine (ref13Put (okf l[k]) (tabInstVN okf l k) l[k] A1 c1 _ (by omega) Hms.out Hfo.out HI.out).mono ?_); rintro e w1 ⟨v1, rfl, hown1, hb1⟩; have Hown1 := Lib.hid hown1; have Hb1 := Lib.hid hb1; have hz1 := hb1.size; clear hown1 hb1)
        go_roundw
        case rel => exact ⟨k + 1, by omega, by omega, by go_num, by rw [HS.out, HST.out, if_neg HQ.out]; exact Hown.out.keep Hb1.out, Hbl.out.trans (Hb1.out.mono hz)⟩
        case measure => simp [intOf]; omega
      · have HQ := Lib.hid (show putInstVC (okf l[k]) (tabInstVN okf l k) l[k] = 0 from by simpa using hq)
        go_wp2_with (go_at_call 73; (with_reducible refine (ref13Put (okf l[k]) (tabInstVN okf l k) l[k] A1 c1 _ (by omega) Hms.out Hfo.out HI.out).mono ?_); rintro e w1 ⟨v1, rfl, hown1, hb1⟩; have Hown1 := Lib.hid hown1; have Hb1 := Lib.hid hb1; have hz1 := hb1.size; clear hown1 hb1)
        go_roundw
        case rel => exact ⟨k + 1, by omega, by omega, by go_num, by rw [HS.out, HST.out, if_pos HQ.out]; exact Hown1.out.mono hz, Hbl.out.trans (Hb1.out.mono hz)⟩
        case measure => simp [intOf]; omega
    · have ht := tabInstV_at (okf := okf) (l := l) (k := k) (n := 10) (by omega)
      have HT := Lib.hid ht
      clear ht
      by_cases hlt : k < l.length
      · have d1 : decide ((k : Int) < (l.length : Int)) = true := by simpa using hlt
        have d2 : decide ((k : Int) < 10) = false := by simp; omega
        go_wp2_with fail
        go_ret
        exact ⟨_, rfl, by rw [← HT.out]; exact Hown.out, Hbl.out⟩
      · have d1 : decide ((k : Int) < (l.length : Int)) = false := by simpa using hlt
        go_wp2_with fail
        go_ret
        exact ⟨_, rfl, by rw [← HT.out]; exact Hown.out, Hbl.out⟩
end Go.Proofs.YtalgfpegaobacaaGreat

/- Instruments in tables: contracts of inst.own, copied, at. -/
namespace Go.Proofs.YtalgfpegaobacaaGreat
open Go.RowKit
theorem elJ : Elem Tryz.prog 68 2 1 8 := elem_of Tryz.underlying68 (z := .int .i64 0) (by kernel_rfl) rfl (by omega)
set_option maxRecDepth 100000 in
set_option maxHeartbeats 1000000 in
theorem intsClone (l : List Int) (A : Option Addr) (c : Nat) (w : World) (hl : l.length ≤ 1099511627776) (hr : Rs w 1 (l.map encI) A c) :
    Calls Tryz.prog 130 #[.slice A l.length c] w fun e w' => ∃ v, e = .returned v ∧ Own w' w.heap.size 2 1 v (l.map encI) ∧ Below w.heap.size w w' := by
  have Hr := Lib.hid hr
  have hnil := fun W : World => Lib.run_eql_slice_nil (P := Tryz.prog) W 68 2 A l.length c 0 0 Tryz.underlying68
  rcases A with _ | ad
  · have hl0 : l = [] := List.map_eq_nil_iff.1 hr.nilrows
    have hc0 : c = 0 := hr.nil rfl
    subst hl0 hc0
    simp only [List.length_nil] at hnil ⊢
    clear hr
    go_enter Tryz.func130, Tryz.ntmps130
    go_wp2_with fail
    go_ret
    exact ⟨_, rfl, Own.nil _ _ _ _, by (repeat' (first | (with_reducible exact Below.refl _ _) | (with_reducible assumption) | (with_reducible refine Below.alloc ?_ ?_ _) | (with_reducible refine Below.setCell ?_ ?_ _) | (with_reducible refine Below.drew ?_) | (with_reducible refine below_drewN ?_ _) | (with_reducible refine below_via ?_ (by with_reducible assumption) ?_) | omega | (simp; done) | (simp; omega)))⟩
  · clear hr
    go_enter Tryz.func130, Tryz.ntmps130
    go_wp2_with (at_builtin; refine wpList_app rfl _ _ _ rfl elJ w.heap.size _ [] rfl (Own.made w (Nat.le_refl _)) (some ad) l.length c rfl (l.map encI) (by simp) (fun h => by cases h) (Hr.out.keep ((Below.refl _ _).alloc (Nat.le_refl _) _)).rd (rowsJ l) (by unfold maxLen; simp; omega) (by simp; omega) (by simp) ?_; intro v' w3 hown3 hb3)
    go_ret
    exact ⟨v', rfl, by simpa using hown3, ((Below.refl _ _).alloc (Nat.le_refl _) _).trans hb3⟩
set_option maxRecDepth 100000 in
set_option maxHeartbeats 4000000 in
theorem instOwn (x : InstV) (w : World) (hl : x.moves.val.length ≤ 1048576) (hg : Rs w 1 (x.moves.val.map encI) x.moves.A x.moves.c) :
    Calls Tryz.prog 123 #[.agg #[.int .i64 x.id, .int .i64 x.mult, .int .i64 x.price, .int .i64 x.next, .slice x.moves.A x.moves.val.length x.moves.c]] w fun e w' => ∃ s : SlOf _, s.val = x.moves.val ∧ e = .returned (.agg #[.int .i64 x.id, .int .i64 x.mult, .int .i64 x.price, .int .i64 x.next, .slice s.A s.val.length s.c]) ∧ Own w' w.heap.size 2 1 (.slice s.A s.val.length s.c) (s.val.map encI) ∧ Below w.heap.size w w' := by
  have HG := Lib.hid hg
  clear hg
  go_enter Tryz.func123, Tryz.ntmps123
  go_wp2_with (first | (go_at_call 130; (with_reducible refine (intsClone x.moves.val x.moves.A x.moves.c _ (by omega) (HG.out.keep (by (repeat' (first | (with_reducible exact Below.refl _ _) | (with_reducible assumption) | (with_reducible refine Below.alloc ?_ ?_ _) | (with_reducible refine Below.setCell ?_ ?_ _) | (with_reducible refine Below.drew ?_) | (with_reducible refine below_drewN ?_ _) | (with_reducible refine below_via ?_ (by with_reducible assumption) ?_) | omega | (simp; done) | (simp; omega)))))).mono ?_); rintro e w3 ⟨v3, rfl, hown3, hb3⟩; obtain ⟨A3, c3, hv3, hrs3, hform3⟩ := hown3.rs; rw [List.length_map] at hv3; subst hv3; have HO3 := Lib.hid hown3; clear hown3 hrs3 hform3; obtain ⟨fc3, fg3, hc3, hf3, hz3⟩ := bget hb3; (try simp at hz3)) | fail)
  refine bodyPost_ret (v := .agg #[.int .i64 x.id, .int .i64 x.mult, .int .i64 x.price, .int .i64 x.next, .slice A3 x.moves.val.length c3]) (by simp [results, Tryz.results123, go_sem, hc3]; try rfl) rfl ⟨⟨A3, c3, x.moves.val⟩, rfl, rfl, ?_, ?_⟩
  · refine Own.mono (base := w.heap.size + 2) ?_ (by omega)
    have h0 := HO3.out.mono (b := w.heap.size + 2) (by simp)
    (repeat' (first | (with_reducible assumption) | (with_reducible refine Own.farLow ?_ ?_ _) | (simp; done) | omega))
  · (repeat' (first | (with_reducible exact Below.refl _ _) | (with_reducible assumption) | (with_reducible refine Below.alloc ?_ ?_ _) | (with_reducible refine Below.setCell ?_ ?_ _) | (with_reducible refine Below.drew ?_) | (with_reducible refine below_drewN ?_ _) | (with_reducible refine below_via ?_ (by with_reducible assumption) ?_) | omega | (simp; done) | (simp; omega)))
end Go.Proofs.YtalgfpegaobacaaGreat

/- Plain lists: where the first is, in two cases. -/
namespace Go.Proofs.YtalgfpegaobacaaGreat
theorem idxCases {α : Type} (p : α → Bool) (l : List α) : (∃ k, ∃ h : k < l.length, p l[k] = true ∧ (∀ j (_ : j < l.length), j < k → p l[j] = false) ∧ idxOf p l = k) ∨ ((∀ j (_ : j < l.length), p l[j] = false) ∧ idxOf p l = -1) := by
  unfold idxOf
  cases h : l.findIdx? p with
  | none =>
    right
    refine ⟨fun j hj => ?_, rfl⟩
    rw [List.findIdx?_eq_none_iff] at h
    exact h _ (List.getElem_mem hj)
  | some k =>
    left
    rw [List.findIdx?_eq_some_iff_getElem] at h
    obtain ⟨hk, h1, h2⟩ := h
    exact ⟨k, hk, h1, fun j hj hjk => by have := h2 j hjk; simpa using this, rfl⟩
end Go.Proofs.YtalgfpegaobacaaGreat

/- What a closure holds. No program in sight. -/
namespace Go.Proofs.YtalgfpegaobacaaGreat
open Go.RowKit
/-- What a closure holds of one variable: its cells. -/
def CapC (w : World) (g : Nat) (vs : List Value) : Prop := g < w.heap.size ∧ ∀ (j : Nat) (v : Value), vs[j]? = some v → w.cell? ⟨g, j, none⟩ = some v
theorem CapC.keep {w w' : World} {g : Nat} {vs : List Value} (h : CapC w g vs) (hb : Below w.heap.size w w') : CapC w' g vs := ⟨Nat.lt_of_lt_of_le h.1 hb.size, fun j v hv => cell_via hb h.1 (h.2 j v hv)⟩
end Go.Proofs.YtalgfpegaobacaaGreat

/- Instruments in tables: contracts of inst.at, Find, Put. -/
namespace Go.Proofs.YtalgfpegaobacaaGreat
open Go.RowKit
set_option maxRecDepth 100000 in
set_option maxHeartbeats 1000000 in
theorem instAtFn (x : InstV) (id : Int) (g : Nat) (w : World) (hcap : CapC w g [.int .i64 id]) :
    Calls Tryz.prog 129 #[.agg #[.int .i64 x.id, .int .i64 x.mult, .int .i64 x.price, .int .i64 x.next, .slice x.moves.A x.moves.val.length x.moves.c], .pointer (some ⟨g, 0, none⟩)] w fun e w' => e = .returned (.bool (x.id == id)) ∧ Below w.heap.size w w' := by
  have h0 := hcap.2 0 _ rfl
  have hg := hcap.1
  clear hcap
  go_enter Tryz.func129, Tryz.ntmps129
  go_wp2_with fail
  go_ret
  exact ⟨rfl, by (repeat' (first | (with_reducible exact Below.refl _ _) | (with_reducible assumption) | (with_reducible refine Below.alloc ?_ ?_ _) | (with_reducible refine Below.setCell ?_ ?_ _) | (with_reducible refine Below.drew ?_) | (with_reducible refine below_drewN ?_ _) | (with_reducible refine below_via ?_ (by with_reducible assumption) ?_) | omega | (simp; done) | (simp; omega)))⟩
set_option maxRecDepth 100000 in
set_option maxHeartbeats 1000000 in
theorem instAtIdx (l : List InstV) (id : Int) (A : Option Addr) (c g : Nat) (w : World) (hl : l.length ≤ 1099511627776) (hr : Rd w A 5 (l.map encInstV)) (hcap : CapC w g [.int .i64 id]) :
    Calls Tryz.prog 128 #[.slice A l.length c, .func (Fn.func 129) #[] #[.pointer (some ⟨g, 0, none⟩)]] w fun e w' => e = .returned (.int .i64 (idxOf (fun x : InstV => x.id == id) l)) ∧ Below w.heap.size w w' := by
  have Hr := Lib.hid hr
  have H0 := Lib.hid hcap
  clear hr hcap
  go_enter Tryz.func128, Tryz.ntmps128
  go_wp2_with fail
  go_loopw [8] (fun i wr => ∃ k : Nat, k ≤ l.length ∧ i = .int .i64 k ∧ Below w.heap.size w wr ∧ ∀ j (_ : j < l.length), j < k → (fun x : InstV => x.id == id) l[j] = false) (fun i _ => l.length - (intOf i).toNat)
  case atStart => exact ⟨0, Nat.zero_le _, rfl, Below.refl _ _, fun j _ h => absurd h (by omega)⟩
  case round =>
    obtain ⟨k, hk, rfl, hbl, hno⟩ := hrel
    have Hbl := Lib.hid hbl
    have Hno := Lib.hid hno
    have hz := hbl.size
    clear hbl hno
    by_cases hlt : k < l.length
    · obtain ⟨b, o, rfl, hb, hc⟩ := Hr.out k (encInstV l[k]) (by simp [hlt])
      have c0 := (Hbl.out.cell (p := ⟨b, o + k * 5 + 0, none⟩) hb).trans (hc 0 _ rfl)
      have c1 := (Hbl.out.cell (p := ⟨b, o + k * 5 + 1, none⟩) hb).trans (hc 1 _ rfl)
      have c2 := (Hbl.out.cell (p := ⟨b, o + k * 5 + 2, none⟩) hb).trans (hc 2 _ rfl)
      have c3 := (Hbl.out.cell (p := ⟨b, o + k * 5 + 3, none⟩) hb).trans (hc 3 _ rfl)
      have c4 := (Hbl.out.cell (p := ⟨b, o + k * 5 + 4, none⟩) hb).trans (hc 4 _ rfl)
      have H0' := Lib.hid (H0.out.keep Hbl.out)
      simp only [Nat.add_zero] at c0
      clear hc
      cases hm : (fun x : InstV => x.id == id) l[k]
      · have Hm := Lib.hid hm
        clear hm
        go_wp2_with (go_at_call 129; (with_reducible refine (instAtFn l[k] id g _ (H0'.out.keep (by (repeat' (first | (with_reducible exact Below.refl _ _) | (with_reducible assumption) | (with_reducible refine Below.alloc ?_ ?_ _) | (with_reducible refine Below.setCell ?_ ?_ _) | (with_reducible refine Below.drew ?_) | (with_reducible refine below_drewN ?_ _) | (with_reducible refine below_via ?_ (by with_reducible assumption) ?_) | omega | (simp; done) | (simp; omega)))))).mono ?_); rw [Hm.out]; rintro e w1 ⟨rfl, hb1⟩; have hz1 := hb1.size; have Hb1 := Lib.hid hb1; clear hb1)
        go_roundw
        case rel => exact ⟨k + 1, by omega, by go_num, Hbl.out.trans (Hb1.out.mono (by first | omega | (simp; done) | (simp; omega))), fun j hj h => by
          rcases Nat.lt_or_ge j k with h1 | h1
          · exact Hno.out j hj h1
          · obtain rfl : j = k := by omega
            exact Hm.out⟩
        case measure => simp [intOf]; omega
      · have hi := idx_hit (p := fun x : InstV => x.id == id) hlt hm Hno.out
        have Hi := Lib.hid hi
        have Hm := Lib.hid hm
        clear hm hi
        go_wp2_with (go_at_call 129; (with_reducible refine (instAtFn l[k] id g _ (H0'.out.keep (by (repeat' (first | (with_reducible exact Below.refl _ _) | (with_reducible assumption) | (with_reducible refine Below.alloc ?_ ?_ _) | (with_reducible refine Below.setCell ?_ ?_ _) | (with_reducible refine Below.drew ?_) | (with_reducible refine below_drewN ?_ _) | (with_reducible refine below_via ?_ (by with_reducible assumption) ?_) | omega | (simp; done) | (simp; omega)))))).mono ?_); rw [Hm.out]; rintro e w1 ⟨rfl, hb1⟩; have hz1 := hb1.size; have Hb1 := Lib.hid hb1; clear hb1)
        go_ret
        exact ⟨by rw [Hi.out]; rfl, Hbl.out.trans (Hb1.out.mono (by first | omega | (simp; done) | (simp; omega)))⟩
    · have hi := idx_miss (p := fun x : InstV => x.id == id) (l := l) (fun j hj => Hno.out j hj (by omega))
      have Hi := Lib.hid hi
      clear hi
      go_wp2_with fail
      go_ret
      exact ⟨by rw [Hi.out]; rfl, Hbl.out⟩
theorem cap1 {w : World} {g : Nat} {u : Value} (hg : g < w.heap.size) (h0 : w.cell? ⟨g, 0, none⟩ = some u) : CapC w g [u] := by
  refine ⟨hg, fun j v hv => ?_⟩
  match j with
  | 0 => simp at hv; subst hv; exact h0
  | j + 1 => simp at hv
set_option maxRecDepth 100000 in
set_option maxHeartbeats 1000000 in
theorem instAt (l : List InstV) (id : Int) (A : Option Addr) (c : Nat) (w : World) (hl : l.length ≤ 1099511627776) (hr : Rd w A 5 (l.map encInstV)) :
    Calls Tryz.prog 122 #[.slice A l.length c, .int .i64 id] w fun e w' => e = .returned (.int .i64 (idxOf (fun x : InstV => x.id == id) l)) ∧ Below w.heap.size w w' := by
  have Hr := Lib.hid hr
  clear hr
  go_enter Tryz.func122, Tryz.ntmps122
  go_wp2_with (first | (go_at_call 128; (with_reducible refine (instAtIdx l id A c _ _ hl (Hr.out.keep (by (repeat' (first | (with_reducible exact Below.refl _ _) | (with_reducible assumption) | (with_reducible refine Below.alloc ?_ ?_ _) | (with_reducible refine Below.setCell ?_ ?_ _) | (with_reducible refine Below.drew ?_) | (with_reducible refine below_drewN ?_ _) | (with_reducible refine below_via ?_ (by with_reducible assumption) ?_) | omega | (simp; done) | (simp; omega))))) (cap1 ?_ ?_)).mono ?_); (focus (simp; done)); (focus (first | (simp [go_sem]; done) | (simp [go_sem, ↓IntWalk.iteOmega]; done))); rintro e w1 ⟨rfl, hb1⟩) | fail)
  go_ret
  exact ⟨rfl, by (repeat' (first | (with_reducible exact Below.refl _ _) | (with_reducible assumption) | (with_reducible refine Below.alloc ?_ ?_ _) | (with_reducible refine Below.setCell ?_ ?_ _) | (with_reducible refine Below.drew ?_) | (with_reducible refine below_drewN ?_ _) | (with_reducible refine below_via ?_ (by with_reducible assumption) ?_) | omega | (simp; done) | (simp; omega)))⟩
theorem idx_findV (l : List InstV) (id : Int) : (∃ k, ∃ h : k < l.length, (l[k].id == id) = true ∧ (∀ j (_ : j < l.length), j < k → (l[j].id == id) = false) ∧ idxOf (fun x : InstV => x.id == id) l = k ∧ findInstV l id = (l[k], true)) ∨ ((∀ j (_ : j < l.length), (l[j].id == id) = false) ∧ idxOf (fun x : InstV => x.id == id) l = -1 ∧ findInstV l id = (⟨0, 0, 0, 0, ⟨none, 0, []⟩⟩, false)) := by
  rcases idxCases (fun x : InstV => x.id == id) l with ⟨k, hk, hm, hn, he⟩ | ⟨hn, he⟩
  · exact .inl ⟨k, hk, hm, hn, he, findInstV_hit hk hm hn⟩
  · exact .inr ⟨hn, he, findInstV_miss hn⟩
set_option maxRecDepth 100000 in
set_option maxHeartbeats 4000000 in
theorem instFind (l : List InstV) (id : Int) (A : Option Addr) (c : Nat) (w : World) (hl : l.length ≤ 1000000) (hr : Rd w A 5 (l.map encInstV)) (hg : ∀ x ∈ l, x.moves.val.length ≤ 1048576 ∧ GoodI w x) :
    Calls Tryz.prog 114 #[.slice A l.length c, .int .i64 id] w fun e w' => ∃ y : InstV, e = .returned (.tuple #[.agg #[.int .i64 y.id, .int .i64 y.mult, .int .i64 y.price, .int .i64 y.next, .slice y.moves.A y.moves.val.length y.moves.c], .bool (findInstV l id).2]) ∧ lgI y = lgI (findInstV l id).1 ∧ GoodI w' y ∧ Below w.heap.size w w' := by
  have c1 := fun W (h : Rd W A 5 (l.map encInstV)) => instAt l id A c W (by omega) h
  have HR := Lib.hid hr
  rcases idx_findV l id with ⟨k, hk, hm, hn, he, hf⟩ | ⟨hn, he, hf⟩
  · rw [hf]
    rw [he] at c1
    have C1 := Lib.hid c1
    have kl : (k : Int) < (l.length : Int) := by omega
    have kk : decide ((k : Int) < 0) = false := by simp
    obtain ⟨b, o, rfl, hb, hc⟩ := hr k (encInstV l[k]) (by simp [hk])
    have e0 := hc 0 _ rfl
    have e1 := hc 1 _ rfl
    have e2 := hc 2 _ rfl
    have e3 := hc 3 _ rfl
    have e4 := hc 4 _ rfl
    simp only [Nat.add_zero] at e0
    have hx := hg l[k] (List.getElem_mem hk)
    have HX := Lib.hid (fun W (h : Below w.heap.size w W) => instOwn l[k] W hx.1 (hx.2.keep h))
    clear hr he hm hn hc c1 hf hg hx
    go_enter Tryz.func114, Tryz.ntmps114
    go_wp2_with (first | (go_at_call 122; (with_reducible refine (C1.out _ (HR.out.keep (by (repeat' (first | (with_reducible exact Below.refl _ _) | (with_reducible assumption) | (with_reducible refine Below.alloc ?_ ?_ _) | (with_reducible refine Below.setCell ?_ ?_ _) | (with_reducible refine Below.drew ?_) | (with_reducible refine below_drewN ?_ _) | (with_reducible refine below_via ?_ (by with_reducible assumption) ?_) | omega | (simp; done) | (simp; omega)))))).mono ?_); rintro e w1 ⟨rfl, hb1⟩; obtain ⟨fc1, fg1, hc1, hf1, hz1⟩ := bget hb1; try simp at hz1) | (go_at_call 123; (with_reducible refine (HX.out _ (by (repeat' (first | (with_reducible exact Below.refl _ _) | (with_reducible assumption) | (with_reducible refine Below.alloc ?_ ?_ _) | (with_reducible refine Below.setCell ?_ ?_ _) | (with_reducible refine Below.drew ?_) | (with_reducible refine below_drewN ?_ _) | (with_reducible refine below_via ?_ (by with_reducible assumption) ?_) | omega | (simp; done) | (simp; omega))))).mono ?_); rintro e w2 ⟨s, hs, rfl, hown2, hb2⟩; have Hs := Lib.hid hs; have Hown2 := Lib.hid hown2; clear hs hown2; obtain ⟨fc2, fg2, hc2, hf2, hz2⟩ := bget hb2; (try simp at hz2)) | fail)
    refine bodyPost_ret (v := .tuple #[.agg #[.int .i64 l[k].id, .int .i64 l[k].mult, .int .i64 l[k].price, .int .i64 l[k].next, .slice s.A s.val.length s.c], .bool true]) (by simp [results, Tryz.results114, go_sem, hc2, hc1, ↓IntWalk.iteOmega]; try rfl) rfl ⟨{ l[k] with moves := s }, rfl, ?_, ?_, ?_⟩
    · simp only [lgI, Hs.out]
    · have h0 := Hown2.out.mono (b := w.heap.size + 1) (by omega)
      refine Own.good (base := w.heap.size + 1) (E := 2) (n := s.val.length) ?_
      (repeat' (first | (with_reducible assumption) | (with_reducible refine Own.farLow ?_ ?_ _) | (simp; done) | omega))
    · (repeat' (first | (with_reducible exact Below.refl _ _) | (with_reducible assumption) | (with_reducible refine Below.alloc ?_ ?_ _) | (with_reducible refine Below.setCell ?_ ?_ _) | (with_reducible refine Below.drew ?_) | (with_reducible refine below_drewN ?_ _) | (with_reducible refine below_via ?_ (by with_reducible assumption) ?_) | omega | (simp; done) | (simp; omega)))
  · rw [hf]
    rw [he] at c1
    have C1 := Lib.hid c1
    clear hr he hn c1 hf hg
    go_enter Tryz.func114, Tryz.ntmps114
    go_wp2_with (go_at_call 122; (with_reducible refine (C1.out _ (HR.out.keep (by (repeat' (first | (with_reducible exact Below.refl _ _) | (with_reducible assumption) | (with_reducible refine Below.alloc ?_ ?_ _) | (with_reducible refine Below.setCell ?_ ?_ _) | (with_reducible refine Below.drew ?_) | (with_reducible refine below_drewN ?_ _) | (with_reducible refine below_via ?_ (by with_reducible assumption) ?_) | omega | (simp; done) | (simp; omega)))))).mono ?_); rintro e w1 ⟨rfl, hb1⟩; obtain ⟨fc1, fg1, hc1, hf1, hz1⟩ := bget hb1; try simp at hz1)
    refine bodyPost_ret (v := .tuple #[.agg #[.int .i64 0, .int .i64 0, .int .i64 0, .int .i64 0, .slice none 0 0], .bool false]) (by simp [results, Tryz.results114, go_sem, hc1]; try rfl) rfl ⟨⟨0, 0, 0, 0, ⟨none, 0, []⟩⟩, rfl, rfl, Rs.empty _ _, ?_⟩
    (repeat' (first | (with_reducible exact Below.refl _ _) | (with_reducible assumption) | (with_reducible refine Below.alloc ?_ ?_ _) | (with_reducible refine Below.setCell ?_ ?_ _) | (with_reducible refine Below.drew ?_) | (with_reducible refine below_drewN ?_ _) | (with_reducible refine below_via ?_ (by with_reducible assumption) ?_) | omega | (simp; done) | (simp; omega)))
end Go.Proofs.YtalgfpegaobacaaGreat
