/- Joined: Asset4, LotT, S64, CvP, AsF, List. -/
import Derived.Test.YtalgfpegaobacaaJz1
import Derived.Test.YtalgfpegaobacaaJz8
import Derived.Test.YtalgfpegaobacaaJz2
import Derived.Test.YtalgfpegaobacaaJz5
import Derived.Test.YtalgfpegaobacaaJz7
/- Assets: contracts of the reference's Find, Put, Table. -/
namespace Go.Proofs.Ytalgfpegaobacaa
open Go.RowKit
theorem elAsset : Elem Try.prog 22 37 3 24 := elem_of Try.underlying22 (z := .agg #[.int .i64 0, .int .i64 0, .int .i64 0]) (by kernel_rfl) rfl (by omega)
def findAsset (l : List Asset) (id : Int) : Asset × Bool := match l.find? (fun m => m.id == id) with | some m => (m, true) | none => (⟨0, 0, 0⟩, false)
theorem findAsset_hit {l : List Asset} {id : Int} {k : Nat} (h : k < l.length) (hm : (l[k].id == id) = true) (hn : ∀ j (_ : j < l.length), j < k → (l[j].id == id) = false) : findAsset l id = (l[k], true) := by
  have : l.find? (fun m => m.id == id) = some l[k] := by
    rw [List.find?_eq_some_iff_getElem]
    exact ⟨hm, k, h, rfl, fun j hj => by simp [hn j (by omega) hj]⟩
  simp [findAsset, this]
theorem findAsset_miss {l : List Asset} {id : Int} (hn : ∀ j (_ : j < l.length), (l[j].id == id) = false) : findAsset l id = (⟨0, 0, 0⟩, false) := by
  have : l.find? (fun m => m.id == id) = none := by
    rw [List.find?_eq_none]
    intro x hx
    obtain ⟨j, hj, rfl⟩ := List.mem_iff_getElem.1 hx
    simp [hn j hj]
  simp [findAsset, this]
def insAsset (l : List Asset) (m : Asset) : List Asset := l.takeWhile (fun x => decide (x.id < m.id)) ++ m :: l.dropWhile (fun x => decide (x.id < m.id))
def putAssetC (ob : Bool) (l : List Asset) (m : Asset) : Int := if ob then (if (findAsset l m.id).2 then 12 else 0) else 2
def putAssetL (ob : Bool) (l : List Asset) (m : Asset) : List Asset := if ob = true ∧ (findAsset l m.id).2 = false then insAsset l m else []
def PutAssetPost (ob : Bool) (w : World) (l : List Asset) (m : Asset) (e : Ending) (w' : World) : Prop :=
  ∃ v, e = .returned (.tuple #[v, .int .i64 (putAssetC ob l m)]) ∧ Own w' w.heap.size 37 3 v ((putAssetL ob l m).map encAsset) ∧ Below w.heap.size w w'
theorem insAsset_len (l : List Asset) (m : Asset) : (insAsset l m).length = l.length + 1 := by
  unfold insAsset
  have := congrArg List.length (List.takeWhile_append_dropWhile (p := fun x : Asset => decide (x.id < m.id)) (l := l))
  simp only [List.length_append, List.length_cons] at this ⊢
  omega
theorem putAssetL_len (ob : Bool) (l : List Asset) (m : Asset) : (putAssetL ob l m).length ≤ l.length + 1 := by
  unfold putAssetL
  split
  · rw [insAsset_len]; omega
  · simp
def stepAsset (okf : Asset → Bool) (out : List Asset) (m : Asset) : List Asset := if putAssetC (okf m) out m = 0 then putAssetL (okf m) out m else out
def tabAssetN (okf : Asset → Bool) (l : List Asset) (k : Nat) : List Asset := (l.take k).foldl (stepAsset okf) []
theorem tabAssetN_succ {okf : Asset → Bool} {l : List Asset} {k : Nat} (h : k < l.length) : tabAssetN okf l (k + 1) = stepAsset okf (tabAssetN okf l k) l[k] := by
  unfold tabAssetN
  rw [List.take_succ_eq_append_getElem h, List.foldl_append]
  rfl
theorem tabAssetN_len (okf : Asset → Bool) (l : List Asset) : ∀ k, (tabAssetN okf l k).length ≤ k
  | 0 => by simp [tabAssetN]
  | k + 1 => by
    have ih := tabAssetN_len okf l k
    rcases Nat.lt_or_ge k l.length with h | h
    · rw [tabAssetN_succ h]; unfold stepAsset; split
      · have := putAssetL_len (okf l[k]) (tabAssetN okf l k) l[k]; omega
      · omega
    · have : tabAssetN okf l (k + 1) = tabAssetN okf l k := by unfold tabAssetN; rw [List.take_of_length_le (by omega), List.take_of_length_le h]
      rw [this]; omega
theorem tabAsset_at {okf : Asset → Bool} {l : List Asset} {k n : Nat} (h : k = n ∨ (k ≤ n ∧ l.length ≤ k)) : tabAssetN okf l k = tabAssetN okf l n := by
  rcases h with rfl | ⟨h1, h2⟩
  · rfl
  · unfold tabAssetN; rw [List.take_of_length_le h2, List.take_of_length_le (by omega)]
set_option maxRecDepth 100000 in
set_option maxHeartbeats 2000000 in
theorem ref12Find (l : List Asset) (id : Int) (A : Option Addr) (c : Nat) (w : World) (hl : l.length ≤ 1099511627776) (hr : Rd w A 3 (l.map encAsset)) :
    Calls Try.prog 16 #[.slice A l.length c, .int .i64 id] w fun e w' => e = .returned (.tuple #[.agg #[.int .i64 (findAsset l id).1.id, .int .i64 (findAsset l id).1.price, .int .i64 (findAsset l id).1.hair], .bool (findAsset l id).2]) ∧ Below w.heap.size w w' := by
  have Hr := Lib.hid hr
  clear hr
  go_enter Try.func16, Try.ntmps16
  go_wp2_with fail
  go_loopw [6] (fun i wr => ∃ k : Nat, k ≤ l.length ∧ i = .int .i64 k ∧ Below w.heap.size w wr ∧ (wr.cell? ⟨w.heap.size, 0, none⟩ = some (.int .i64 0) ∧ wr.cell? ⟨w.heap.size, 1, none⟩ = some (.int .i64 0) ∧ wr.cell? ⟨w.heap.size, 2, none⟩ = some (.int .i64 0) ∧ wr.frozen? ⟨w.heap.size, 0, none⟩ = false ∧ wr.frozen? ⟨w.heap.size, 1, none⟩ = false ∧ wr.frozen? ⟨w.heap.size, 2, none⟩ = false) ∧ ∀ j (_ : j < l.length), j < k → (l[j].id == id) = false) (fun i _ => l.length - (intOf i).toNat)
  case atStart => exact ⟨0, Nat.zero_le _, rfl, by (repeat' (first | (with_reducible exact Below.refl _ _) | (with_reducible assumption) | (with_reducible refine Below.alloc ?_ ?_ _) | (with_reducible refine Below.setCell ?_ ?_ _) | (with_reducible refine Below.drew ?_) | (with_reducible refine below_drewN ?_ _) | (with_reducible refine below_via ?_ (by with_reducible assumption) ?_) | omega | (simp; done) | (simp; omega))), by simp [go_sem], fun j _ h => absurd h (by omega)⟩
  case round =>
    obtain ⟨k, hk, rfl, hbl, ⟨g0, g1, g2, f0, f1, f2⟩, hno⟩ := hrel
    have Hbl := Lib.hid hbl
    have Hno := Lib.hid hno
    have hz := hbl.size
    clear hbl hno
    by_cases hlt : k < l.length
    · obtain ⟨b, o, rfl, hb, hc⟩ := Hr.out k (encAsset l[k]) (by simp [hlt])
      have c0 := (Hbl.out.cell (p := ⟨b, o + k * 3 + 0, none⟩) hb).trans (hc 0 _ rfl)
      have c1 := (Hbl.out.cell (p := ⟨b, o + k * 3 + 1, none⟩) hb).trans (hc 1 _ rfl)
      have c2 := (Hbl.out.cell (p := ⟨b, o + k * 3 + 2, none⟩) hb).trans (hc 2 _ rfl)
      simp only [Nat.add_zero] at c0
      clear hc
      cases hm : (l[k].id == id)
      · have Hm := Lib.hid hm
        go_wp2_with fail
        go_roundw
        case rel => exact ⟨k + 1, by omega, by go_num, Hbl.out, ⟨g0, g1, g2, f0, f1, f2⟩, fun j hj h => by
          rcases Nat.lt_or_ge j k with h1 | h1
          · exact Hno.out j hj h1
          · obtain rfl : j = k := by omega
            exact Hm.out⟩
        case measure => simp [intOf]; omega
      · have hi := findAsset_hit hlt hm Hno.out
        have Hi := Lib.hid hi
        clear hi
        go_wp2_with fail
        rw [Hi.out]
        have hbl := Hbl.out
        refine bodyPost_ret (by simp [results, Try.results16, go_sem, g0, g1, g2]; try rfl) rfl ⟨rfl, ?_⟩
        (repeat' (first | (with_reducible exact Below.refl _ _) | (with_reducible assumption) | (with_reducible refine Below.alloc ?_ ?_ _) | (with_reducible refine Below.setCell ?_ ?_ _) | (with_reducible refine Below.drew ?_) | (with_reducible refine below_drewN ?_ _) | (with_reducible refine below_via ?_ (by with_reducible assumption) ?_) | omega | (simp; done) | (simp; omega)))
    · have hi := findAsset_miss (l := l) (fun j hj => Hno.out j hj (by omega))
      have Hi := Lib.hid hi
      clear hi
      go_wp2_with fail
      rw [Hi.out]
      have hbl := Hbl.out
      refine bodyPost_ret (by simp [results, Try.results16, go_sem, g0, g1, g2]; try rfl) rfl ⟨rfl, ?_⟩
      (repeat' (first | (with_reducible exact Below.refl _ _) | (with_reducible assumption) | (with_reducible refine Below.alloc ?_ ?_ _) | (with_reducible refine Below.setCell ?_ ?_ _) | (with_reducible refine Below.drew ?_) | (with_reducible refine below_drewN ?_ _) | (with_reducible refine below_via ?_ (by with_reducible assumption) ?_) | omega | (simp; done) | (simp; omega)))
set_option maxRecDepth 100000 in
set_option maxHeartbeats 4000000 in
theorem ref12Put (ob : Bool) (l : List Asset) (m : Asset) (A : Option Addr) (c : Nat) (w : World) (hl : l.length ≤ 1048576) (hr : Rs w 3 (l.map encAsset) A c) (hform : (A = none ∧ l = [] ∧ c = 0) ∨ ∃ b o, A = some ⟨b, o, none⟩)
    (c1 : ∀ W, Below w.heap.size w W → Calls Try.prog 23 #[.agg #[.int .i64 m.id, .int .i64 m.price, .int .i64 m.hair]] W fun e w' => e = .returned (.bool ob) ∧ Below W.heap.size W w') :
    Calls Try.prog 10 #[.slice A l.length c, .agg #[.int .i64 m.id, .int .i64 m.price, .int .i64 m.hair]] w (PutAssetPost ob w l m) := by
  have HR := Lib.hid hr
  have HFO := Lib.hid hform
  have hlc := hr.cap
  have hcm := hr.room
  rw [List.length_map] at hlc
  have c2 := fun W (h : Rd W A 3 (l.map encAsset)) => ref12Find l m.id A c W (by omega) h
  cases ob
  · have hp : putAssetL false l m = [] := by unfold putAssetL; rw [if_neg (fun h => by cases h.1)]
    have hq : putAssetC false l m = 2 := rfl
    have HP := Lib.hid hp
    have HQ := Lib.hid hq
    have C1 := Lib.hid c1
    clear hr c1 c2 hp hq hform hcm hlc
    go_enter Try.func10, Try.ntmps10
    go_wp2_with (go_at_call 23; (with_reducible refine (C1.out _ (by (repeat' (first | (with_reducible exact Below.refl _ _) | (with_reducible assumption) | (with_reducible refine Below.alloc ?_ ?_ _) | (with_reducible refine Below.setCell ?_ ?_ _) | (with_reducible refine Below.drew ?_) | (with_reducible refine below_drewN ?_ _) | (with_reducible refine below_via ?_ (by with_reducible assumption) ?_) | omega | (simp; done) | (simp; omega))))).mono ?_); rintro e w1 ⟨rfl, hb1⟩; obtain ⟨fc1, fg1, hc1, hf1, hz1⟩ := bget hb1; try simp at hz1)
    go_ret2
    exact ⟨_, by rw [HQ.out]; rfl, by rw [HP.out]; exact Own.nil _ _ _ _, by (repeat' (first | (with_reducible exact Below.refl _ _) | (with_reducible assumption) | (with_reducible refine Below.alloc ?_ ?_ _) | (with_reducible refine Below.setCell ?_ ?_ _) | (with_reducible refine Below.drew ?_) | (with_reducible refine below_drewN ?_ _) | (with_reducible refine below_via ?_ (by with_reducible assumption) ?_) | omega | (simp; done) | (simp; omega)))⟩
  cases hf : (findAsset l m.id).2
  rotate_left
  · rw [hf] at c2
    have hp : putAssetL true l m = [] := by unfold putAssetL; rw [hf, if_neg (by simp)]
    have hq : putAssetC true l m = 12 := by unfold putAssetC; rw [hf]; rfl
    have HP := Lib.hid hp
    have HQ := Lib.hid hq
    have C1 := Lib.hid c1
    have C2 := Lib.hid c2
    clear hr c1 c2 hp hq hf hform hcm hlc
    go_enter Try.func10, Try.ntmps10
    go_wp2_with (first | (go_at_call 23; (with_reducible refine (C1.out _ (by (repeat' (first | (with_reducible exact Below.refl _ _) | (with_reducible assumption) | (with_reducible refine Below.alloc ?_ ?_ _) | (with_reducible refine Below.setCell ?_ ?_ _) | (with_reducible refine Below.drew ?_) | (with_reducible refine below_drewN ?_ _) | (with_reducible refine below_via ?_ (by with_reducible assumption) ?_) | omega | (simp; done) | (simp; omega))))).mono ?_); rintro e w1 ⟨rfl, hb1⟩; obtain ⟨fc1, fg1, hc1, hf1, hz1⟩ := bget hb1; try simp at hz1) | (go_at_call 16; (with_reducible refine (C2.out _ (HR.out.rd.keep (by (repeat' (first | (with_reducible exact Below.refl _ _) | (with_reducible assumption) | (with_reducible refine Below.alloc ?_ ?_ _) | (with_reducible refine Below.setCell ?_ ?_ _) | (with_reducible refine Below.drew ?_) | (with_reducible refine below_drewN ?_ _) | (with_reducible refine below_via ?_ (by with_reducible assumption) ?_) | omega | (simp; done) | (simp; omega)))))).mono ?_); rintro e w2 ⟨rfl, hb2⟩; obtain ⟨fc2, fg2, hc2, hf2, hz2⟩ := bget hb2; try simp at hz2) | fail)
    go_ret2
    exact ⟨_, by rw [HQ.out]; rfl, by rw [HP.out]; exact Own.nil _ _ _ _, by (repeat' (first | (with_reducible exact Below.refl _ _) | (with_reducible assumption) | (with_reducible refine Below.alloc ?_ ?_ _) | (with_reducible refine Below.setCell ?_ ?_ _) | (with_reducible refine Below.drew ?_) | (with_reducible refine below_drewN ?_ _) | (with_reducible refine below_via ?_ (by with_reducible assumption) ?_) | omega | (simp; done) | (simp; omega)))⟩
  rw [hf] at c2
  have hp : putAssetL true l m = insAsset l m := by unfold putAssetL; rw [hf, if_pos ⟨rfl, rfl⟩]
  have hq : putAssetC true l m = 0 := by unfold putAssetC; rw [hf]; rfl
  have HP := Lib.hid hp
  have HQ := Lib.hid hq
  have C1 := Lib.hid c1
  have C2 := Lib.hid c2
  clear hr c1 c2 hp hq hf hform
  rcases HFO.out with ⟨rfl, rfl, rfl⟩ | ⟨b, o, rfl⟩
  · have c2' := C2.out
    simp only [List.length_nil] at c2'
    have C2' := Lib.hid c2'
    clear c2' C2
    go_enter Try.func10, Try.ntmps10
    go_wp2_with (first | (go_at_call 23; (with_reducible refine (C1.out _ (by (repeat' (first | (with_reducible exact Below.refl _ _) | (with_reducible assumption) | (with_reducible refine Below.alloc ?_ ?_ _) | (with_reducible refine Below.setCell ?_ ?_ _) | (with_reducible refine Below.drew ?_) | (with_reducible refine below_drewN ?_ _) | (with_reducible refine below_via ?_ (by with_reducible assumption) ?_) | omega | (simp; done) | (simp; omega))))).mono ?_); rintro e w1 ⟨rfl, hb1⟩; obtain ⟨fc1, fg1, hc1, hf1, hz1⟩ := bget hb1; try simp at hz1) | (go_at_call 16; (with_reducible refine (C2'.out _ (HR.out.rd.keep (by (repeat' (first | (with_reducible exact Below.refl _ _) | (with_reducible assumption) | (with_reducible refine Below.alloc ?_ ?_ _) | (with_reducible refine Below.setCell ?_ ?_ _) | (with_reducible refine Below.drew ?_) | (with_reducible refine below_drewN ?_ _) | (with_reducible refine below_via ?_ (by with_reducible assumption) ?_) | omega | (simp; done) | (simp; omega)))))).mono ?_); rintro e w2 ⟨rfl, hb2⟩; obtain ⟨fc2, fg2, hc2, hf2, hz2⟩ := bget hb2; try simp at hz2) | fail)
    refine wp_loop_rounds 1 ?_
    rw [rounds_succ]
    go_wp2_with fail
    go_quiet (fail)
    go_wp2_with (first | (at_builtin; refine wpList_app rfl _ _ _ rfl elAsset w2.heap.size _ [] rfl (Own.nil _ _ _ _) none 0 0 rfl [] rfl (fun _ => rfl) (fun i r h => by simp at h) (fun r h => by simp at h) (by unfold maxLen; simp) (by simp) (by first | omega | (simp; done) | (simp; omega)) ?_; intro v1 w3 hown1 hb3; obtain ⟨fc3, fg3, hc3, hf3, hz3⟩ := bget hb3; (try simp at hz3)) | (at_builtin; refine wpList_app rfl _ _ _ rfl elAsset w2.heap.size _ _ rfl (hown1.alloc _) (some ⟨w3.heap.size, 0, none⟩) 1 1 rfl [encAsset m] rfl (fun h => by cases h) rd_one (rowsAsset [m]) (by unfold maxLen; simp) (by simp) (by first | omega | (simp; done) | (simp; omega)) ?_; intro v2 w4 hown2 hb4; obtain ⟨fc4, fg4, hc4, hf4, hz4⟩ := bget hb4; (try simp at hz4)) | (at_builtin; refine wpList_app rfl _ _ _ rfl elAsset w2.heap.size _ _ rfl hown2 none 0 0 rfl [] rfl (fun _ => rfl) (fun i r h => by simp at h) (fun r h => by simp at h) (by unfold maxLen; simp) (by simp) (by first | omega | (simp; done) | (simp; omega)) ?_; intro v3 w5 hown3 hb5) | fail)
    go_ret2
    exact ⟨_, by rw [HQ.out]; rfl, by rw [HP.out]; exact (by simpa [insAsset] using hown3.mono (by first | omega | (simp; done) | (simp; omega))), by (repeat' (first | (with_reducible exact Below.refl _ _) | (with_reducible assumption) | (with_reducible refine Below.alloc ?_ ?_ _) | (with_reducible refine Below.setCell ?_ ?_ _) | (with_reducible refine Below.drew ?_) | (with_reducible refine below_drewN ?_ _) | (with_reducible refine below_via ?_ (by with_reducible assumption) ?_) | omega | (simp; done) | (simp; omega)))⟩
  · have HF := Lib.hid HR.out.rd
    go_enter Try.func10, Try.ntmps10
    go_wp2_with (first | (go_at_call 23; (with_reducible refine (C1.out _ (by (repeat' (first | (with_reducible exact Below.refl _ _) | (with_reducible assumption) | (with_reducible refine Below.alloc ?_ ?_ _) | (with_reducible refine Below.setCell ?_ ?_ _) | (with_reducible refine Below.drew ?_) | (with_reducible refine below_drewN ?_ _) | (with_reducible refine below_via ?_ (by with_reducible assumption) ?_) | omega | (simp; done) | (simp; omega))))).mono ?_); rintro e w1 ⟨rfl, hb1⟩; obtain ⟨fc1, fg1, hc1, hf1, hz1⟩ := bget hb1; try simp at hz1) | (go_at_call 16; (with_reducible refine (C2.out _ (HR.out.rd.keep (by (repeat' (first | (with_reducible exact Below.refl _ _) | (with_reducible assumption) | (with_reducible refine Below.alloc ?_ ?_ _) | (with_reducible refine Below.setCell ?_ ?_ _) | (with_reducible refine Below.drew ?_) | (with_reducible refine below_drewN ?_ _) | (with_reducible refine below_via ?_ (by with_reducible assumption) ?_) | omega | (simp; done) | (simp; omega)))))).mono ?_); rintro e w2 ⟨rfl, hb2⟩; obtain ⟨fc2, fg2, hc2, hf2, hz2⟩ := bget hb2; try simp at hz2) | fail)
    go_loopw [9] (fun i wr => ∃ k : Nat, k ≤ l.length ∧ i = .int .i64 k ∧ Below w.heap.size w wr ∧ w.heap.size < wr.heap.size ∧ (wr.cell? ⟨w.heap.size, 0, none⟩ = some (.int .i64 m.id) ∧ wr.cell? ⟨w.heap.size, 1, none⟩ = some (.int .i64 m.price) ∧ wr.cell? ⟨w.heap.size, 2, none⟩ = some (.int .i64 m.hair)) ∧ ∀ j (_ : j < l.length), j < k → decide (l[j].id < m.id) = true) (fun i _ => l.length - (intOf i).toNat)
    case atStart => exact ⟨0, Nat.zero_le _, rfl, by (repeat' (first | (with_reducible exact Below.refl _ _) | (with_reducible assumption) | (with_reducible refine Below.alloc ?_ ?_ _) | (with_reducible refine Below.setCell ?_ ?_ _) | (with_reducible refine Below.drew ?_) | (with_reducible refine below_drewN ?_ _) | (with_reducible refine below_via ?_ (by with_reducible assumption) ?_) | omega | (simp; done) | (simp; omega))), (by first | omega | (simp; done) | (simp; omega)), by simp [go_sem, hc1, hc2, ↓IntWalk.iteOmega], fun j _ h => absurd h (by omega)⟩
    case round =>
      obtain ⟨k, hk, rfl, hbl, hsz, ⟨g0, g1, g2⟩, hno⟩ := hrel
      have Hbl := Lib.hid hbl
      have Hno := Lib.hid hno
      have hz := hbl.size
      clear hbl hno
      have kl : (k : Int) ≤ (l.length : Int) := by omega
      by_cases hlt : k < l.length
      · obtain ⟨b', o', e, hb, hc⟩ := HF.out k (encAsset l[k]) (by simp [hlt])
        injection e with e
        injection e with e1 e2 _
        subst e1 e2
        have c0 := (Hbl.out.cell (p := ⟨b, o + k * 3 + 0, none⟩) hb).trans (hc 0 _ rfl)
        simp only [Nat.add_zero] at c0
        clear hc
        have hck : ¬ c = k := by omega
        have hck' : ¬ k = c := by omega
        have kl' : (k : Int) < (l.length : Int) := by omega
        cases hm : decide (l[k].id < m.id)
        · have hw := while_cut (p := fun x : Asset => decide (x.id < m.id)) Hno.out hk (fun _ => hm)
          have hin : insAsset l m = l.take k ++ [m] ++ l.drop k := by unfold insAsset; rw [hw.1, hw.2]; simp
          have HIN := Lib.hid hin
          clear hw hin
          go_wp2_with fail
          go_quiet (fail)
          go_wp2_with (first | (at_builtin; refine wpList_app rfl _ _ _ rfl elAsset wr.heap.size _ [] rfl (Own.nil _ _ _ _) (some ⟨b, o, none⟩) k _ rfl ((l.take k).map encAsset) (by simp; omega) (fun h => by cases h) (by rw [List.map_take]; exact rd_take' (HF.out.keep (by have hbl := Hbl.out; (repeat' (first | (with_reducible exact Below.refl _ _) | (with_reducible assumption) | (with_reducible refine Below.alloc ?_ ?_ _) | (with_reducible refine Below.setCell ?_ ?_ _) | (with_reducible refine Below.drew ?_) | (with_reducible refine below_drewN ?_ _) | (with_reducible refine below_via ?_ (by with_reducible assumption) ?_) | omega | (simp; done) | (simp; omega))))) k) (rowsAsset _) (by unfold maxLen; simp; omega) (by simp; omega) (by first | omega | (simp; done) | (simp; omega)) ?_; intro v1 w3 hown1 hb3; obtain ⟨fc3, fg3, hc3, hf3, hz3⟩ := bget hb3; (try simp at hz3)) | (at_builtin; refine wpList_app rfl _ _ _ rfl elAsset wr.heap.size _ _ rfl (hown1.alloc _) (some ⟨w3.heap.size, 0, none⟩) 1 1 rfl [encAsset m] rfl (fun h => by cases h) rd_one (rowsAsset [m]) (by unfold maxLen; simp; omega) (by simp; omega) (by first | omega | (simp; done) | (simp; omega)) ?_; intro v2 w4 hown2 hb4; obtain ⟨fc4, fg4, hc4, hf4, hz4⟩ := bget hb4; (try simp at hz4)) | (at_builtin; refine wpList_app rfl _ _ _ rfl elAsset wr.heap.size _ _ rfl hown2 (some ⟨b, o + k * 3, none⟩) (l.length - k) (c - k) rfl ((l.drop k).map encAsset) (by simp) (fun h => by cases h) (by rw [List.map_drop]; exact rd_dropR (HF.out.keep (by have hbl := Hbl.out; (repeat' (first | (with_reducible exact Below.refl _ _) | (with_reducible assumption) | (with_reducible refine Below.alloc ?_ ?_ _) | (with_reducible refine Below.setCell ?_ ?_ _) | (with_reducible refine Below.drew ?_) | (with_reducible refine below_drewN ?_ _) | (with_reducible refine below_via ?_ (by with_reducible assumption) ?_) | omega | (simp; done) | (simp; omega))))) k) (rowsAsset _) (by unfold maxLen; simp; omega) (by simp; omega) (by first | omega | (simp; done) | (simp; omega)) ?_; intro v3 w5 hown3 hb5) | (at_builtin; refine wpList_app rfl _ _ _ rfl elAsset wr.heap.size _ _ rfl hown2 (some ⟨b, o, none⟩) 0 0 rfl [] rfl (fun h => by cases h) (fun i r h => by simp at h) (fun r h => by simp at h) (by unfold maxLen; simp; omega) (by simp; omega) (by first | omega | (simp; done) | (simp; omega)) ?_; intro v3 w5 hown3 hb5) | fail)
          go_ret2
          exact ⟨_, by rw [HQ.out]; rfl, by rw [HP.out, HIN.out]; exact (by simpa using hown3.mono (by first | omega | (simp; done) | (simp; omega))), by have hbl := Hbl.out; (repeat' (first | (with_reducible exact Below.refl _ _) | (with_reducible assumption) | (with_reducible refine Below.alloc ?_ ?_ _) | (with_reducible refine Below.setCell ?_ ?_ _) | (with_reducible refine Below.drew ?_) | (with_reducible refine below_drewN ?_ _) | (with_reducible refine below_via ?_ (by with_reducible assumption) ?_) | omega | (simp; done) | (simp; omega)))⟩
        · have Hm := Lib.hid hm
          go_wp2_with fail
          go_quiet (fail)
          go_wp2_with fail
          go_roundw
          case rel => exact ⟨k + 1, by omega, by go_num, by have hbl := Hbl.out; (repeat' (first | (with_reducible exact Below.refl _ _) | (with_reducible assumption) | (with_reducible refine Below.alloc ?_ ?_ _) | (with_reducible refine Below.setCell ?_ ?_ _) | (with_reducible refine Below.drew ?_) | (with_reducible refine below_drewN ?_ _) | (with_reducible refine below_via ?_ (by with_reducible assumption) ?_) | omega | (simp; done) | (simp; omega))), by simpa using hsz, by simp [go_sem, g0, g1, g2], fun j hj h => by
            rcases Nat.lt_or_ge j k with h1 | h1
            · exact Hno.out j hj h1
            · obtain rfl : j = k := by omega
              exact Hm.out⟩
          case measure => simp [intOf]; omega
      · have hw := while_cut (p := fun x : Asset => decide (x.id < m.id)) Hno.out hk (fun h => absurd h hlt)
        have hin : insAsset l m = l.take k ++ [m] ++ l.drop k := by unfold insAsset; rw [hw.1, hw.2]; simp
        have HIN := Lib.hid hin
        clear hw hin
        have hd : decide ((k : Int) < (l.length : Int)) = false := by simp; omega
        by_cases hck : c = k
        · obtain rfl : k = c := hck.symm
          go_wp2_with fail
          go_quiet (fail)
          go_wp2_with (first | (at_builtin; refine wpList_app rfl _ _ _ rfl elAsset wr.heap.size _ [] rfl (Own.nil _ _ _ _) (some ⟨b, o, none⟩) k _ rfl ((l.take k).map encAsset) (by simp; omega) (fun h => by cases h) (by rw [List.map_take]; exact rd_take' (HF.out.keep (by have hbl := Hbl.out; (repeat' (first | (with_reducible exact Below.refl _ _) | (with_reducible assumption) | (with_reducible refine Below.alloc ?_ ?_ _) | (with_reducible refine Below.setCell ?_ ?_ _) | (with_reducible refine Below.drew ?_) | (with_reducible refine below_drewN ?_ _) | (with_reducible refine below_via ?_ (by with_reducible assumption) ?_) | omega | (simp; done) | (simp; omega))))) k) (rowsAsset _) (by unfold maxLen; simp; omega) (by simp; omega) (by first | omega | (simp; done) | (simp; omega)) ?_; intro v1 w3 hown1 hb3; obtain ⟨fc3, fg3, hc3, hf3, hz3⟩ := bget hb3; (try simp at hz3)) | (at_builtin; refine wpList_app rfl _ _ _ rfl elAsset wr.heap.size _ _ rfl (hown1.alloc _) (some ⟨w3.heap.size, 0, none⟩) 1 1 rfl [encAsset m] rfl (fun h => by cases h) rd_one (rowsAsset [m]) (by unfold maxLen; simp; omega) (by simp; omega) (by first | omega | (simp; done) | (simp; omega)) ?_; intro v2 w4 hown2 hb4; obtain ⟨fc4, fg4, hc4, hf4, hz4⟩ := bget hb4; (try simp at hz4)) | (at_builtin; refine wpList_app rfl _ _ _ rfl elAsset wr.heap.size _ _ rfl hown2 (some ⟨b, o + k * 3, none⟩) (l.length - k) (c - k) rfl ((l.drop k).map encAsset) (by simp) (fun h => by cases h) (by rw [List.map_drop]; exact rd_dropR (HF.out.keep (by have hbl := Hbl.out; (repeat' (first | (with_reducible exact Below.refl _ _) | (with_reducible assumption) | (with_reducible refine Below.alloc ?_ ?_ _) | (with_reducible refine Below.setCell ?_ ?_ _) | (with_reducible refine Below.drew ?_) | (with_reducible refine below_drewN ?_ _) | (with_reducible refine below_via ?_ (by with_reducible assumption) ?_) | omega | (simp; done) | (simp; omega))))) k) (rowsAsset _) (by unfold maxLen; simp; omega) (by simp; omega) (by first | omega | (simp; done) | (simp; omega)) ?_; intro v3 w5 hown3 hb5) | (at_builtin; refine wpList_app rfl _ _ _ rfl elAsset wr.heap.size _ _ rfl hown2 (some ⟨b, o, none⟩) 0 0 rfl [] rfl (fun h => by cases h) (fun i r h => by simp at h) (fun r h => by simp at h) (by unfold maxLen; simp; omega) (by simp; omega) (by first | omega | (simp; done) | (simp; omega)) ?_; intro v3 w5 hown3 hb5) | fail)
          go_ret2
          exact ⟨_, by rw [HQ.out]; rfl, by rw [HP.out, HIN.out, List.drop_eq_nil_of_le (show l.length ≤ k from by omega)]; exact (by simpa using hown3.mono (by first | omega | (simp; done) | (simp; omega))), by have hbl := Hbl.out; (repeat' (first | (with_reducible exact Below.refl _ _) | (with_reducible assumption) | (with_reducible refine Below.alloc ?_ ?_ _) | (with_reducible refine Below.setCell ?_ ?_ _) | (with_reducible refine Below.drew ?_) | (with_reducible refine below_drewN ?_ _) | (with_reducible refine below_via ?_ (by with_reducible assumption) ?_) | omega | (simp; done) | (simp; omega)))⟩
        · have hck' : ¬ k = c := fun h => hck h.symm
          go_wp2_with fail
          go_quiet (fail)
          go_wp2_with (first | (at_builtin; refine wpList_app rfl _ _ _ rfl elAsset wr.heap.size _ [] rfl (Own.nil _ _ _ _) (some ⟨b, o, none⟩) k _ rfl ((l.take k).map encAsset) (by simp; omega) (fun h => by cases h) (by rw [List.map_take]; exact rd_take' (HF.out.keep (by have hbl := Hbl.out; (repeat' (first | (with_reducible exact Below.refl _ _) | (with_reducible assumption) | (with_reducible refine Below.alloc ?_ ?_ _) | (with_reducible refine Below.setCell ?_ ?_ _) | (with_reducible refine Below.drew ?_) | (with_reducible refine below_drewN ?_ _) | (with_reducible refine below_via ?_ (by with_reducible assumption) ?_) | omega | (simp; done) | (simp; omega))))) k) (rowsAsset _) (by unfold maxLen; simp; omega) (by simp; omega) (by first | omega | (simp; done) | (simp; omega)) ?_; intro v1 w3 hown1 hb3; obtain ⟨fc3, fg3, hc3, hf3, hz3⟩ := bget hb3; (try simp at hz3)) | (at_builtin; refine wpList_app rfl _ _ _ rfl elAsset wr.heap.size _ _ rfl (hown1.alloc _) (some ⟨w3.heap.size, 0, none⟩) 1 1 rfl [encAsset m] rfl (fun h => by cases h) rd_one (rowsAsset [m]) (by unfold maxLen; simp; omega) (by simp; omega) (by first | omega | (simp; done) | (simp; omega)) ?_; intro v2 w4 hown2 hb4; obtain ⟨fc4, fg4, hc4, hf4, hz4⟩ := bget hb4; (try simp at hz4)) | (at_builtin; refine wpList_app rfl _ _ _ rfl elAsset wr.heap.size _ _ rfl hown2 (some ⟨b, o + k * 3, none⟩) (l.length - k) (c - k) rfl ((l.drop k).map encAsset) (by simp) (fun h => by cases h) (by rw [List.map_drop]; exact rd_dropR (HF.out.keep (by have hbl := Hbl.out; (repeat' (first | (with_reducible exact Below.refl _ _) | (with_reducible assumption) | (with_reducible refine Below.alloc ?_ ?_ _) | (with_reducible refine Below.setCell ?_ ?_ _) | (with_reducible refine Below.drew ?_) | (with_reducible refine below_drewN ?_ _) | (with_reducible refine below_via ?_ (by with_reducible assumption) ?_) | omega | (simp; done) | (simp; omega))))) k) (rowsAsset _) (by unfold maxLen; simp; omega) (by simp; omega) (by first | omega | (simp; done) | (simp; omega)) ?_; intro v3 w5 hown3 hb5) | (at_builtin; refine wpList_app rfl _ _ _ rfl elAsset wr.heap.size _ _ rfl hown2 (some ⟨b, o, none⟩) 0 0 rfl [] rfl (fun h => by cases h) (fun i r h => by simp at h) (fun r h => by simp at h) (by unfold maxLen; simp; omega) (by simp; omega) (by first | omega | (simp; done) | (simp; omega)) ?_; intro v3 w5 hown3 hb5) | fail)
          go_ret2
          exact ⟨_, by rw [HQ.out]; rfl, by rw [HP.out, HIN.out]; exact (by simpa using hown3.mono (by first | omega | (simp; done) | (simp; omega))), by have hbl := Hbl.out; (repeat' (first | (with_reducible exact Below.refl _ _) | (with_reducible assumption) | (with_reducible refine Below.alloc ?_ ?_ _) | (with_reducible refine Below.setCell ?_ ?_ _) | (with_reducible refine Below.drew ?_) | (with_reducible refine below_drewN ?_ _) | (with_reducible refine below_via ?_ (by with_reducible assumption) ?_) | omega | (simp; done) | (simp; omega)))⟩
theorem own_formAsset {w : World} {base : Nat} {v : Value} {l : List Asset} (h : Own w base 37 3 v (l.map encAsset)) : ∃ A c, v = .slice A l.length c ∧ Rs w 3 (l.map encAsset) A c ∧ ((A = none ∧ l = [] ∧ c = 0) ∨ ∃ b o, A = some ⟨b, o, none⟩) := by
  obtain ⟨A, c, h1, h2, h3⟩ := h.rs
  rw [List.length_map] at h1
  refine ⟨A, c, h1, h2, ?_⟩
  rcases h3 with ⟨ha, hr, hc⟩ | ⟨g, ha, _⟩
  · exact .inl ⟨ha, List.map_eq_nil_iff.1 hr, hc⟩
  · exact .inr ⟨g, 0, ha⟩
set_option maxRecDepth 100000 in
set_option maxHeartbeats 4000000 in
theorem ref12Table (okf : Asset → Bool) (l : List Asset) (A : Option Addr) (c : Nat) (w : World) (hl : l.length ≤ maxLen) (hr : Rd w A 3 (l.map encAsset))
    (his : ∀ m ∈ l, ∀ W, Below w.heap.size w W → Calls Try.prog 23 #[.agg #[.int .i64 m.id, .int .i64 m.price, .int .i64 m.hair]] W fun e w' => e = .returned (.bool (okf m)) ∧ Below W.heap.size W w') :
    Calls Try.prog 4 #[.slice A l.length c] w fun e w' => ∃ v, e = .returned v ∧ Own w' w.heap.size 37 3 v ((tabAssetN okf l 8).map encAsset) ∧ Below w.heap.size w w' := by
  have HR := Lib.hid hr
  have HIS := Lib.hid his
  have hml : (l.length : Int) ≤ 9223372036854775807 := by unfold maxLen at hl; omega
  clear hr hl his
  go_enter Try.func4, Try.ntmps4
  go_wp2_with fail
  go_loopw [3, 4] (fun v i wr => ∃ k : Nat, k ≤ l.length ∧ k ≤ 8 ∧ i = .int .i64 k ∧ Own wr w.heap.size 37 3 v ((tabAssetN okf l k).map encAsset) ∧ Below w.heap.size w wr) (fun _ i _ => l.length - (intOf i).toNat)
  case atStart => exact ⟨0, Nat.zero_le _, Nat.zero_le _, rfl, Own.nil _ _ _ _, Below.refl _ _⟩
  case round =>
    obtain ⟨k, hk, hk10, rfl, hown, hbl⟩ := hrel
    have Hbl := Lib.hid hbl
    have Hown := Lib.hid hown
    have hz := hbl.size
    clear hbl hown
    by_cases hgo : k < l.length ∧ k < 8
    · obtain ⟨hlt, h10⟩ := hgo
      have kl : (k : Int) < (l.length : Int) := by omega
      have k10 : (k : Int) < 8 := by omega
      have d10 : decide ((k : Int) < 8) = true := by simpa using k10
      obtain ⟨A1, c1, hv1, hms, hfo⟩ := own_formAsset Hown.out
      have Hms := Lib.hid hms
      have Hfo := Lib.hid hfo
      have hlen := tabAssetN_len okf l k
      subst hv1
      obtain ⟨b, o, rfl, hb, hc⟩ := HR.out k (encAsset l[k]) (by simp [hlt])
      have e0 := (Hbl.out.cell (p := ⟨b, o + k * 3 + 0, none⟩) hb).trans (hc 0 _ rfl)
      have e1 := (Hbl.out.cell (p := ⟨b, o + k * 3 + 1, none⟩) hb).trans (hc 1 _ rfl)
      have e2 := (Hbl.out.cell (p := ⟨b, o + k * 3 + 2, none⟩) hb).trans (hc 2 _ rfl)
      simp only [Nat.add_zero] at e0
      have hs := tabAssetN_succ (okf := okf) hlt
      have HS := Lib.hid hs
      have hst : stepAsset okf (tabAssetN okf l k) l[k] = if putAssetC (okf l[k]) (tabAssetN okf l k) l[k] = 0 then putAssetL (okf l[k]) (tabAssetN okf l k) l[k] else tabAssetN okf l k := rfl
      have HST := Lib.hid hst
      have HI := Lib.hid (fun W (h : Below wr.heap.size wr W) => HIS.out l[k] (List.getElem_mem hlt) W (Hbl.out.trans (h.mono hz)))
      clear hc hms hs hst hfo
      cases hq : (putAssetC (okf l[k]) (tabAssetN okf l k) l[k] == 0)
      · have HQ := Lib.hid (show ¬ putAssetC (okf l[k]) (tabAssetN okf l k) l[k] = 0 from by simpa using hq)
        go_wp2_with (go_at_call 10; (with_reducible refine (ref12Put (okf l[k]) (tabAssetN okf l k) l[k] A1 c1 _ (by omega) Hms.out Hfo.out HI.out).mono ?_); rintro e w1 ⟨v1, rfl, hown1, hb1⟩; have Hown1 := Lib.hid hown1; have Hb1 := Lib.hid hb1; have hz1 := hb1.size; clear hown1 hb1)
        go_roundw
        case rel => exact ⟨k + 1, by omega, by omega, by go_num, by rw [HS.out, HST.out, if_neg HQ.out]; exact Hown.out.keep Hb1.out, Hbl.out.trans (Hb1.out.mono hz)⟩
        case measure => simp [intOf]; omega
      · have HQ := Lib.hid (show putAssetC (okf l[k]) (tabAssetN okf l k) l[k] = 0 from by simpa using hq)
        go_wp2_with (go_at_call 10; (with_reducible refine (ref12Put (okf l[k]) (tabAssetN okf l k) l[k] A1 c1 _ (by omega) Hms.out Hfo.out HI.out).mono ?_); rintro e w1 ⟨v1, rfl, hown1, hb1⟩; have Hown1 := Lib.hid hown1; have Hb1 := Lib.hid hb1; have hz1 := hb1.size; clear hown1 hb1)
        go_roundw
        case rel => exact ⟨k + 1, by omega, by omega, by go_num, by rw [HS.out, HST.out, if_pos HQ.out]; exact Hown1.out.mono hz, Hbl.out.trans (Hb1.out.mono hz)⟩
        case measure => simp [intOf]; omega
    · have ht := tabAsset_at (okf := okf) (l := l) (k := k) (n := 8) (by omega)
      have HT := Lib.hid ht
      clear ht
      by_cases hlt : k < l.length
      · have d1 : decide ((k : Int) < (l.length : Int)) = true := by simpa using hlt
        have d2 : decide ((k : Int) < 8) = false := by simp; omega
        go_wp2_with fail
        go_ret
        exact ⟨_, rfl, by rw [← HT.out]; exact Hown.out, Hbl.out⟩
      · have d1 : decide ((k : Int) < (l.length : Int)) = false := by simpa using hlt
        go_wp2_with fail
        go_ret
        exact ⟨_, rfl, by rw [← HT.out]; exact Hown.out, Hbl.out⟩
end Go.Proofs.Ytalgfpegaobacaa

/- Lots: the type; which may be, how they stand; what any are with one more, or without some of one. No program in sight. -/
namespace Go.Proofs.Ytalgfpegaobacaa
open Go.RowKit
structure Lot where
  asset : Int
  tag : Int
  qty : Int
  deriving DecidableEq
def encLot (x : Lot) : List Value := [.int .i64 x.asset, .int .i64 x.tag, .int .i64 x.qty]
def okLot (x : Lot) : Prop := In64 x.asset ∧ In64 x.tag ∧ In64 x.qty
theorem rowsLot (l : List Lot) : ∀ r ∈ l.map encLot, r.length = 3 ∧ ∀ u ∈ r, u.oneCell' = true := by
  intro r hr
  obtain ⟨m, _, rfl⟩ := List.mem_map.1 hr
  refine ⟨rfl, ?_⟩
  simp only [encLot, List.mem_cons, List.not_mem_nil, or_false, forall_eq_or_imp, forall_eq]
  exact ⟨rfl, rfl, rfl⟩
theorem encLot_inj {x y : Lot} (h : encLot x = encLot y) : x = y := by
  unfold encLot at h
  simp only [List.cons.injEq, Value.int.injEq, and_true, true_and] at h
  obtain ⟨h0, h1, h2⟩ := h
  obtain ⟨xasset, xtag, xqty⟩ := x
  obtain ⟨yasset, ytag, yqty⟩ := y
  simp only at h0 h1 h2
  subst h0 h1 h2
  rfl
theorem neqLot {x y : Lot} (h : x ≠ y) : ((x.asset == y.asset) = false) ∨ ((x.tag == y.tag) = false) ∨ ((x.qty == y.qty) = false) := by
  cases h0 : (x.asset == y.asset)
  · simp
  cases h1 : (x.tag == y.tag)
  · simp
  cases h2 : (x.qty == y.qty)
  · simp
  · exfalso
    apply h
    obtain ⟨xasset, xtag, xqty⟩ := x
    obtain ⟨yasset, ytag, yqty⟩ := y
    simp_all
def rightL (x : Lot) : Bool := decide (1 ≤ x.asset) && decide (x.asset ≤ 4) && decide (0 ≤ x.tag) && decide (x.tag ≤ 255) && decide (0 < x.qty)
theorem rightL_iff {x : Lot} : rightL x = true ↔ 1 ≤ x.asset ∧ x.asset ≤ 4 ∧ 0 ≤ x.tag ∧ x.tag ≤ 255 ∧ 0 < x.qty := by simp [rightL, and_assoc]
theorem rightL_no {x : Lot} (h : ¬ (1 ≤ x.asset ∧ x.asset ≤ 4 ∧ 0 ≤ x.tag ∧ x.tag ≤ 255 ∧ 0 < x.qty)) : rightL x = false := by
  cases hr : rightL x
  · rfl
  · exact absurd (rightL_iff.1 hr) h
/-- How two lots stand: by assets, then by tags. -/
def ordL (a b : Lot) : Int := orOf (ord a.asset b.asset) (ord a.tag b.tag)
def ltL (a b : Lot) : Bool := decide (ordL a b < 0)
def eqL (a b : Lot) : Bool := ordL a b == 0
theorem ltL_iff {a b : Lot} : ltL a b = true ↔ a.asset < b.asset ∨ (a.asset = b.asset ∧ a.tag < b.tag) := by
  unfold ltL ordL orOf ord
  rw [decide_eq_true_eq]
  repeat' split
  all_goals omega
theorem eqL_iff {a b : Lot} : eqL a b = true ↔ a.asset = b.asset ∧ a.tag = b.tag := by
  unfold eqL ordL orOf ord
  rw [beq_iff_eq]
  repeat' split
  all_goals omega
theorem ltL_no {a b : Lot} (h : ¬ (a.asset < b.asset ∨ (a.asset = b.asset ∧ a.tag < b.tag))) : ltL a b = false := by
  cases hr : ltL a b
  · rfl
  · exact absurd (ltL_iff.1 hr) h
theorem eqL_no {a b : Lot} (h : ¬ (a.asset = b.asset ∧ a.tag = b.tag)) : eqL a b = false := by
  cases hr : eqL a b
  · rfl
  · exact absurd (eqL_iff.1 hr) h
/-- Lots that may be, each behind the one ahead of it. -/
def isR : Option Lot → List Lot → Bool
  | _, [] => true
  | none, x :: t => rightL x && isR (some x) t
  | some p, x :: t => rightL x && ltL p x && isR (some x) t
def isL (l : List Lot) : Bool := isR none l && decide (l.length ≤ 16)
def codeL (l : List Lot) (x : Lot) : Int := if isL l then (if rightL x then 0 else 2) else 3
def qtyL (l : List Lot) (a : Int) : List Int := (l.filter (fun x => x.asset == a)).map (·.qty)
def sumL (l : List Lot) (a : Int) : Int := (qtyL l a).sum
def getL (l : List Lot) (a t : Int) : Int := match l.find? (fun x => x.asset == a && x.tag == t) with | some x => x.qty | none => 0
def plL (l : List Lot) (x : Lot) : Nat := (l.takeWhile (fun y => decide (ordL y x < 0))).length
def thL (l : List Lot) (x : Lot) : Bool := atB (fun y => ordL y x == 0) l (plL l x)
def SortL (l : List Lot) : Prop := l.Pairwise (fun a b => ltL a b = true)
theorem ltL_trans {a b c : Lot} (h : ltL a b = true) (k : ltL b c = true) : ltL a c = true := by
  rw [ltL_iff] at *; omega
theorem isR_sort : ∀ {l : List Lot} {p : Option Lot} (_ : isR p l = true), SortL l ∧ (∀ x ∈ l, rightL x = true) ∧ ∀ q, p = some q → ∀ x ∈ l, ltL q x = true
  | [], _, _ => ⟨List.Pairwise.nil, by simp, by simp⟩
  | x :: t, p, h => by
    have ⟨h0, h1, h2⟩ : rightL x = true ∧ isR (some x) t = true ∧ ∀ q, p = some q → ltL q x = true := by
      cases p with
      | none => simp only [isR, Bool.and_eq_true] at h; exact ⟨h.1, h.2, fun q hq => by cases hq⟩
      | some q => simp only [isR, Bool.and_eq_true] at h; exact ⟨h.1.1, h.2, fun q' hq => by injection hq with e; subst e; exact h.1.2⟩
    have ⟨i1, i2, i3⟩ := isR_sort h1
    have i4 := i3 x rfl
    refine ⟨List.pairwise_cons.2 ⟨i4, i1⟩, fun y hy => ?_, fun q hq y hy => ?_⟩
    · rcases List.mem_cons.1 hy with rfl | hy
      · exact h0
      · exact i2 y hy
    · rcases List.mem_cons.1 hy with rfl | hy
      · exact h2 q hq
      · exact ltL_trans (h2 q hq) (i4 y hy)
theorem isL_sort {l : List Lot} (h : isL l = true) : SortL l ∧ (∀ x ∈ l, rightL x = true) ∧ l.length ≤ 16 := by
  unfold isL at h
  rw [Bool.and_eq_true, decide_eq_true_eq] at h
  have := isR_sort h.1
  exact ⟨this.1, this.2.1, h.2⟩
/-- What Put answers. -/
def putLC (l : List Lot) (x : Lot) : Int := if codeL l x = 0 then (if thL l x then (if in64 ((l.getD (plL l x) ⟨0, 0, 0⟩).qty + x.qty) then 0 else 7) else if 16 ≤ l.length then 25 else 0) else codeL l x
def putLL (l : List Lot) (x : Lot) : List Lot := if putLC l x = 0 then (if thL l x then l.set (plL l x) ⟨x.asset, x.tag, (l.getD (plL l x) ⟨0, 0, 0⟩).qty + x.qty⟩ else l.take (plL l x) ++ x :: l.drop (plL l x)) else []
/-- What Take answers. -/
def takLC (l : List Lot) (x : Lot) : Int := if codeL l x = 0 then (if thL l x = true ∧ x.qty ≤ (l.getD (plL l x) ⟨0, 0, 0⟩).qty then 0 else 23) else codeL l x
def takLL (l : List Lot) (x : Lot) : List Lot := if takLC l x = 0 then (if (l.getD (plL l x) ⟨0, 0, 0⟩).qty = x.qty then l.take (plL l x) ++ l.drop (plL l x + 1) else l.set (plL l x) ⟨x.asset, x.tag, (l.getD (plL l x) ⟨0, 0, 0⟩).qty - x.qty⟩) else []
theorem plL_le (l : List Lot) (x : Lot) : plL l x ≤ l.length := tw_len _ _
theorem thL_lt {l : List Lot} {x : Lot} (h : thL l x = true) : plL l x < l.length := by
  rcases Nat.lt_or_ge (plL l x) l.length with h1 | h1
  · exact h1
  · rw [show thL l x = false from atB_none h1] at h; cases h
theorem thL_eq {l : List Lot} {x : Lot} (h : thL l x = true) : (l[plL l x]'(thL_lt h)).asset = x.asset ∧ (l[plL l x]'(thL_lt h)).tag = x.tag := by
  have h1 : eqL (l[plL l x]'(thL_lt h)) x = true := by rw [← h]; exact (atB_some (p := fun y => ordL y x == 0) (thL_lt h)).symm
  exact eqL_iff.1 h1
end Go.Proofs.Ytalgfpegaobacaa

/- The sum of numbers of 64 bits, or that it leaves them: contract of fix.Sum. -/
namespace Go.Proofs.Ytalgfpegaobacaa
open Go.RowKit
def sum64C (l : List Int) : Int := if in64 l.sum then 0 else 7
def sum64N (l : List Int) : Int := if in64 l.sum then l.sum else 0
theorem sum64_in (l : List Int) : In64 (sum64N l) := by
  unfold sum64N
  split
  · rename_i h; exact in64_iff.1 h
  · unfold In64; omega
theorem fixSum64 (l : List Int) (A : Option Addr) (c : Nat) (w : World) (hl : l.length ≤ 1099511627776) (hin : ∀ n ∈ l, In64 n) (hr : Rd w A 1 (l.map encI)) :
    Calls Try.prog 13 #[.slice A l.length c] w fun e w' => e = .returned (.tuple #[.int .i64 (sum64N l), .int .i64 (sum64C l)]) ∧ Below w.heap.size w w' := by
  unfold sum64N sum64C
  by_cases h : in64 l.sum = true
  · rw [if_pos h, if_pos h]; exact fixSumYes l A c w hl hin hr (in64_iff.1 h)
  · rw [if_neg h, if_neg h]; exact fixSumNo l A c w hl hin hr (in64_no (by simpa using h))
end Go.Proofs.Ytalgfpegaobacaa

/- What lots are worth, and count, plain. -/
namespace Go.Proofs.Ytalgfpegaobacaa
open Go.RowKit
/-- The code of the first lot that has no value, or 0; the values. -/
def vC (E : Asset → Int → Int) (ats : List Asset) : List Lot → Int
  | [] => 0
  | x :: t => if (findAsset ats x.asset).2 then (if E (findAsset ats x.asset).1 x.qty = 0 then vC E ats t else E (findAsset ats x.asset).1 x.qty) else 11
def vL (F : Asset → Int → Int) (ats : List Asset) (l : List Lot) : List Int := l.map fun x => F (findAsset ats x.asset).1 x.qty
def vaC (E : Asset → Int → Int) (ats : List Asset) (l : List Lot) : Int := if isL l then vC E ats l else 3
def vaL (E F : Asset → Int → Int) (ats : List Asset) (l : List Lot) : List Int := if vaC E ats l = 0 then vL F ats l else []
def valC (ats : List Asset) (l : List Lot) (cash : Int) : Int := if vaC countE ats l = 0 then sum64C (vL countN ats l ++ [cash]) else vaC countE ats l
def valN (ats : List Asset) (l : List Lot) (cash : Int) : Int := if vaC countE ats l = 0 then sum64N (vL countN ats l ++ [cash]) else 0
def worC (ats : List Asset) (l : List Lot) : Int := if vaC worthE ats l = 0 then sum64C (vL worthN ats l) else vaC worthE ats l
def worN (ats : List Asset) (l : List Lot) : Int := if vaC worthE ats l = 0 then sum64N (vL worthN ats l) else 0
theorem vC_none {E : Asset → Int → Int} {ats : List Asset} {x : Lot} {t : List Lot} (h : (findAsset ats x.asset).2 = false) : vC E ats (x :: t) = 11 := by
  unfold vC; rw [h]; rfl
theorem vC_bad {E : Asset → Int → Int} {ats : List Asset} {x : Lot} {t : List Lot} (h : (findAsset ats x.asset).2 = true) (h2 : E (findAsset ats x.asset).1 x.qty ≠ 0) : vC E ats (x :: t) = E (findAsset ats x.asset).1 x.qty := by
  unfold vC; rw [h, if_pos rfl, if_neg h2]
theorem vC_step {E : Asset → Int → Int} {ats : List Asset} {x : Lot} {t : List Lot} (h : (findAsset ats x.asset).2 = true) (h2 : E (findAsset ats x.asset).1 x.qty = 0) : vC E ats (x :: t) = vC E ats t := by
  show (if (findAsset ats x.asset).2 then (if E (findAsset ats x.asset).1 x.qty = 0 then vC E ats t else E (findAsset ats x.asset).1 x.qty) else 11) = _
  rw [h, if_pos rfl, if_pos h2]
theorem find_ok {ats : List Asset} (h : ∀ a ∈ ats, okA a) {id : Int} (hf : (findAsset ats id).2 = true) : okA (findAsset ats id).1 := by
  unfold findAsset at *
  cases hq : ats.find? (fun m => m.id == id) with
  | none => rw [hq] at hf; cases hf
  | some m => exact h m (List.mem_of_find?_eq_some hq)
/-- The document's sum: counted or not, of the lots and cash. -/
def refT (b : Bool) (ats : List Asset) (x : Lot) : Int := if b then countA (findAsset ats x.asset).1 x.qty else x.qty * (findAsset ats x.asset).1.price
def refS (b : Bool) (ats : List Asset) (l : List Lot) : Int := (l.map (refT b ats)).sum
def rsCv (b : Bool) (ats : List Asset) (l : List Lot) (cash : Int) : Int := if vaC worthE ats l = 0 then (if in64 (cash + refS b ats l) then 0 else 7) else vaC worthE ats l
def rsNv (b : Bool) (ats : List Asset) (l : List Lot) (cash : Int) : Int := if vaC worthE ats l = 0 then (if in64 (cash + refS b ats l) then cash + refS b ats l else 0) else 0
theorem refS_snoc {b : Bool} {ats : List Asset} {l : List Lot} {k : Nat} (h : k < l.length) : refS b ats (l.take (k + 1)) = refS b ats (l.take k) + refT b ats l[k] := by
  unfold refS; rw [map_snoc h, List.sum_append]; simp
theorem count_worth {x : Asset} {q : Int} (hx : okA x) (hq : 0 < q) : countE x q = worthE x q := by
  unfold countE worthE
  rw [if_pos hx, if_pos hx, if_neg (by omega)]
theorem okE_zero {n : Int} (h : okE n = 0) : in64 n = true := by
  unfold okE at h
  split at h
  · assumption
  · cases h
theorem vals_same {ats : List Asset} (h : ∀ a ∈ ats, okA a) : ∀ {l : List Lot} (_ : ∀ x ∈ l, rightL x = true), vC countE ats l = vC worthE ats l ∧ (vC worthE ats l = 0 → vL countN ats l = l.map (refT true ats) ∧ vL worthN ats l = l.map (refT false ats))
  | [], _ => ⟨rfl, fun _ => ⟨rfl, rfl⟩⟩
  | x :: t, hr => by
    have hi := vals_same h (l := t) fun y hy => hr y (List.mem_cons_of_mem _ hy)
    have hq : 0 < x.qty := (rightL_iff.1 (hr x (List.mem_cons_self ..))).2.2.2.2
    cases hf : (findAsset ats x.asset).2
    · exact ⟨by rw [vC_none hf, vC_none hf], fun h0 => by rw [vC_none hf] at h0; cases h0⟩
    · have ho := find_ok h hf
      have he := count_worth ho hq
      by_cases h0 : worthE (findAsset ats x.asset).1 x.qty = 0
      · rw [vC_step hf h0, vC_step hf (he.trans h0)]
        refine ⟨hi.1, fun hz => ?_⟩
        obtain ⟨i1, i2⟩ := hi.2 hz
        have hin : in64 (x.qty * (findAsset ats x.asset).1.price) = true := by
          unfold worthE at h0
          rw [if_pos ho] at h0
          exact okE_zero h0
        have c1 : countN (findAsset ats x.asset).1 x.qty = refT true ats x := by unfold countN; rw [if_pos ⟨ho, by omega, hin⟩]; rfl
        have c2 : worthN (findAsset ats x.asset).1 x.qty = refT false ats x := by unfold worthN okN; rw [if_pos ho, if_pos hin]; rfl
        refine ⟨?_, ?_⟩
        · show countN _ _ :: vL countN ats t = refT true ats x :: t.map (refT true ats)
          rw [i1, c1]
        · show worthN _ _ :: vL worthN ats t = refT false ats x :: t.map (refT false ats)
          rw [i2, c2]
      · rw [vC_bad hf h0, vC_bad hf (fun e => h0 (he.symm.trans e)), he]
        exact ⟨rfl, fun e => absurd e h0⟩
theorem va_same {ats : List Asset} (h : ∀ a ∈ ats, okA a) (l : List Lot) : vaC countE ats l = vaC worthE ats l ∧ (vaC worthE ats l = 0 → vL countN ats l = l.map (refT true ats) ∧ vL worthN ats l = l.map (refT false ats)) := by
  unfold vaC
  cases hl : isL l
  · exact ⟨rfl, fun e => by cases e⟩
  · have := vals_same h (isL_sort hl).2.1
    exact this
theorem val_ref {ats : List Asset} (h : ∀ a ∈ ats, okA a) (l : List Lot) (cash : Int) : valC ats l cash = rsCv true ats l cash ∧ valN ats l cash = rsNv true ats l cash := by
  obtain ⟨h1, h2⟩ := va_same h l
  unfold valC valN rsCv rsNv
  rw [h1]
  by_cases h0 : vaC worthE ats l = 0
  · rw [if_pos h0, if_pos h0, if_pos h0, if_pos h0, (h2 h0).1]
    unfold sum64C sum64N
    rw [List.sum_append, show (l.map (refT true ats)).sum + [cash].sum = cash + refS true ats l from by unfold refS; simp; omega]
    exact ⟨rfl, rfl⟩
  · rw [if_neg h0, if_neg h0, if_neg h0, if_neg h0]; exact ⟨rfl, rfl⟩
theorem wor_ref {ats : List Asset} (h : ∀ a ∈ ats, okA a) (l : List Lot) : worC ats l = rsCv false ats l 0 ∧ worN ats l = rsNv false ats l 0 := by
  obtain ⟨h1, h2⟩ := va_same h l
  unfold worC worN rsCv rsNv
  by_cases h0 : vaC worthE ats l = 0
  · rw [if_pos h0, if_pos h0, if_pos h0, if_pos h0, (h2 h0).2]
    unfold sum64C sum64N
    rw [show (l.map (refT false ats)).sum = 0 + refS false ats l from by unfold refS; omega]
    exact ⟨rfl, rfl⟩
  · rw [if_neg h0, if_neg h0, if_neg h0, if_neg h0]; exact ⟨rfl, rfl⟩
theorem worthN64 (x : Asset) (q : Int) : In64 (worthN x q) := by
  unfold worthN okN
  split
  · split
    · rename_i h; exact in64_iff.1 h
    · unfold In64; omega
  · unfold In64; omega
theorem countN64 (x : Asset) (q : Int) : In64 (countN x q) := by
  unfold countN
  split
  · rename_i h
    have h1 := count_le h.1 h.2.1
    have h2 := in64_iff.1 h.2.2
    unfold In64 at *
    omega
  · unfold In64; omega
theorem vL_len (F : Asset → Int → Int) (ats : List Asset) (l : List Lot) : (vL F ats l).length = l.length := by unfold vL; simp
theorem vaL_len (E F : Asset → Int → Int) (ats : List Asset) (l : List Lot) : (vaL E F ats l).length ≤ l.length := by
  unfold vaL
  split
  · rw [vL_len]; omega
  · simp
theorem vL64 {F : Asset → Int → Int} (hF : ∀ x q, In64 (F x q)) (ats : List Asset) (l : List Lot) : ∀ z ∈ vL F ats l, In64 z := by
  intro z hz
  obtain ⟨x, _, rfl⟩ := List.mem_map.1 hz
  exact hF _ _
end Go.Proofs.Ytalgfpegaobacaa

/- Assets: contract of asset.Find. -/
namespace Go.Proofs.Ytalgfpegaobacaa
open Go.RowKit
set_option maxRecDepth 100000 in
set_option maxHeartbeats 2000000 in
theorem assetFind (l : List Asset) (id : Int) (A : Option Addr) (c : Nat) (w : World) (hl : l.length ≤ 1099511627776) (hr : Rd w A 3 (l.map encAsset)) :
    Calls Try.prog 25 #[.slice A l.length c, .int .i64 id] w fun e w' => e = .returned (.tuple #[.agg #[.int .i64 (findAsset l id).1.id, .int .i64 (findAsset l id).1.price, .int .i64 (findAsset l id).1.hair], .bool (findAsset l id).2]) ∧ Below w.heap.size w w' := by
  have Hr := Lib.hid hr
  clear hr
  go_enter Try.func25, Try.ntmps25
  go_wp2_with fail
  go_loopw [10] (fun i wr => ∃ k : Nat, k ≤ l.length ∧ i = .int .i64 k ∧ Below w.heap.size w wr ∧ w.heap.size < wr.heap.size ∧ (wr.cell? ⟨w.heap.size, 0, none⟩ = some (.int .i64 0) ∧ wr.cell? ⟨w.heap.size, 1, none⟩ = some (.int .i64 0) ∧ wr.cell? ⟨w.heap.size, 2, none⟩ = some (.int .i64 0) ∧ wr.frozen? ⟨w.heap.size, 0, none⟩ = false ∧ wr.frozen? ⟨w.heap.size, 1, none⟩ = false ∧ wr.frozen? ⟨w.heap.size, 2, none⟩ = false) ∧ ∀ j (_ : j < l.length), j < k → (l[j].id == id) = false) (fun i _ => l.length - (intOf i).toNat)
  case atStart => exact ⟨0, Nat.zero_le _, rfl, by (repeat' (first | (with_reducible exact Below.refl _ _) | (with_reducible assumption) | (with_reducible refine Below.alloc ?_ ?_ _) | (with_reducible refine Below.setCell ?_ ?_ _) | (with_reducible refine Below.drew ?_) | (with_reducible refine below_drewN ?_ _) | (with_reducible refine below_via ?_ (by with_reducible assumption) ?_) | omega | (simp; done) | (simp; omega))), by simp, by simp [go_sem], fun j _ h => absurd h (by omega)⟩
  case round =>
    obtain ⟨k, hk, rfl, hbl, hsz, ⟨g0, g1, g2, f0, f1, f2⟩, hno⟩ := hrel
    have Hbl := Lib.hid hbl
    have Hno := Lib.hid hno
    have hz := hbl.size
    clear hbl hno
    by_cases hlt : k < l.length
    · have hki : (k : Int) < (l.length : Int) := by omega
      have dl : decide ((k : Int) < (l.length : Int)) = true := by simpa using hlt
      obtain ⟨b, o, rfl, hb, hc⟩ := Hr.out k (encAsset l[k]) (by simp [hlt])
      have c0 := (Hbl.out.cell (p := ⟨b, o + k * 3 + 0, none⟩) hb).trans (hc 0 _ rfl)
      have c1 := (Hbl.out.cell (p := ⟨b, o + k * 3 + 1, none⟩) hb).trans (hc 1 _ rfl)
      have c2 := (Hbl.out.cell (p := ⟨b, o + k * 3 + 2, none⟩) hb).trans (hc 2 _ rfl)
      simp only [Nat.add_zero] at c0
      clear hc
      cases hm : (l[k].id == id)
      · have Hm := Lib.hid hm
        go_wp2_with fail
        go_roundw
        case rel => exact ⟨k + 1, by omega, by go_num, by have hbl := Hbl.out; (repeat' (first | (with_reducible exact Below.refl _ _) | (with_reducible assumption) | (with_reducible refine Below.alloc ?_ ?_ _) | (with_reducible refine Below.setCell ?_ ?_ _) | (with_reducible refine Below.drew ?_) | (with_reducible refine below_drewN ?_ _) | (with_reducible refine below_via ?_ (by with_reducible assumption) ?_) | omega | (simp; done) | (simp; omega))), by simp; omega, by simp [go_sem, g0, g1, g2, f0, f1, f2, ↓IntWalk.iteOmega], fun j hj h => by
          rcases Nat.lt_or_ge j k with h1 | h1
          · exact Hno.out j hj h1
          · obtain rfl : j = k := by omega
            exact Hm.out⟩
        case measure => simp [intOf]; omega
      · have hi := findAsset_hit hlt hm Hno.out
        have Hi := Lib.hid hi
        clear hi
        go_wp2_with fail
        rw [Hi.out]
        have hbl := Hbl.out
        refine bodyPost_ret (by simp [results, Try.results25, go_sem, g0, g1, g2]; try rfl) rfl ⟨rfl, ?_⟩
        (repeat' (first | (with_reducible exact Below.refl _ _) | (with_reducible assumption) | (with_reducible refine Below.alloc ?_ ?_ _) | (with_reducible refine Below.setCell ?_ ?_ _) | (with_reducible refine Below.drew ?_) | (with_reducible refine below_drewN ?_ _) | (with_reducible refine below_via ?_ (by with_reducible assumption) ?_) | omega | (simp; done) | (simp; omega)))
    · have dl : decide ((k : Int) < (l.length : Int)) = false := by simpa using hlt
      have hi := findAsset_miss (l := l) (fun j hj => Hno.out j hj (by omega))
      have Hi := Lib.hid hi
      clear hi
      go_wp2_with fail
      rw [Hi.out]
      have hbl := Hbl.out
      refine bodyPost_ret (by simp [results, Try.results25, go_sem, g0, g1, g2]; try rfl) rfl ⟨rfl, ?_⟩
      (repeat' (first | (with_reducible exact Below.refl _ _) | (with_reducible assumption) | (with_reducible refine Below.alloc ?_ ?_ _) | (with_reducible refine Below.setCell ?_ ?_ _) | (with_reducible refine Below.drew ?_) | (with_reducible refine below_drewN ?_ _) | (with_reducible refine below_via ?_ (by with_reducible assumption) ?_) | omega | (simp; done) | (simp; omega)))
end Go.Proofs.Ytalgfpegaobacaa

/- Plain lists: where the first is of which something holds. -/
namespace Go.Proofs.Ytalgfpegaobacaa
def idxOf {α : Type} (p : α → Bool) (l : List α) : Int := match l.findIdx? p with | some k => k | none => -1
theorem idx_hit {α : Type} {p : α → Bool} {l : List α} {k : Nat} (h : k < l.length) (hm : p l[k] = true) (hn : ∀ j (_ : j < l.length), j < k → p l[j] = false) : idxOf p l = k := by
  have : l.findIdx? p = some k := by
    rw [List.findIdx?_eq_some_iff_getElem]
    exact ⟨h, hm, fun j hj => by simp [hn j (by omega) hj]⟩
  simp [idxOf, this]
theorem idx_miss {α : Type} {p : α → Bool} {l : List α} (hn : ∀ j (_ : j < l.length), p l[j] = false) : idxOf p l = -1 := by
  have : l.findIdx? p = none := by
    rw [List.findIdx?_eq_none_iff]
    intro x hx
    obtain ⟨j, hj, rfl⟩ := List.mem_iff_getElem.1 hx
    exact hn j hj
  simp [idxOf, this]
end Go.Proofs.Ytalgfpegaobacaa
