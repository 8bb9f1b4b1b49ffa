/- Joined: Asset4, LotT, S64, CvP, UnT, AcctT, KeyP, Away, ShG. -/
import Derived.Test.YtalgfpegaobacaaGreatJz1
import Derived.Test.YtalgfpegaobacaaGreatJz4
import Derived.Test.YtalgfpegaobacaaGreatJz2
/- Assets: contracts of the reference's Find, Put, Table. -/
namespace Go.Proofs.YtalgfpegaobacaaGreat
open Go.RowKit
theorem elAsset : Elem Tryz.prog 22 63 3 24 := elem_of Tryz.underlying22 (z := .agg #[.int .i64 0, .int .i64 0, .int .i64 0]) (by kernel_rfl) rfl (by omega)
def findAsset (l : List Asset) (id : Int) : Asset × Bool := match l.find? (fun m => m.id == id) with | some m => (m, true) | none => (⟨0, 0, 0⟩, false)
theorem findAsset_hit {l : List Asset} {id : Int} {k : Nat} (h : k < l.length) (hm : (l[k].id == id) = true) (hn : ∀ j (_ : j < l.length), j < k → (l[j].id == id) = false) : findAsset l id = (l[k], true) := by
  have : l.find? (fun m => m.id == id) = some l[k] := by
    rw [List.find?_eq_some_iff_getElem]
    exact ⟨hm, k, h, rfl, fun j hj => by simp [hn j (by omega) hj]⟩
  simp [findAsset, this]
theorem findAsset_miss {l : List Asset} {id : Int} (hn : ∀ j (_ : j < l.length), (l[j].id == id) = false) : findAsset l id = (⟨0, 0, 0⟩, false) := by
  have : l.find? (fun m => m.id == id) = none := by
    rw [List.find?_eq_none]
    intro x hx
    obtain ⟨j, hj, rfl⟩ := List.mem_iff_getElem.1 hx
    simp [hn j hj]
  simp [findAsset, this]
def insAsset (l : List Asset) (m : Asset) : List Asset := l.takeWhile (fun x => decide (x.id < m.id)) ++ m :: l.dropWhile (fun x => decide (x.id < m.id))
def putAssetC (ob : Bool) (l : List Asset) (m : Asset) : Int := if ob then (if (findAsset l m.id).2 then 12 else 0) else 2
def putAssetL (ob : Bool) (l : List Asset) (m : Asset) : List Asset := if ob = true ∧ (findAsset l m.id).2 = false then insAsset l m else []
def PutAssetPost (ob : Bool) (w : World) (l : List Asset) (m : Asset) (e : Ending) (w' : World) : Prop :=
  ∃ v, e = .returned (.tuple #[v, .int .i64 (putAssetC ob l m)]) ∧ Own w' w.heap.size 63 3 v ((putAssetL ob l m).map encAsset) ∧ Below w.heap.size w w'
theorem insAsset_len (l : List Asset) (m : Asset) : (insAsset l m).length = l.length + 1 := by
  unfold insAsset
  have := congrArg List.length (List.takeWhile_append_dropWhile (p := fun x : Asset => decide (x.id < m.id)) (l := l))
  simp only [List.length_append, List.length_cons] at this ⊢
  omega
theorem putAssetL_len (ob : Bool) (l : List Asset) (m : Asset) : (putAssetL ob l m).length ≤ l.length + 1 := by
  unfold putAssetL
  split
  · rw [insAsset_len]; omega
  · simp
def stepAsset (okf : Asset → Bool) (out : List Asset) (m : Asset) : List Asset := if putAssetC (okf m) out m = 0 then putAssetL (okf m) out m else out
def tabAssetN (okf : Asset → Bool) (l : List Asset) (k : Nat) : List Asset := (l.take k).foldl (stepAsset okf) []
theorem tabAssetN_succ {okf : Asset → Bool} {l : List Asset} {k : Nat} (h : k < l.length) : tabAssetN okf l (k + 1) = stepAsset okf (tabAssetN okf l k) l[k] := by
  unfold tabAssetN
  rw [List.take_succ_eq_append_getElem h, List.foldl_append]
  rfl
theorem tabAssetN_len (okf : Asset → Bool) (l : List Asset) : ∀ k, (tabAssetN okf l k).length ≤ k
  | 0 => by simp [tabAssetN]
  | k + 1 => by
    have ih := tabAssetN_len okf l k
    rcases Nat.lt_or_ge k l.length with h | h
    · rw [tabAssetN_succ h]; unfold stepAsset; split
      · have := putAssetL_len (okf l[k]) (tabAssetN okf l k) l[k]; omega
      · omega
    · have : tabAssetN okf l (k + 1) = tabAssetN okf l k := by unfold tabAssetN; rw [List.take_of_length_le (by omega), List.take_of_length_le h]
      rw [this]; omega
theorem tabAsset_at {okf : Asset → Bool} {l : List Asset} {k n : Nat} (h : k = n ∨ (k ≤ n ∧ l.length ≤ k)) : tabAssetN okf l k = tabAssetN okf l n := by
  rcases h with rfl | ⟨h1, h2⟩
  · rfl
  · unfold tabAssetN; rw [List.take_of_length_le h2, List.take_of_length_le (by omega)]
set_option maxRecDepth 100000 in
set_option maxHeartbeats 2000000 in
theorem ref12Find (l : List Asset) (id : Int) (A : Option Addr) (c : Nat) (w : World) (hl : l.length ≤ 1099511627776) (hr : Rd w A 3 (l.map encAsset)) :
    Calls Tryz.prog 72 #[.slice A l.length c, .int .i64 id] w fun e w' => e = .returned (.tuple #[.agg #[.int .i64 (findAsset l id).1.id, .int .i64 (findAsset l id).1.price, .int .i64 (findAsset l id).1.hair], .bool (findAsset l id).2]) ∧ Below w.heap.size w w' := by
  have Hr := Lib.hid hr
  clear hr
  go_enter Tryz.func72, Tryz.ntmps72
  go_wp2_with fail
  go_loopw [6] (fun i wr => ∃ k : Nat, k ≤ l.length ∧ i = .int .i64 k ∧ Below w.heap.size w wr ∧ (wr.cell? ⟨w.heap.size, 0, none⟩ = some (.int .i64 0) ∧ wr.cell? ⟨w.heap.size, 1, none⟩ = some (.int .i64 0) ∧ wr.cell? ⟨w.heap.size, 2, none⟩ = some (.int .i64 0) ∧ wr.frozen? ⟨w.heap.size, 0, none⟩ = false ∧ wr.frozen? ⟨w.heap.size, 1, none⟩ = false ∧ wr.frozen? ⟨w.heap.size, 2, none⟩ = false) ∧ ∀ j (_ : j < l.length), j < k → (l[j].id == id) = false) (fun i _ => l.length - (intOf i).toNat)
  case atStart => exact ⟨0, Nat.zero_le _, rfl, by (repeat' (first | (with_reducible exact Below.refl _ _) | (with_reducible assumption) | (with_reducible refine Below.alloc ?_ ?_ _) | (with_reducible refine Below.setCell ?_ ?_ _) | (with_reducible refine Below.drew ?_) | (with_reducible refine below_drewN ?_ _) | (with_reducible refine below_via ?_ (by with_reducible assumption) ?_) | omega | (simp; done) | (simp; omega))), by simp [go_sem], fun j _ h => absurd h (by omega)⟩
  case round =>
    obtain ⟨k, hk, rfl, hbl, ⟨g0, g1, g2, f0, f1, f2⟩, hno⟩ := hrel
    have Hbl := Lib.hid hbl
    have Hno := Lib.hid hno
    have hz := hbl.size
    clear hbl hno
    by_cases hlt : k < l.length
    · obtain ⟨b, o, rfl, hb, hc⟩ := Hr.out k (encAsset l[k]) (by simp [hlt])
      have c0 := (Hbl.out.cell (p := ⟨b, o + k * 3 + 0, none⟩) hb).trans (hc 0 _ rfl)
      have c1 := (Hbl.out.cell (p := ⟨b, o + k * 3 + 1, none⟩) hb).trans (hc 1 _ rfl)
      have c2 := (Hbl.out.cell (p := ⟨b, o + k * 3 + 2, none⟩) hb).trans (hc 2 _ rfl)
      simp only [Nat.add_zero] at c0
      clear hc
      cases hm : (l[k].id == id)
      · have Hm := Lib.hid hm
        go_wp2_with fail
        go_roundw
        case rel => exact ⟨k + 1, by omega, by go_num, Hbl.out, ⟨g0, g1, g2, f0, f1, f2⟩, fun j hj h => by
          rcases Nat.lt_or_ge j k with h1 | h1
          · exact Hno.out j hj h1
          · obtain rfl : j = k := by omega
            exact Hm.out⟩
        case measure => simp [intOf]; omega
      · have hi := findAsset_hit hlt hm Hno.out
        have Hi := Lib.hid hi
        clear hi
        go_wp2_with fail
        rw [Hi.out]
        have hbl := Hbl.out
        refine bodyPost_ret (by simp [results, Tryz.results72, go_sem, g0, g1, g2]; try rfl) rfl ⟨rfl, ?_⟩
        (repeat' (first | (with_reducible exact Below.refl _ _) | (with_reducible assumption) | (with_reducible refine Below.alloc ?_ ?_ _) | (with_reducible refine Below.setCell ?_ ?_ _) | (with_reducible refine Below.drew ?_) | (with_reducible refine below_drewN ?_ _) | (with_reducible refine below_via ?_ (by with_reducible assumption) ?_) | omega | (simp; done) | (simp; omega)))
    · have hi := findAsset_miss (l := l) (fun j hj => Hno.out j hj (by omega))
      have Hi := Lib.hid hi
      clear hi
      go_wp2_with fail
      rw [Hi.out]
      have hbl := Hbl.out
      refine bodyPost_ret (by simp [results, Tryz.results72, go_sem, g0, g1, g2]; try rfl) rfl ⟨rfl, ?_⟩
      (repeat' (first | (with_reducible exact Below.refl _ _) | (with_reducible assumption) | (with_reducible refine Below.alloc ?_ ?_ _) | (with_reducible refine Below.setCell ?_ ?_ _) | (with_reducible refine Below.drew ?_) | (with_reducible refine below_drewN ?_ _) | (with_reducible refine below_via ?_ (by with_reducible assumption) ?_) | omega | (simp; done) | (simp; omega)))
set_option maxRecDepth 100000 in
set_option maxHeartbeats 4000000 in
theorem ref12Put (ob : Bool) (l : List Asset) (m : Asset) (A : Option Addr) (c : Nat) (w : World) (hl : l.length ≤ 1048576) (hr : Rs w 3 (l.map encAsset) A c) (hform : (A = none ∧ l = [] ∧ c = 0) ∨ ∃ b o, A = some ⟨b, o, none⟩)
    (c1 : ∀ W, Below w.heap.size w W → Calls Tryz.prog 71 #[.agg #[.int .i64 m.id, .int .i64 m.price, .int .i64 m.hair]] W fun e w' => e = .returned (.bool ob) ∧ Below W.heap.size W w') :
    Calls Tryz.prog 39 #[.slice A l.length c, .agg #[.int .i64 m.id, .int .i64 m.price, .int .i64 m.hair]] w (PutAssetPost ob w l m) := by
  have HR := Lib.hid hr
  have HFO := Lib.hid hform
  have hlc := hr.cap
  have hcm := hr.room
  rw [List.length_map] at hlc
  have c2 := fun W (h : Rd W A 3 (l.map encAsset)) => ref12Find l m.id A c W (by omega) h
  cases ob
  · have hp : putAssetL false l m = [] := by unfold putAssetL; rw [if_neg (fun h => by cases h.1)]
    have hq : putAssetC false l m = 2 := rfl
    have HP := Lib.hid hp
    have HQ := Lib.hid hq
    have C1 := Lib.hid c1
    clear hr c1 c2 hp hq hform hcm hlc
    go_enter Tryz.func39, Tryz.ntmps39
    go_wp2_with (go_at_call 71; (with_reducible refine (C1.out _ (by (repeat' (first | (with_reducible exact Below.refl _ _) | (with_reducible assumption) | (with_reducible refine Below.alloc ?_ ?_ _) | (with_reducible refine Below.setCell ?_ ?_ _) | (with_reducible refine Below.drew ?_) | (with_reducible refine below_drewN ?_ _) | (with_reducible refine below_via ?_ (by with_reducible assumption) ?_) | omega | (simp; done) | (simp; omega))))).mono ?_); rintro e w1 ⟨rfl, hb1⟩; obtain ⟨fc1, fg1, hc1, hf1, hz1⟩ := bget hb1; try simp at hz1)
    go_ret2
    exact ⟨_, by rw [HQ.out]; rfl, by rw [HP.out]; exact Own.nil _ _ _ _, by (repeat' (first | (with_reducible exact Below.refl _ _) | (with_reducible assumption) | (with_reducible refine Below.alloc ?_ ?_ _) | (with_reducible refine Below.setCell ?_ ?_ _) | (with_reducible refine Below.drew ?_) | (with_reducible refine below_drewN ?_ _) | (with_reducible refine below_via ?_ (by with_reducible assumption) ?_) | omega | (simp; done) | (simp; omega)))⟩
  cases hf : (findAsset l m.id).2
  rotate_left
  · rw [hf] at c2
    have hp : putAssetL true l m = [] := by unfold putAssetL; rw [hf, if_neg (by simp)]
    have hq : putAssetC true l m = 12 := by unfold putAssetC; rw [hf]; rfl
    have HP := Lib.hid hp
    have HQ := Lib.hid hq
    have C1 := Lib.hid c1
    have C2 := Lib.hid c2
    clear hr c1 c2 hp hq hf hform hcm hlc
    go_enter Tryz.func39, Tryz.ntmps39
    go_wp2_with (first | (go_at_call 71; (with_reducible refine (C1.out _ (by (repeat' (first | (with_reducible exact Below.refl _ _) | (with_reducible assumption) | (with_reducible refine Below.alloc ?_ ?_ _) | (with_reducible refine Below.setCell ?_ ?_ _) | (with_reducible refine Below.drew ?_) | (with_reducible refine below_drewN ?_ _) | (with_reducible refine below_via ?_ (by with_reducible assumption) ?_) | omega | (simp; done) | (simp; omega))))).mono ?_); rintro e w1 ⟨rfl, hb1⟩; obtain ⟨fc1, fg1, hc1, hf1, hz1⟩ := bget hb1; try simp at hz1) | (go_at_call 72; (with_reducible refine (C2.out _ (HR.out.rd.keep (by (repeat' (first | (with_reducible exact Below.refl _ _) | (with_reducible assumption) | (with_reducible refine Below.alloc ?_ ?_ _) | (with_reducible refine Below.setCell ?_ ?_ _) | (with_reducible refine Below.drew ?_) | (with_reducible refine below_drewN ?_ _) | (with_reducible refine below_via ?_ (by with_reducible assumption) ?_) | omega | (simp; done) | (simp; omega)))))).mono ?_); rintro e w2 ⟨rfl, hb2⟩; obtain ⟨fc2, fg2, hc2, hf2, hz2⟩ := bget hb2; try simp at hz2) | fail)
    go_ret2
    exact ⟨_, by rw [HQ.out]; rfl, by rw [HP.out]; exact Own.nil _ _ _ _, by (repeat' (first | (with_reducible exact Below.refl _ _) | (with_reducible assumption) | (with_reducible refine Below.alloc ?_ ?_ _) | (with_reducible refine Below.setCell ?_ ?_ _) | (with_reducible refine Below.drew ?_) | (with_reducible refine below_drewN ?_ _) | (with_reducible refine below_via ?_ (by with_reducible assumption) ?_) | omega | (simp; done) | (simp; omega)))⟩
  rw [hf] at c2
  have hp : putAssetL true l m = insAsset l m := by unfold putAssetL; rw [hf, if_pos ⟨rfl, rfl⟩]
  have hq : putAssetC true l m = 0 := by unfold putAssetC; rw [hf]; rfl
  have HP := Lib.hid hp
  have HQ := Lib.hid hq
  have C1 := Lib.hid c1
  have C2 := Lib.hid c2
  clear hr c1 c2 hp hq hf hform
  rcases HFO.out with ⟨rfl, rfl, rfl⟩ | ⟨b, o, rfl⟩
  · have c2' := C2.out
    simp only [List.length_nil] at c2'
    have C2' := Lib.hid c2'
    clear c2' C2
    go_enter Tryz.func39, Tryz.ntmps39
    go_wp2_with (first | (go_at_call 71; (with_reducible refine (C1.out _ (by (repeat' (first | (with_reducible exact Below.refl _ _) | (with_reducible assumption) | (with_reducible refine Below.alloc ?_ ?_ _) | (with_reducible refine Below.setCell ?_ ?_ _) | (with_reducible refine Below.drew ?_) | (with_reducible refine below_drewN ?_ _) | (with_reducible refine below_via ?_ (by with_reducible assumption) ?_) | omega | (simp; done) | (simp; omega))))).mono ?_); rintro e w1 ⟨rfl, hb1⟩; obtain ⟨fc1, fg1, hc1, hf1, hz1⟩ := bget hb1; try simp at hz1) | (go_at_call 72; (with_reducible refine (C2'.out _ (HR.out.rd.keep (by (repeat' (first | (with_reducible exact Below.refl _ _) | (with_reducible assumption) | (with_reducible refine Below.alloc ?_ ?_ _) | (with_reducible refine Below.setCell ?_ ?_ _) | (with_reducible refine Below.drew ?_) | (with_reducible refine below_drewN ?_ _) | (with_reducible refine below_via ?_ (by with_reducible assumption) ?_) | omega | (simp; done) | (simp; omega)))))).mono ?_); rintro e w2 ⟨rfl, hb2⟩; obtain ⟨fc2, fg2, hc2, hf2, hz2⟩ := bget hb2; try simp at hz2) | fail)
    refine wp_loop_rounds 1 ?_
    rw [rounds_succ]
    go_wp2_with fail
    go_quiet (fail)
    go_wp2_with (first | (at_builtin; refine wpList_app rfl _ _ _ rfl elAsset w2.heap.size _ [] rfl (Own.nil _ _ _ _) none 0 0 rfl [] rfl (fun _ => rfl) (fun i r h => by simp at h) (fun r h => by simp at h) (by unfold maxLen; simp) (by simp) (by first | omega | (simp; done) | (simp; omega)) ?_; intro v1 w3 hown1 hb3; obtain ⟨fc3, fg3, hc3, hf3, hz3⟩ := bget hb3; (try simp at hz3)) | (at_builtin; refine wpList_app rfl _ _ _ rfl elAsset w2.heap.size _ _ rfl (hown1.alloc _) (some ⟨w3.heap.size, 0, none⟩) 1 1 rfl [encAsset m] rfl (fun h => by cases h) rd_one (rowsAsset [m]) (by unfold maxLen; simp) (by simp) (by first | omega | (simp; done) | (simp; omega)) ?_; intro v2 w4 hown2 hb4; obtain ⟨fc4, fg4, hc4, hf4, hz4⟩ := bget hb4; (try simp at hz4)) | (at_builtin; refine wpList_app rfl _ _ _ rfl elAsset w2.heap.size _ _ rfl hown2 none 0 0 rfl [] rfl (fun _ => rfl) (fun i r h => by simp at h) (fun r h => by simp at h) (by unfold maxLen; simp) (by simp) (by first | omega | (simp; done) | (simp; omega)) ?_; intro v3 w5 hown3 hb5) | fail)
    go_ret2
    exact ⟨_, by rw [HQ.out]; rfl, by rw [HP.out]; exact (by simpa [insAsset] using hown3.mono (by first | omega | (simp; done) | (simp; omega))), by (repeat' (first | (with_reducible exact Below.refl _ _) | (with_reducible assumption) | (with_reducible refine Below.alloc ?_ ?_ _) | (with_reducible refine Below.setCell ?_ ?_ _) | (with_reducible refine Below.drew ?_) | (with_reducible refine below_drewN ?_ _) | (with_reducible refine below_via ?_ (by with_reducible assumption) ?_) | omega | (simp; done) | (simp; omega)))⟩
  · have HF := Lib.hid HR.out.rd
    go_enter Tryz.func39, Tryz.ntmps39
    go_wp2_with (first | (go_at_call 71; (with_reducible refine (C1.out _ (by (repeat' (first | (with_reducible exact Below.refl _ _) | (with_reducible assumption) | (with_reducible refine Below.alloc ?_ ?_ _) | (with_reducible refine Below.setCell ?_ ?_ _) | (with_reducible refine Below.drew ?_) | (with_reducible refine below_drewN ?_ _) | (with_reducible refine below_via ?_ (by with_reducible assumption) ?_) | omega | (simp; done) | (simp; omega))))).mono ?_); rintro e w1 ⟨rfl, hb1⟩; obtain ⟨fc1, fg1, hc1, hf1, hz1⟩ := bget hb1; try simp at hz1) | (go_at_call 72; (with_reducible refine (C2.out _ (HR.out.rd.keep (by (repeat' (first | (with_reducible exact Below.refl _ _) | (with_reducible assumption) | (with_reducible refine Below.alloc ?_ ?_ _) | (with_reducible refine Below.setCell ?_ ?_ _) | (with_reducible refine Below.drew ?_) | (with_reducible refine below_drewN ?_ _) | (with_reducible refine below_via ?_ (by with_reducible assumption) ?_) | omega | (simp; done) | (simp; omega)))))).mono ?_); rintro e w2 ⟨rfl, hb2⟩; obtain ⟨fc2, fg2, hc2, hf2, hz2⟩ := bget hb2; try simp at hz2) | fail)
    go_loopw [9] (fun i wr => ∃ k : Nat, k ≤ l.length ∧ i = .int .i64 k ∧ Below w.heap.size w wr ∧ w.heap.size < wr.heap.size ∧ (wr.cell? ⟨w.heap.size, 0, none⟩ = some (.int .i64 m.id) ∧ wr.cell? ⟨w.heap.size, 1, none⟩ = some (.int .i64 m.price) ∧ wr.cell? ⟨w.heap.size, 2, none⟩ = some (.int .i64 m.hair)) ∧ ∀ j (_ : j < l.length), j < k → decide (l[j].id < m.id) = true) (fun i _ => l.length - (intOf i).toNat)
    case atStart => exact ⟨0, Nat.zero_le _, rfl, by (repeat' (first | (with_reducible exact Below.refl _ _) | (with_reducible assumption) | (with_reducible refine Below.alloc ?_ ?_ _) | (with_reducible refine Below.setCell ?_ ?_ _) | (with_reducible refine Below.drew ?_) | (with_reducible refine below_drewN ?_ _) | (with_reducible refine below_via ?_ (by with_reducible assumption) ?_) | omega | (simp; done) | (simp; omega))), (by first | omega | (simp; done) | (simp; omega)), by simp [go_sem, hc1, hc2, ↓IntWalk.iteOmega], fun j _ h => absurd h (by omega)⟩
    case round =>
      obtain ⟨k, hk, rfl, hbl, hsz, ⟨g0, g1, g2⟩, hno⟩ := hrel
      have Hbl := Lib.hid hbl
      have Hno := Lib.hid hno
      have hz := hbl.size
      clear hbl hno
      have kl : (k : Int) ≤ (l.length : Int) := by omega
      by_cases hlt : k < l.length
      · obtain ⟨b', o', e, hb, hc⟩ := HF.out k (encAsset l[k]) (by simp [hlt])
        injection e with e
        injection e with e1 e2 _
        subst e1 e2
        have c0 := (Hbl.out.cell (p := ⟨b, o + k * 3 + 0, none⟩) hb).trans (hc 0 _ rfl)
        simp only [Nat.add_zero] at c0
        clear hc
        have hck : ¬ c = k := by omega
        have hck' : ¬ k = c := by omega
        have kl' : (k : Int) < (l.length : Int) := by omega
        cases hm : decide (l[k].id < m.id)
        · have hw := while_cut (p := fun x : Asset => decide (x.id < m.id)) Hno.out hk (fun _ => hm)
          have hin : insAsset l m = l.take k ++ [m] ++ l.drop k := by unfold insAsset; rw [hw.1, hw.2]; simp
          have HIN := Lib.hid hin
          clear hw hin
          go_wp2_with fail
          go_quiet (fail)
          go_wp2_with (first | (at_builtin; refine wpList_app rfl _ _ _ rfl elAsset wr.heap.size _ [] rfl (Own.nil _ _ _ _) (some ⟨b, o, none⟩) k _ rfl ((l.take k).map encAsset) (by simp; omega) (fun h => by cases h) (by rw [List.map_take]; exact rd_take' (HF.out.keep (by have hbl := Hbl.out; (repeat' (first | (with_reducible exact Below.refl _ _) | (with_reducible assumption) | (with_reducible refine Below.alloc ?_ ?_ _) | (with_reducible refine Below.setCell ?_ ?_ _) | (with_reducible refine Below.drew ?_) | (with_reducible refine below_drewN ?_ _) | (with_reducible refine below_via ?_ (by with_reducible assumption) ?_) | omega | (simp; done) | (simp; omega))))) k) (rowsAsset _) (by unfold maxLen; simp; omega) (by simp; omega) (by first | omega | (simp; done) | (simp; omega)) ?_; intro v1 w3 hown1 hb3; obtain ⟨fc3, fg3, hc3, hf3, hz3⟩ := bget hb3; (try simp at hz3)) | (at_builtin; refine wpList_app rfl _ _ _ rfl elAsset wr.heap.size _ _ rfl (hown1.alloc _) (some ⟨w3.heap.size, 0, none⟩) 1 1 rfl [encAsset m] rfl (fun h => by cases h) rd_one (rowsAsset [m]) (by unfold maxLen; simp; omega) (by simp; omega) (by first | omega | (simp; done) | (simp; omega)) ?_; intro v2 w4 hown2 hb4; obtain ⟨fc4, fg4, hc4, hf4, hz4⟩ := bget hb4; (try simp at hz4)) | (at_builtin; refine wpList_app rfl _ _ _ rfl elAsset wr.heap.size _ _ rfl hown2 (some ⟨b, o + k * 3, none⟩) (l.length - k) (c - k) rfl ((l.drop k).map encAsset) (by simp) (fun h => by cases h) (by rw [List.map_drop]; exact rd_dropR (HF.out.keep (by have hbl := Hbl.out; (repeat' (first | (with_reducible exact Below.refl _ _) | (with_reducible assumption) | (with_reducible refine Below.alloc ?_ ?_ _) | (with_reducible refine Below.setCell ?_ ?_ _) | (with_reducible refine Below.drew ?_) | (with_reducible refine below_drewN ?_ _) | (with_reducible refine below_via ?_ (by with_reducible assumption) ?_) | omega | (simp; done) | (simp; omega))))) k) (rowsAsset _) (by unfold maxLen; simp; omega) (by simp; omega) (by first | omega | (simp; done) | (simp; omega)) ?_; intro v3 w5 hown3 hb5) | (at_builtin; refine wpList_app rfl _ _ _ rfl elAsset wr.heap.size _ _ rfl hown2 (some ⟨b, o, none⟩) 0 0 rfl [] rfl (fun h => by cases h) (fun i r h => by simp at h) (fun r h => by simp at h) (by unfold maxLen; simp; omega) (by simp; omega) (by first | omega | (simp; done) | (simp; omega)) ?_; intro v3 w5 hown3 hb5) | fail)
          go_ret2
          exact ⟨_, by rw [HQ.out]; rfl, by rw [HP.out, HIN.out]; exact (by simpa using hown3.mono (by first | omega | (simp; done) | (simp; omega))), by have hbl := Hbl.out; (repeat' (first | (with_reducible exact Below.refl _ _) | (with_reducible assumption) | (with_reducible refine Below.alloc ?_ ?_ _) | (with_reducible refine Below.setCell ?_ ?_ _) | (with_reducible refine Below.drew ?_) | (with_reducible refine below_drewN ?_ _) | (with_reducible refine below_via ?_ (by with_reducible assumption) ?_) | omega | (simp; done) | (simp; omega)))⟩
        · have Hm := Lib.hid hm
          go_wp2_with fail
          go_quiet (fail)
          go_wp2_with fail
          go_roundw
          case rel => exact ⟨k + 1, by omega, by go_num, by have hbl := Hbl.out; (repeat' (first | (with_reducible exact Below.refl _ _) | (with_reducible assumption) | (with_reducible refine Below.alloc ?_ ?_ _) | (with_reducible refine Below.setCell ?_ ?_ _) | (with_reducible refine Below.drew ?_) | (with_reducible refine below_drewN ?_ _) | (with_reducible refine below_via ?_ (by with_reducible assumption) ?_) | omega | (simp; done) | (simp; omega))), by simpa using hsz, by simp [go_sem, g0, g1, g2], fun j hj h => by
            rcases Nat.lt_or_ge j k with h1 | h1
            · exact Hno.out j hj h1
            · obtain rfl : j = k := by omega
              exact Hm.out⟩
          case measure => simp [intOf]; omega
      · have hw := while_cut (p := fun x : Asset => decide (x.id < m.id)) Hno.out hk (fun h => absurd h hlt)
        have hin : insAsset l m = l.take k ++ [m] ++ l.drop k := by unfold insAsset; rw [hw.1, hw.2]; simp
        have HIN := Lib.hid hin
        clear hw hin
        have hd : decide ((k : Int) < (l.length : Int)) = false := by simp; omega
        by_cases hck : c = k
        · obtain rfl : k = c := hck.symm
          go_wp2_with fail
          go_quiet (fail)
          go_wp2_with (first | (at_builtin; refine wpList_app rfl _ _ _ rfl elAsset wr.heap.size _ [] rfl (Own.nil _ _ _ _) (some ⟨b, o, none⟩) k _ rfl ((l.take k).map encAsset) (by simp; omega) (fun h => by cases h) (by rw [List.map_take]; exact rd_take' (HF.out.keep (by have hbl := Hbl.out; (repeat' (first | (with_reducible exact Below.refl _ _) | (with_reducible assumption) | (with_reducible refine Below.alloc ?_ ?_ _) | (with_reducible refine Below.setCell ?_ ?_ _) | (with_reducible refine Below.drew ?_) | (with_reducible refine below_drewN ?_ _) | (with_reducible refine below_via ?_ (by with_reducible assumption) ?_) | omega | (simp; done) | (simp; omega))))) k) (rowsAsset _) (by unfold maxLen; simp; omega) (by simp; omega) (by first | omega | (simp; done) | (simp; omega)) ?_; intro v1 w3 hown1 hb3; obtain ⟨fc3, fg3, hc3, hf3, hz3⟩ := bget hb3; (try simp at hz3)) | (at_builtin; refine wpList_app rfl _ _ _ rfl elAsset wr.heap.size _ _ rfl (hown1.alloc _) (some ⟨w3.heap.size, 0, none⟩) 1 1 rfl [encAsset m] rfl (fun h => by cases h) rd_one (rowsAsset [m]) (by unfold maxLen; simp; omega) (by simp; omega) (by first | omega | (simp; done) | (simp; omega)) ?_; intro v2 w4 hown2 hb4; obtain ⟨fc4, fg4, hc4, hf4, hz4⟩ := bget hb4; (try simp at hz4)) | (at_builtin; refine wpList_app rfl _ _ _ rfl elAsset wr.heap.size _ _ rfl hown2 (some ⟨b, o + k * 3, none⟩) (l.length - k) (c - k) rfl ((l.drop k).map encAsset) (by simp) (fun h => by cases h) (by rw [List.map_drop]; exact rd_dropR (HF.out.keep (by have hbl := Hbl.out; (repeat' (first | (with_reducible exact Below.refl _ _) | (with_reducible assumption) | (with_reducible refine Below.alloc ?_ ?_ _) | (with_reducible refine Below.setCell ?_ ?_ _) | (with_reducible refine Below.drew ?_) | (with_reducible refine below_drewN ?_ _) | (with_reducible refine below_via ?_ (by with_reducible assumption) ?_) | omega | (simp; done) | (simp; omega))))) k) (rowsAsset _) (by unfold maxLen; simp; omega) (by simp; omega) (by first | omega | (simp; done) | (simp; omega)) ?_; intro v3 w5 hown3 hb5) | (at_builtin; refine wpList_app rfl _ _ _ rfl elAsset wr.heap.size _ _ rfl hown2 (some ⟨b, o, none⟩) 0 0 rfl [] rfl (fun h => by cases h) (fun i r h => by simp at h) (fun r h => by simp at h) (by unfold maxLen; simp; omega) (by simp; omega) (by first | omega | (simp; done) | (simp; omega)) ?_; intro v3 w5 hown3 hb5) | fail)
          go_ret2
          exact ⟨_, by rw [HQ.out]; rfl, by rw [HP.out, HIN.out, List.drop_eq_nil_of_le (show l.length ≤ k from by omega)]; exact (by simpa using hown3.mono (by first | omega | (simp; done) | (simp; omega))), by have hbl := Hbl.out; (repeat' (first | (with_reducible exact Below.refl _ _) | (with_reducible assumption) | (with_reducible refine Below.alloc ?_ ?_ _) | (with_reducible refine Below.setCell ?_ ?_ _) | (with_reducible refine Below.drew ?_) | (with_reducible refine below_drewN ?_ _) | (with_reducible refine below_via ?_ (by with_reducible assumption) ?_) | omega | (simp; done) | (simp; omega)))⟩
        · have hck' : ¬ k = c := fun h => hck h.symm
          go_wp2_with fail
          go_quiet (fail)
          go_wp2_with (first | (at_builtin; refine wpList_app rfl _ _ _ rfl elAsset wr.heap.size _ [] rfl (Own.nil _ _ _ _) (some ⟨b, o, none⟩) k _ rfl ((l.take k).map encAsset) (by simp; omega) (fun h => by cases h) (by rw [List.map_take]; exact rd_take' (HF.out.keep (by have hbl := Hbl.out; (repeat' (first | (with_reducible exact Below.refl _ _) | (with_reducible assumption) | (with_reducible refine Below.alloc ?_ ?_ _) | (with_reducible refine Below.setCell ?_ ?_ _) | (with_reducible refine Below.drew ?_) | (with_reducible refine below_drewN ?_ _) | (with_reducible refine below_via ?_ (by with_reducible assumption) ?_) | omega | (simp; done) | (simp; omega))))) k) (rowsAsset _) (by unfold maxLen; simp; omega) (by simp; omega) (by first | omega | (simp; done) | (simp; omega)) ?_; intro v1 w3 hown1 hb3; obtain ⟨fc3, fg3, hc3, hf3, hz3⟩ := bget hb3; (try simp at hz3)) | (at_builtin; refine wpList_app rfl _ _ _ rfl elAsset wr.heap.size _ _ rfl (hown1.alloc _) (some ⟨w3.heap.size, 0, none⟩) 1 1 rfl [encAsset m] rfl (fun h => by cases h) rd_one (rowsAsset [m]) (by unfold maxLen; simp; omega) (by simp; omega) (by first | omega | (simp; done) | (simp; omega)) ?_; intro v2 w4 hown2 hb4; obtain ⟨fc4, fg4, hc4, hf4, hz4⟩ := bget hb4; (try simp at hz4)) | (at_builtin; refine wpList_app rfl _ _ _ rfl elAsset wr.heap.size _ _ rfl hown2 (some ⟨b, o + k * 3, none⟩) (l.length - k) (c - k) rfl ((l.drop k).map encAsset) (by simp) (fun h => by cases h) (by rw [List.map_drop]; exact rd_dropR (HF.out.keep (by have hbl := Hbl.out; (repeat' (first | (with_reducible exact Below.refl _ _) | (with_reducible assumption) | (with_reducible refine Below.alloc ?_ ?_ _) | (with_reducible refine Below.setCell ?_ ?_ _) | (with_reducible refine Below.drew ?_) | (with_reducible refine below_drewN ?_ _) | (with_reducible refine below_via ?_ (by with_reducible assumption) ?_) | omega | (simp; done) | (simp; omega))))) k) (rowsAsset _) (by unfold maxLen; simp; omega) (by simp; omega) (by first | omega | (simp; done) | (simp; omega)) ?_; intro v3 w5 hown3 hb5) | (at_builtin; refine wpList_app rfl _ _ _ rfl elAsset wr.heap.size _ _ rfl hown2 (some ⟨b, o, none⟩) 0 0 rfl [] rfl (fun h => by cases h) (fun i r h => by simp at h) (fun r h => by simp at h) (by unfold maxLen; simp; omega) (by simp; omega) (by first | omega | (simp; done) | (simp; omega)) ?_; intro v3 w5 hown3 hb5) | fail)
          go_ret2
          exact ⟨_, by rw [HQ.out]; rfl, by rw [HP.out, HIN.out]; exact (by simpa using hown3.mono (by first | omega | (simp; done) | (simp; omega))), by have hbl := Hbl.out; (repeat' (first | (with_reducible exact Below.refl _ _) | (with_reducible assumption) | (with_reducible refine Below.alloc ?_ ?_ _) | (with_reducible refine Below.setCell ?_ ?_ _) | (with_reducible refine Below.drew ?_) | (with_reducible refine below_drewN ?_ _) | (with_reducible refine below_via ?_ (by with_reducible assumption) ?_) | omega | (simp; done) | (simp; omega)))⟩
theorem own_formAsset {w : World} {base : Nat} {v : Value} {l : List Asset} (h : Own w base 63 3 v (l.map encAsset)) : ∃ A c, v = .slice A l.length c ∧ Rs w 3 (l.map encAsset) A c ∧ ((A = none ∧ l = [] ∧ c = 0) ∨ ∃ b o, A = some ⟨b, o, none⟩) := by
  obtain ⟨A, c, h1, h2, h3⟩ := h.rs
  rw [List.length_map] at h1
  refine ⟨A, c, h1, h2, ?_⟩
  rcases h3 with ⟨ha, hr, hc⟩ | ⟨g, ha, _⟩
  · exact .inl ⟨ha, List.map_eq_nil_iff.1 hr, hc⟩
  · exact .inr ⟨g, 0, ha⟩
set_option maxRecDepth 100000 in
set_option maxHeartbeats 4000000 in
theorem ref12Table (okf : Asset → Bool) (l : List Asset) (A : Option Addr) (c : Nat) (w : World) (hl : l.length ≤ maxLen) (hr : Rd w A 3 (l.map encAsset))
    (his : ∀ m ∈ l, ∀ W, Below w.heap.size w W → Calls Tryz.prog 71 #[.agg #[.int .i64 m.id, .int .i64 m.price, .int .i64 m.hair]] W fun e w' => e = .returned (.bool (okf m)) ∧ Below W.heap.size W w') :
    Calls Tryz.prog 14 #[.slice A l.length c] w fun e w' => ∃ v, e = .returned v ∧ Own w' w.heap.size 63 3 v ((tabAssetN okf l 8).map encAsset) ∧ Below w.heap.size w w' := by
  have HR := Lib.hid hr
  have HIS := Lib.hid his
  have hml : (l.length : Int) ≤ 9223372036854775807 := by unfold maxLen at hl; omega
  clear hr hl his
  go_enter Tryz.func14, Tryz.ntmps14
  go_wp2_with fail
  go_loopw [3, 4] (fun v i wr => ∃ k : Nat, k ≤ l.length ∧ k ≤ 8 ∧ i = .int .i64 k ∧ Own wr w.heap.size 63 3 v ((tabAssetN okf l k).map encAsset) ∧ Below w.heap.size w wr) (fun _ i _ => l.length - (intOf i).toNat)
  case atStart => exact ⟨0, Nat.zero_le _, Nat.zero_le _, rfl, Own.nil _ _ _ _, Below.refl _ _⟩
  case round =>
    obtain ⟨k, hk, hk10, rfl, hown, hbl⟩ := hrel
    have Hbl := Lib.hid hbl
    have Hown := Lib.hid hown
    have hz := hbl.size
    clear hbl hown
    by_cases hgo : k < l.length ∧ k < 8
    · obtain ⟨hlt, h10⟩ := hgo
      have kl : (k : Int) < (l.length : Int) := by omega
      have k10 : (k : Int) < 8 := by omega
      have d10 : decide ((k : Int) < 8) = true := by simpa using k10
      obtain ⟨A1, c1, hv1, hms, hfo⟩ := own_formAsset Hown.out
      have Hms := Lib.hid hms
      have Hfo := Lib.hid hfo
      have hlen := tabAssetN_len okf l k
      subst hv1
      obtain ⟨b, o, rfl, hb, hc⟩ := HR.out k (encAsset l[k]) (by simp [hlt])
      have e0 := (Hbl.out.cell (p := ⟨b, o + k * 3 + 0, none⟩) hb).trans (hc 0 _ rfl)
      have e1 := (Hbl.out.cell (p := ⟨b, o + k * 3 + 1, none⟩) hb).trans (hc 1 _ rfl)
      have e2 := (Hbl.out.cell (p := ⟨b, o + k * 3 + 2, none⟩) hb).trans (hc 2 _ rfl)
      simp only [Nat.add_zero] at e0
      have hs := tabAssetN_succ (okf := okf) hlt
      have HS := Lib.hid hs
      have hst : stepAsset okf (tabAssetN okf l k) l[k] = if putAssetC (okf l[k]) (tabAssetN okf l k) l[k] = 0 then putAssetL (okf l[k]) (tabAssetN okf l k) l[k] else tabAssetN okf l k := rfl
      have HST := Lib.hid hst
      have HI := Lib.hid (fun W (h : Below wr.heap.size wr W) => HIS.out l[k] (List.getElem_mem hlt) W (Hbl.out.trans (h.mono hz)))
      clear hc hms hs hst hfo
      cases hq : (putAssetC (okf l[k]) (tabAssetN okf l k) l[k] == 0)
      · have HQ := Lib.hid (show ¬ putAssetC (okf l[k]) (tabAssetN okf l k) l[k] = 0 from by simpa using hq)
        go_wp2_with (go_at_call 39; (with_reducible refine (ref12Put (okf l[k]) (tabAssetN okf l k) l[k] A1 c1 _ (by omega) Hms.out Hfo.out HI.out).mono ?_); rintro e w1 ⟨v1, rfl, hown1, hb1⟩; have Hown1 := Lib.hid hown1; have Hb1 := Lib.hid hb1; have hz1 := hb1.size; clear hown1 hb1)
        go_roundw
        case rel => exact ⟨k + 1, by omega, by omega, by go_num, by rw [HS.out, HST.out, if_neg HQ.out]; exact Hown.out.keep Hb1.out, Hbl.out.trans (Hb1.out.mono hz)⟩
        case measure => simp [intOf]; omega
      · have HQ := Lib.hid (show putAssetC (okf l[k]) (tabAssetN okf l k) l[k] = 0 from by simpa using hq)
        go_wp2_with (go_at_call 39; (with_reducible refine (ref12Put (okf l[k]) (tabAssetN okf l k) l[k] A1 c1 _ (by omega) Hms.out Hfo.out HI.out).mono ?_); rintro e w1 ⟨v1, rfl, hown1, hb1⟩; have Hown1 := Lib.hid hown1; have Hb1 := Lib.hid hb1; have hz1 := hb1.size; clear hown1 hb1)
        go_roundw
        case rel => exact ⟨k + 1, by omega, by omega, by go_num, by rw [HS.out, HST.out, if_pos HQ.out]; exact Hown1.out.mono hz, Hbl.out.trans (Hb1.out.mono hz)⟩
        case measure => simp [intOf]; omega
    · have ht := tabAsset_at (okf := okf) (l := l) (k := k) (n := 8) (by omega)
      have HT := Lib.hid ht
      clear ht
      by_cases hlt : k < l.length
      · have d1 : decide ((k : Int) < (l.length : Int)) = true := by simpa using hlt
        have d2 : decide ((k : Int) < 8) = false := by simp; omega
        go_wp2_with fail
        go_ret
        exact ⟨_, rfl, by rw [← HT.out]; exact Hown.out, Hbl.out⟩
      · have d1 : decide ((k : Int) < (l.length : Int)) = false := by simpa using hlt
        go_wp2_with fail
        go_ret
        exact ⟨_, rfl, by rw [← HT.out]; exact Hown.out, Hbl.out⟩
end Go.Proofs.YtalgfpegaobacaaGreat

/- Lots: the type; which may be, how they stand; what any are with one more, or without some of one. No program in sight. -/
namespace Go.Proofs.YtalgfpegaobacaaGreat
open Go.RowKit
structure Lot where
  asset : Int
  tag : Int
  qty : Int
  deriving DecidableEq
def encLot (x : Lot) : List Value := [.int .i64 x.asset, .int .i64 x.tag, .int .i64 x.qty]
def okLot (x : Lot) : Prop := In64 x.asset ∧ In64 x.tag ∧ In64 x.qty
theorem rowsLot (l : List Lot) : ∀ r ∈ l.map encLot, r.length = 3 ∧ ∀ u ∈ r, u.oneCell' = true := by
  intro r hr
  obtain ⟨m, _, rfl⟩ := List.mem_map.1 hr
  refine ⟨rfl, ?_⟩
  simp only [encLot, List.mem_cons, List.not_mem_nil, or_false, forall_eq_or_imp, forall_eq]
  exact ⟨rfl, rfl, rfl⟩
def rightL (x : Lot) : Bool := decide (1 ≤ x.asset) && decide (x.asset ≤ 4) && decide (0 ≤ x.tag) && decide (x.tag ≤ 255) && decide (0 < x.qty)
theorem rightL_iff {x : Lot} : rightL x = true ↔ 1 ≤ x.asset ∧ x.asset ≤ 4 ∧ 0 ≤ x.tag ∧ x.tag ≤ 255 ∧ 0 < x.qty := by simp [rightL, and_assoc]
theorem rightL_no {x : Lot} (h : ¬ (1 ≤ x.asset ∧ x.asset ≤ 4 ∧ 0 ≤ x.tag ∧ x.tag ≤ 255 ∧ 0 < x.qty)) : rightL x = false := by
  cases hr : rightL x
  · rfl
  · exact absurd (rightL_iff.1 hr) h
/-- How two lots stand: by assets, then by tags. -/
def ordL (a b : Lot) : Int := orOf (ord a.asset b.asset) (ord a.tag b.tag)
def ltL (a b : Lot) : Bool := decide (ordL a b < 0)
/-- Lots that may be, each behind the one ahead of it. -/
def isR : Option Lot → List Lot → Bool
  | _, [] => true
  | none, x :: t => rightL x && isR (some x) t
  | some p, x :: t => rightL x && ltL p x && isR (some x) t
def isL (l : List Lot) : Bool := isR none l && decide (l.length ≤ 16)
end Go.Proofs.YtalgfpegaobacaaGreat

/- The sum of numbers of 64 bits, or that it leaves them: contract of fix.Sum. -/
namespace Go.Proofs.YtalgfpegaobacaaGreat
open Go.RowKit
def sum64C (l : List Int) : Int := if in64 l.sum then 0 else 7
def sum64N (l : List Int) : Int := if in64 l.sum then l.sum else 0
theorem sum64_in (l : List Int) : In64 (sum64N l) := by
  unfold sum64N
  split
  · rename_i h; exact in64_iff.1 h
  · unfold In64; omega
theorem fixSum64 (l : List Int) (A : Option Addr) (c : Nat) (w : World) (hl : l.length ≤ 1099511627776) (hin : ∀ n ∈ l, In64 n) (hr : Rd w A 1 (l.map encI)) :
    Calls Tryz.prog 26 #[.slice A l.length c] w fun e w' => e = .returned (.tuple #[.int .i64 (sum64N l), .int .i64 (sum64C l)]) ∧ Below w.heap.size w w' := by
  unfold sum64N sum64C
  by_cases h : in64 l.sum = true
  · rw [if_pos h, if_pos h]; exact fixSumYes l A c w hl hin hr (in64_iff.1 h)
  · rw [if_neg h, if_neg h]; exact fixSumNo l A c w hl hin hr (in64_no (by simpa using h))
end Go.Proofs.YtalgfpegaobacaaGreat

/- What lots are worth, and count, plain. -/
namespace Go.Proofs.YtalgfpegaobacaaGreat
open Go.RowKit
/-- The code of the first lot that has no value, or 0; the values. -/
def vC (E : Asset → Int → Int) (ats : List Asset) : List Lot → Int
  | [] => 0
  | x :: t => if (findAsset ats x.asset).2 then (if E (findAsset ats x.asset).1 x.qty = 0 then vC E ats t else E (findAsset ats x.asset).1 x.qty) else 11
def vL (F : Asset → Int → Int) (ats : List Asset) (l : List Lot) : List Int := l.map fun x => F (findAsset ats x.asset).1 x.qty
def vaC (E : Asset → Int → Int) (ats : List Asset) (l : List Lot) : Int := if isL l then vC E ats l else 3
def vaL (E F : Asset → Int → Int) (ats : List Asset) (l : List Lot) : List Int := if vaC E ats l = 0 then vL F ats l else []
def valC (ats : List Asset) (l : List Lot) (cash : Int) : Int := if vaC countE ats l = 0 then sum64C (vL countN ats l ++ [cash]) else vaC countE ats l
def valN (ats : List Asset) (l : List Lot) (cash : Int) : Int := if vaC countE ats l = 0 then sum64N (vL countN ats l ++ [cash]) else 0
def worC (ats : List Asset) (l : List Lot) : Int := if vaC worthE ats l = 0 then sum64C (vL worthN ats l) else vaC worthE ats l
def worN (ats : List Asset) (l : List Lot) : Int := if vaC worthE ats l = 0 then sum64N (vL worthN ats l) else 0
theorem vC_none {E : Asset → Int → Int} {ats : List Asset} {x : Lot} {t : List Lot} (h : (findAsset ats x.asset).2 = false) : vC E ats (x :: t) = 11 := by
  unfold vC; rw [h]; rfl
theorem vC_bad {E : Asset → Int → Int} {ats : List Asset} {x : Lot} {t : List Lot} (h : (findAsset ats x.asset).2 = true) (h2 : E (findAsset ats x.asset).1 x.qty ≠ 0) : vC E ats (x :: t) = E (findAsset ats x.asset).1 x.qty := by
  unfold vC; rw [h, if_pos rfl, if_neg h2]
theorem vC_step {E : Asset → Int → Int} {ats : List Asset} {x : Lot} {t : List Lot} (h : (findAsset ats x.asset).2 = true) (h2 : E (findAsset ats x.asset).1 x.qty = 0) : vC E ats (x :: t) = vC E ats t := by
  show (if (findAsset ats x.asset).2 then (if E (findAsset ats x.asset).1 x.qty = 0 then vC E ats t else E (findAsset ats x.asset).1 x.qty) else 11) = _
  rw [h, if_pos rfl, if_pos h2]
theorem worthN64 (x : Asset) (q : Int) : In64 (worthN x q) := by
  unfold worthN okN
  split
  · split
    · rename_i h; exact in64_iff.1 h
    · unfold In64; omega
  · unfold In64; omega
theorem countN64 (x : Asset) (q : Int) : In64 (countN x q) := by
  unfold countN
  split
  · rename_i h
    have h1 := count_le h.1 h.2.1
    have h2 := in64_iff.1 h.2.2
    unfold In64 at *
    omega
  · unfold In64; omega
theorem vL_len (F : Asset → Int → Int) (ats : List Asset) (l : List Lot) : (vL F ats l).length = l.length := by unfold vL; simp
theorem vL64 {F : Asset → Int → Int} (hF : ∀ x q, In64 (F x q)) (ats : List Asset) (l : List Lot) : ∀ z ∈ vL F ats l, In64 z := by
  intro z hz
  obtain ⟨x, _, rfl⟩ := List.mem_map.1 hz
  exact hF _ _
end Go.Proofs.YtalgfpegaobacaaGreat

/- Units: the type, how they stand. No program in sight. -/
namespace Go.Proofs.YtalgfpegaobacaaGreat
open Go.RowKit
structure Un where
  acc : Int
  cli : Int
  deriving DecidableEq
def encUn (x : Un) : List Value := [.int .i64 x.acc, .int .i64 x.cli]
def okUn (x : Un) : Prop := In64 x.acc ∧ In64 x.cli
theorem rowsUn (l : List Un) : ∀ r ∈ l.map encUn, r.length = 2 ∧ ∀ u ∈ r, u.oneCell' = true := by
  intro r hr
  obtain ⟨m, _, rfl⟩ := List.mem_map.1 hr
  refine ⟨rfl, ?_⟩
  simp only [encUn, List.mem_cons, List.not_mem_nil, or_false, forall_eq_or_imp, forall_eq]
  exact ⟨rfl, rfl⟩
theorem neqUn {x y : Un} (h : x ≠ y) : ((x.acc == y.acc) = false) ∨ ((x.cli == y.cli) = false) := by
  cases h0 : (x.acc == y.acc)
  · simp
  cases h1 : (x.cli == y.cli)
  · simp
  · exfalso
    apply h
    obtain ⟨xacc, xcli⟩ := x
    obtain ⟨yacc, ycli⟩ := y
    simp_all
def lessU (a b : Un) : Bool := decide (a.acc < b.acc) || (a.acc == b.acc && decide (a.cli < b.cli))
theorem lessU_iff {a b : Un} : lessU a b = true ↔ a.acc < b.acc ∨ (a.acc = b.acc ∧ a.cli < b.cli) := by simp [lessU]
theorem lessU_trans {a b c : Un} (h : lessU a b = true) (k : lessU b c = true) : lessU a c = true := by
  rw [lessU_iff] at *
  omega
end Go.Proofs.YtalgfpegaobacaaGreat

/- Accounts: the types; which may be, their parts; one more client. No program in sight. -/
namespace Go.Proofs.YtalgfpegaobacaaGreat
open Go.RowKit
structure AcctV where
  id : Int
  member : Int
  kind : Int
  clients : SlOf Int
  deriving DecidableEq
def encAcctV (x : AcctV) : List Value := [.int .i64 x.id, .int .i64 x.member, .int .i64 x.kind, .slice x.clients.A x.clients.val.length x.clients.c]
theorem rowsAcctV (l : List AcctV) : ∀ r ∈ l.map encAcctV, r.length = 4 ∧ ∀ u ∈ r, u.oneCell' = true := by
  intro r hr
  obtain ⟨m, _, rfl⟩ := List.mem_map.1 hr
  refine ⟨rfl, ?_⟩
  simp only [encAcctV, List.mem_cons, List.not_mem_nil, or_false, forall_eq_or_imp, forall_eq]
  exact ⟨rfl, rfl, rfl, rfl⟩
structure Acct where
  id : Int
  member : Int
  kind : Int
  clients : List Int
  deriving DecidableEq
/-- What it is, wherever its clients lie. -/
def lgA (x : AcctV) : Acct := ⟨x.id, x.member, x.kind, x.clients.val⟩
/-- Its clients are there. -/
def GoodA (w : World) (x : AcctV) : Prop := Rs w 1 (x.clients.val.map encI) x.clients.A x.clients.c
theorem GoodA.keep {w w' : World} {x : AcctV} (h : GoodA w x) (hb : Below w.heap.size w w') : GoodA w' x := Rs.keep h hb
/-- Clients rise strictly from p on, 16 at most. -/
def risC : Int → List Int → Bool
  | _, [] => true
  | p, c :: t => decide (p < c) && decide (c ≤ 16) && risC c t
theorem risC_cons {p c : Int} {t : List Int} : risC p (c :: t) = true ↔ p < c ∧ c ≤ 16 ∧ risC c t = true := by simp [risC, and_assoc]
theorem risC_no {p c : Int} {t : List Int} (h : c ≤ p ∨ 16 < c) : risC p (c :: t) = false := by
  cases hr : risC p (c :: t)
  · rfl
  · rw [risC_cons] at hr; omega
theorem risC_step {p c : Int} {t : List Int} (h : p < c) (h2 : c ≤ 16) : risC p (c :: t) = risC c t := by simp [risC, h, h2]
theorem risC_len : ∀ {l : List Int} {p : Int} (_ : risC p l = true) (_ : p ≤ 16), p + l.length ≤ 16
  | [], p, _, hp => by simpa using hp
  | c :: t, p, h, _ => by
    rw [risC_cons] at h
    have := risC_len h.2.2 h.2.1
    simp only [List.length_cons]; omega
def mostA (k : Int) : Int := if k = 1 then 0 else if k = 4 then 1 else 16
/-- Whether an account may be. -/
def okAAc (x : Acct) : Prop := (1 ≤ x.id ∧ x.id ≤ 16) ∧ (1 ≤ x.member ∧ x.member ≤ 8) ∧ (1 ≤ x.kind ∧ x.kind ≤ 4) ∧ (x.clients.length : Int) ≤ mostA x.kind ∧ risC 0 x.clients = true
instance (x : Acct) : Decidable (okAAc x) := by unfold okAAc; infer_instance
/-- All parts. -/
def unitsA (x : Acct) : List Un := if x.kind = 1 then [⟨x.id, 0⟩] else x.clients.map (fun c => ⟨x.id, c⟩)
def findAcctV (l : List AcctV) (id : Int) : AcctV × Bool := match l.find? (fun m => m.id == id) with | some m => (m, true) | none => (⟨0, 0, 0, ⟨none, 0, []⟩⟩, false)
theorem findAcctV_hit {l : List AcctV} {id : Int} {k : Nat} (h : k < l.length) (hm : (l[k].id == id) = true) (hn : ∀ j (_ : j < l.length), j < k → (l[j].id == id) = false) : findAcctV l id = (l[k], true) := by
  have : l.find? (fun m => m.id == id) = some l[k] := by
    rw [List.find?_eq_some_iff_getElem]
    exact ⟨hm, k, h, rfl, fun j hj => by simp [hn j (by omega) hj]⟩
  simp [findAcctV, this]
theorem findAcctV_miss {l : List AcctV} {id : Int} (hn : ∀ j (_ : j < l.length), (l[j].id == id) = false) : findAcctV l id = (⟨0, 0, 0, ⟨none, 0, []⟩⟩, false) := by
  have : l.find? (fun m => m.id == id) = none := by
    rw [List.find?_eq_none]
    intro x hx
    obtain ⟨j, hj, rfl⟩ := List.mem_iff_getElem.1 hx
    simp [hn j hj]
  simp [findAcctV, this]
def insAcctV (l : List AcctV) (m : AcctV) : List AcctV := l.takeWhile (fun x => decide (x.id < m.id)) ++ m :: l.dropWhile (fun x => decide (x.id < m.id))
def putAcctVC (ob : Bool) (l : List AcctV) (m : AcctV) : Int := if ob then (if (findAcctV l m.id).2 then 12 else 0) else 2
def putAcctVL (ob : Bool) (l : List AcctV) (m : AcctV) : List AcctV := if ob = true ∧ (findAcctV l m.id).2 = false then insAcctV l m else []
def PutAcctVPost (ob : Bool) (w : World) (l : List AcctV) (m : AcctV) (e : Ending) (w' : World) : Prop :=
  ∃ v, e = .returned (.tuple #[v, .int .i64 (putAcctVC ob l m)]) ∧ Own w' w.heap.size 31 4 v ((putAcctVL ob l m).map encAcctV) ∧ Below w.heap.size w w'
theorem insAcctV_len (l : List AcctV) (m : AcctV) : (insAcctV l m).length = l.length + 1 := by
  unfold insAcctV
  have := congrArg List.length (List.takeWhile_append_dropWhile (p := fun x : AcctV => decide (x.id < m.id)) (l := l))
  simp only [List.length_append, List.length_cons] at this ⊢
  omega
theorem putAcctVL_len (ob : Bool) (l : List AcctV) (m : AcctV) : (putAcctVL ob l m).length ≤ l.length + 1 := by
  unfold putAcctVL
  split
  · rw [insAcctV_len]; omega
  · simp
def stepAcctV (okf : AcctV → Bool) (out : List AcctV) (m : AcctV) : List AcctV := if putAcctVC (okf m) out m = 0 then putAcctVL (okf m) out m else out
def tabAcctVN (okf : AcctV → Bool) (l : List AcctV) (k : Nat) : List AcctV := (l.take k).foldl (stepAcctV okf) []
theorem tabAcctVN_succ {okf : AcctV → Bool} {l : List AcctV} {k : Nat} (h : k < l.length) : tabAcctVN okf l (k + 1) = stepAcctV okf (tabAcctVN okf l k) l[k] := by
  unfold tabAcctVN
  rw [List.take_succ_eq_append_getElem h, List.foldl_append]
  rfl
theorem tabAcctVN_len (okf : AcctV → Bool) (l : List AcctV) : ∀ k, (tabAcctVN okf l k).length ≤ k
  | 0 => by simp [tabAcctVN]
  | k + 1 => by
    have ih := tabAcctVN_len okf l k
    rcases Nat.lt_or_ge k l.length with h | h
    · rw [tabAcctVN_succ h]; unfold stepAcctV; split
      · have := putAcctVL_len (okf l[k]) (tabAcctVN okf l k) l[k]; omega
      · omega
    · have : tabAcctVN okf l (k + 1) = tabAcctVN okf l k := by unfold tabAcctVN; rw [List.take_of_length_le (by omega), List.take_of_length_le h]
      rw [this]; omega
theorem tabAcctV_at {okf : AcctV → Bool} {l : List AcctV} {k n : Nat} (h : k = n ∨ (k ≤ n ∧ l.length ≤ k)) : tabAcctVN okf l k = tabAcctVN okf l n := by
  rcases h with rfl | ⟨h1, h2⟩
  · rfl
  · unfold tabAcctVN; rw [List.take_of_length_le h2, List.take_of_length_le (by omega)]
def okAV (x : AcctV) : Bool := decide (okAAc (lgA x))
end Go.Proofs.YtalgfpegaobacaaGreat

/- Rows by unit, each with a list of its own: which may be, what a unit has, what any are when a unit has just some. No program in sight. -/
namespace Go.Proofs.YtalgfpegaobacaaGreat
open Go.RowKit
/-- A unit's row. -/
structure Row (α : Type) where
  unit : Un
  rows : List α
section
variable {α : Type} {ok : List α → Bool}
def SortK (l : List (Row α)) : Prop := l.Pairwise (fun a b => lessU a.unit b.unit = true)
def isKR (ok : List α → Bool) : Option Un → List (Row α) → Bool
  | _, [] => true
  | none, x :: t => !x.rows.isEmpty && ok x.rows && isKR ok (some x.unit) t
  | some p, x :: t => !x.rows.isEmpty && ok x.rows && lessU p x.unit && isKR ok (some x.unit) t
def isK (ok : List α → Bool) (l : List (Row α)) : Bool := isKR ok none l
def ofK : List (Row α) → Un → List α
  | [], _ => []
  | x :: t, u => if x.unit = u then x.rows else ofK t u
theorem isKR_facts : ∀ {l : List (Row α)} {p : Option Un} (_ : isKR ok p l = true), SortK l ∧ (∀ x ∈ l, x.rows ≠ [] ∧ ok x.rows = true) ∧ ∀ q, p = some q → ∀ x ∈ l, lessU q x.unit = true
  | [], _, _ => ⟨List.Pairwise.nil, by simp, by simp⟩
  | x :: t, p, h => by
    have ⟨h0, h1, h2⟩ : (x.rows ≠ [] ∧ ok x.rows = true) ∧ isKR ok (some x.unit) t = true ∧ ∀ q, p = some q → lessU q x.unit = true := by
      cases p with
      | none => simp only [isKR, Bool.and_eq_true, Bool.not_eq_true', List.isEmpty_eq_false_iff] at h; exact ⟨h.1, h.2, fun q hq => by cases hq⟩
      | some q => simp only [isKR, Bool.and_eq_true, Bool.not_eq_true', List.isEmpty_eq_false_iff] at h; exact ⟨h.1.1, h.2, fun q' hq => by injection hq with e; subst e; exact h.1.2⟩
    have ⟨i1, i2, i3⟩ := isKR_facts h1
    have i4 := i3 x.unit rfl
    refine ⟨List.pairwise_cons.2 ⟨i4, i1⟩, fun y hy => ?_, fun q hq y hy => ?_⟩
    · rcases List.mem_cons.1 hy with rfl | hy
      · exact h0
      · exact i2 y hy
    · rcases List.mem_cons.1 hy with rfl | hy
      · exact h2 q hq
      · exact lessU_trans (h2 q hq) (i4 y hy)
theorem isKR_no {p : Option Un} {x : Row α} {t : List (Row α)} (h : x.rows = [] ∨ ok x.rows = false ∨ ∃ q, p = some q ∧ lessU q x.unit = false) : isKR ok p (x :: t) = false := by
  cases hr : isKR ok p (x :: t)
  · rfl
  · obtain ⟨_, h2, h3⟩ := isKR_facts hr
    have h4 := h2 x (by simp)
    rcases h with h | h | ⟨q, hq, h⟩
    · exact absurd h h4.1
    · rw [h4.2] at h; cases h
    · rw [h3 q hq x (by simp)] at h; cases h
theorem isKR_step {p : Option Un} {x : Row α} {t : List (Row α)} (h1 : x.rows ≠ []) (h2 : ok x.rows = true) (h3 : ∀ q, p = some q → lessU q x.unit = true) : isKR ok p (x :: t) = isKR ok (some x.unit) t := by
  cases p with
  | none => simp [isKR, h1, h2]
  | some q => simp [isKR, h1, h2, h3 q rfl]
theorem ofK_mem {l : List (Row α)} {u : Un} : (∃ x ∈ l, x.unit = u ∧ ofK l u = x.rows) ∨ ((∀ x ∈ l, x.unit ≠ u) ∧ ofK l u = []) := by
  induction l with
  | nil => exact .inr ⟨by simp, rfl⟩
  | cons x t ih =>
    by_cases hx : x.unit = u
    · exact .inl ⟨x, by simp, hx, by rw [ofK, if_pos hx]⟩
    · rcases ih with ⟨y, hy, h1, h2⟩ | ⟨h1, h2⟩
      · exact .inl ⟨y, by simp [hy], h1, by rw [ofK, if_neg hx, h2]⟩
      · refine .inr ⟨fun y hy => ?_, by rw [ofK, if_neg hx, h2]⟩
        rcases List.mem_cons.1 hy with rfl | hy
        · exact hx
        · exact h1 y hy
end
end Go.Proofs.YtalgfpegaobacaaGreat

/- What append, Insert leave as it was: all blocks of other types. No program in sight. -/
namespace Go.Proofs.YtalgfpegaobacaaGreat
open Go.RowKit
/-- All that is no row of elements E is as it was. -/
structure Away (E : TypeId) (w w' : World) : Prop where
  size : w.heap.size ≤ w'.heap.size
  block : ∀ b, b < w.heap.size → (∀ cs r, w.heap[b]? ≠ some (.cells cs E r)) → w'.heap[b]? = w.heap[b]?
section
variable {E E' : TypeId} {w w1 w2 w' : World}
theorem Away.refl (E : TypeId) (w : World) : Away E w w := ⟨Nat.le_refl _, fun _ _ _ => rfl⟩
theorem Away.trans (h : Away E w w1) (k : Away E w1 w2) : Away E w w2 :=
  ⟨Nat.le_trans h.size k.size, fun b hb hne => by
    have h1 := h.block b hb hne
    exact (k.block b (Nat.lt_of_lt_of_le hb h.size) (fun cs r => by rw [h1]; exact hne cs r)).trans h1⟩
theorem Away.below (h : Below w.heap.size w w') : Away E w w' := ⟨h.size, fun b hb _ => h.block b hb⟩
theorem Away.grown {row : Option Nat} (h : w.grownBy w' row) (hE : ∀ g, row = some g → ∃ cs r, w.heap[g]? = some (.cells cs E r)) : Away E w w' :=
  ⟨h.size, fun b hb hne => h.block b hb (fun e => by
    obtain ⟨cs, r, hc⟩ := hE b e.symm
    exact hne cs r hc)⟩
theorem Own.typed {base k : Nat} {v : Value} {rows : List (List Value)} (h : Own w base E k v rows) : ∀ g, v.ownBlock = some g → ∃ cs r, w.heap[g]? = some (.cells cs E r) := by
  intro g hg
  rcases h.2.2 with ⟨rfl, _⟩ | ⟨g', cap, cur, rfl, _, hh, _⟩
  · simp [Value.ownBlock] at hg
  · simp [Value.ownBlock] at hg
    subst hg
    exact ⟨cur, (0, 0), hh⟩
theorem Own.away {base k : Nat} {v : Value} {rows : List (List Value)} (h : Own w base E' k v rows) (ha : Away E w w') (hne : E' ≠ E) : Own w' base E' k v rows := by
  refine ⟨h.1, h.2.1, ?_⟩
  rcases h.2.2 with h2 | ⟨g, cap, cur, hv, hg, hh, r⟩
  · exact .inl h2
  · refine .inr ⟨g, cap, cur, hv, hg, ?_, r⟩
    rw [ha.block g (Array.getElem?_eq_some_iff.1 hh).1 (fun cs r e => by
      rw [hh] at e
      injection e with e
      injection e with _ e _
      exact hne e)]
    exact hh
theorem Own.good {base k : Nat} {A : Option Addr} {n c : Nat} {rows : List (List Value)} (h : Own w base E k (.slice A n c) rows) : Rs w k rows A c := by
  obtain ⟨A', c', hv, hrs, _⟩ := h.rs
  injection hv with e1 e2 e3
  subst e1 e3
  exact hrs
theorem Away.set (w : World) {p : Addr} (u : Value) (h : ∃ cs r, w.heap[p.block]? = some (.cells cs E r)) : Away E w (w.setCell p u) :=
  ⟨by simp [World.setCell], fun b _ hne => Below.heap_setCell w p u b (fun e => by
    obtain ⟨cs, r, hc⟩ := h
    exact hne cs r (by rw [e]; exact hc))⟩
theorem Away.only {g : Nat} (h : Only g w w') (ht : ∃ cs r, w.heap[g]? = some (.cells cs E r)) : Away E w w' :=
  ⟨h.size, fun b hb hne => h.block b hb (fun e => by
    obtain ⟨cs, r, hc⟩ := ht
    exact hne cs r (by rw [e]; exact hc))⟩
theorem Own.at {base k : Nat} {A : Option Addr} {n c : Nat} {rows : List (List Value)} (h : Own w base E k (.slice A n c) rows) (h0 : 0 < rows.length) : ∃ g, A = some ⟨g, 0, none⟩ ∧ base ≤ g ∧ g < w.heap.size := by
  obtain ⟨A', c', hv, _, hf⟩ := h.rs
  injection hv with e1 e2 e3
  subst e1 e3
  rcases hf with ⟨_, h2, _⟩ | hg
  · rw [h2] at h0; simp at h0
  · exact hg
end
theorem wp_appG {P : Program} {o : Oper} {a : Act} {K : Act → World → Prop} {Q : Exit → Act → World → Prop} {w : World} (s x : Operand) (T : TypeId)
    (ho : o.op = .call { callee := .builtin .append, args := #[s, x], argTypes := #[T, T] }) {E k bytes : Nat} (el : Elem P T E k bytes)
    (base : Nat) (v : Value) (rows : List (List Value)) (hs : a.eval s = v) (hown : Own w base E k v rows)
    (ad : Addr) (m c : Nat) (hx : a.eval x = .slice (some ad) m c) (news : List (List Value)) (hm : news.length = m) (hr : Rd w (some ad) k news) (hk : ∀ r ∈ news, r.length = k ∧ ∀ u ∈ r, u.oneCell' = true)
    (h63 : rows.length + m ≤ maxLen) (hbytes : (rows.length + m) * bytes ≤ 140737488355328) (hbase : base ≤ w.heap.size)
    (h : ∀ v' w', Own w' base E k v' (rows ++ news) → Below base w w' → w.grownBy w' v.ownBlock → K (a.put o.dst v') w') : o.wp P a w K Q := by
  obtain ⟨i, z, hi, hz, hsize, hby, hzs⟩ := el.info
  have hkl : ∀ r ∈ news, r.length = k := fun r hr => (hk r hr).1
  have hall : ∀ r ∈ rows ++ news, r.length = k := fun r hr => by
    rcases List.mem_append.1 hr with h1 | h1
    · exact hown.1 r h1
    · exact hkl r h1
  refine wp_append_own w s x T ho base E i z k bytes el.ty hi hz hsize hby hzs el.pos v rows.length rows.flatten hs hown.2 ad m c news.flatten hx (by rw [flatten_length hkl, hm]) (rd_cells hkl hr) (fun u hu => by
      obtain ⟨r, hr1, hr2⟩ := List.mem_flatten.1 hu
      exact (hk r hr1).2 u hr2) h63 hbytes hbase fun v' w' h1 h2 _ => ?_
  exact h v' w' ⟨hall, by rw [List.length_append, hm, List.flatten_append]; exact h1⟩ ((Below.refl base w).grown h2 hbase (fun g hg => (hown.block g hg).1)) h2
theorem wpList_appG {P : Program} {ops : Array Oper} {rest : List Oper} {o : Oper} {a : Act} {Q : Exit → Act → World → Prop} {w : World} (hgd : o.guard = none) (s x : Operand) (T : TypeId)
    (ho : o.op = .call { callee := .builtin .append, args := #[s, x], argTypes := #[T, T] }) {E k bytes : Nat} (el : Elem P T E k bytes)
    (base : Nat) (v : Value) (rows : List (List Value)) (hs : a.eval s = v) (hown : Own w base E k v rows)
    (ad : Addr) (m c : Nat) (hx : a.eval x = .slice (some ad) m c) (news : List (List Value)) (hm : news.length = m) (hr : Rd w (some ad) k news) (hk : ∀ r ∈ news, r.length = k ∧ ∀ u ∈ r, u.oneCell' = true)
    (h63 : rows.length + m ≤ maxLen) (hbytes : (rows.length + m) * bytes ≤ 140737488355328) (hbase : base ≤ w.heap.size)
    (h : ∀ v' w', Own w' base E k v' (rows ++ news) → Below base w w' → w.grownBy w' v.ownBlock → wpList P ops Q rest (a.put o.dst v') w') : wpList P ops Q (o :: rest) a w :=
  wpList_plain hgd fun _ hK => wp_appG s x T ho el base v rows hs hown ad m c hx news hm hr hk h63 hbytes hbase fun v' w' h1 h2 h3 => hK _ _ (h v' w' h1 h2 h3)
end Go.Proofs.YtalgfpegaobacaaGreat

/- Rows by unit: where a unit stands; what a loop makes of rows that rise; an append that says what it leaves. -/
namespace Go.Proofs.YtalgfpegaobacaaGreat
open Go.RowKit
section
variable {α : Type} {ok : List α → Bool}
end
section
variable {α : Type} {u : Un} {now : List α} {x : Row α} {t : List (Row α)}
end
theorem grown_at {w w' : World} {row : Option Nat} (h : w.grownBy w' row) {g : Nat} (hg : g < w.heap.size) (hne : row ≠ some g) (o : Nat) : w'.cell? ⟨g, o, none⟩ = w.cell? ⟨g, o, none⟩ := by
  have h1 := h.block g hg (fun e => hne e.symm)
  simp only [World.cell?, h1]
end Go.Proofs.YtalgfpegaobacaaGreat
