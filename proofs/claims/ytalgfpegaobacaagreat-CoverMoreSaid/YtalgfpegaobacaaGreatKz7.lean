/- Joined: Asset4, LotT, S64, CvP, UnT, AcctT, KeyP. -/
import Derived.Test.YtalgfpegaobacaaGreatKz1
import Derived.Test.YtalgfpegaobacaaGreatKz6
import Derived.Test.YtalgfpegaobacaaGreatKz2
import Derived.Test.YtalgfpegaobacaaGreatKz5
/- Assets: contracts of the reference's Find, Put, Table. -/
namespace Go.Proofs.YtalgfpegaobacaaGreat
open Go.RowKit
theorem elAsset : Elem Tryz.prog 22 63 3 24 := elem_of Tryz.underlying22 (z := .agg #[.int .i64 0, .int .i64 0, .int .i64 0]) (by kernel_rfl) rfl (by omega)
def findAsset (l : List Asset) (id : Int) : Asset × Bool := match l.find? (fun m => m.id == id) with | some m => (m, true) | none => (⟨0, 0, 0⟩, false)
theorem findAsset_hit {l : List Asset} {id : Int} {k : Nat} (h : k < l.length) (hm : (l[k].id == id) = true) (hn : ∀ j (_ : j < l.length), j < k → (l[j].id == id) = false) : findAsset l id = (l[k], true) := by
  have : l.find? (fun m => m.id == id) = some l[k] := by
    rw [List.find?_eq_some_iff_getElem]
    exact ⟨hm, k, h, rfl, fun j hj => by simp [hn j (by omega) hj]⟩
  simp [findAsset, this]
theorem findAsset_miss {l : List Asset} {id : Int} (hn : ∀ j (_ : j < l.length), (l[j].id == id) = false) : findAsset l id = (⟨0, 0, 0⟩, false) := by
  have : l.find? (fun m => m.id == id) = none := by
    rw [List.find?_eq_none]
    intro x hx
    obtain ⟨j, hj, rfl⟩ := List.mem_iff_getElem.1 hx
    simp [hn j hj]
  simp [findAsset, this]
def insAsset (l : List Asset) (m : Asset) : List Asset := l.takeWhile (fun x => decide (x.id < m.id)) ++ m :: l.dropWhile (fun x => decide (x.id < m.id))
def putAssetC (ob : Bool) (l : List Asset) (m : Asset) : Int := if ob then (if (findAsset l m.id).2 then 12 else 0) else 2
def putAssetL (ob : Bool) (l : List Asset) (m : Asset) : List Asset := if ob = true ∧ (findAsset l m.id).2 = false then insAsset l m else []
def PutAssetPost (ob : Bool) (w : World) (l : List Asset) (m : Asset) (e : Ending) (w' : World) : Prop :=
  ∃ v, e = .returned (.tuple #[v, .int .i64 (putAssetC ob l m)]) ∧ Own w' w.heap.size 63 3 v ((putAssetL ob l m).map encAsset) ∧ Below w.heap.size w w'
theorem insAsset_len (l : List Asset) (m : Asset) : (insAsset l m).length = l.length + 1 := by
  unfold insAsset
  have := congrArg List.length (List.takeWhile_append_dropWhile (p := fun x : Asset => decide (x.id < m.id)) (l := l))
  simp only [List.length_append, List.length_cons] at this ⊢
  omega
theorem putAssetL_len (ob : Bool) (l : List Asset) (m : Asset) : (putAssetL ob l m).length ≤ l.length + 1 := by
  unfold putAssetL
  split
  · rw [insAsset_len]; omega
  · simp
def stepAsset (okf : Asset → Bool) (out : List Asset) (m : Asset) : List Asset := if putAssetC (okf m) out m = 0 then putAssetL (okf m) out m else out
def tabAssetN (okf : Asset → Bool) (l : List Asset) (k : Nat) : List Asset := (l.take k).foldl (stepAsset okf) []
theorem tabAssetN_succ {okf : Asset → Bool} {l : List Asset} {k : Nat} (h : k < l.length) : tabAssetN okf l (k + 1) = stepAsset okf (tabAssetN okf l k) l[k] := by
  unfold tabAssetN
  rw [List.take_succ_eq_append_getElem h, List.foldl_append]
  rfl
theorem tabAssetN_len (okf : Asset → Bool) (l : List Asset) : ∀ k, (tabAssetN okf l k).length ≤ k
  | 0 => by simp [tabAssetN]
  | k + 1 => by
    have ih := tabAssetN_len okf l k
    rcases Nat.lt_or_ge k l.length with h | h
    · rw [tabAssetN_succ h]; unfold stepAsset; split
      · have := putAssetL_len (okf l[k]) (tabAssetN okf l k) l[k]; omega
      · omega
    · have : tabAssetN okf l (k + 1) = tabAssetN okf l k := by unfold tabAssetN; rw [List.take_of_length_le (by omega), List.take_of_length_le h]
      rw [this]; omega
theorem tabAsset_at {okf : Asset → Bool} {l : List Asset} {k n : Nat} (h : k = n ∨ (k ≤ n ∧ l.length ≤ k)) : tabAssetN okf l k = tabAssetN okf l n := by
  rcases h with rfl | ⟨h1, h2⟩
  · rfl
  · unfold tabAssetN; rw [List.take_of_length_le h2, List.take_of_length_le (by omega)]
set_option maxRecDepth 100000 in
set_option maxHeartbeats 2000000 in
theorem ref12Find (l : List Asset) (id : Int) (A : Option Addr) (c : Nat) (w : World) (hl : l.length ≤ 1099511627776) (hr : Rd w A 3 (l.map encAsset)) :
    Calls Tryz.prog 72 #[.slice A l.length c, .int .i64 id] w fun e w' => e = .returned (.tuple #[.agg #[.int .i64 (findAsset l id).1.id, .int .i64 (findAsset l id).1.price, .int .i64 (findAsset l id).1.hair], .bool (findAsset l id).2]) ∧ Below w.heap.size w w' := by
  have Hr := Lib.hid hr
  clear hr
  go_enter Tryz.func72, Tryz.ntmps72
  go_wp2_with fail
  go_loopw [6] (fun i wr => ∃ k : Nat, k ≤ l.length ∧ i = .int .i64 k ∧ Below w.heap.size w wr ∧ (wr.cell? ⟨w.heap.size, 0, none⟩ = some (.int .i64 0) ∧ wr.cell? ⟨w.heap.size, 1, none⟩ = some (.int .i64 0) ∧ wr.cell? ⟨w.heap.size, 2, none⟩ = some (.int .i64 0) ∧ wr.frozen? ⟨w.heap.size, 0, none⟩ = false ∧ wr.frozen? ⟨w.heap.size, 1, none⟩ = false ∧ wr.frozen? ⟨w.heap.size, 2, none⟩ = false) ∧ ∀ j (_ : j < l.length), j < k → (l[j].id == id) = false) (fun i _ => l.length - (intOf i).toNat)
  case atStart => exact ⟨0, Nat.zero_le _, rfl, by (repeat' (first | (with_reducible exact Below.refl _ _) | (with_reducible assumption) | (with_reducible refine Below.alloc ?_ ?_ _) | (with_reducible refine Below.setCell ?_ ?_ _) | (with_reducible refine Below.drew ?_) | (with_reducible refine below_drewN ?_ _) | (with_reducible refine below_via ?_ (by with_reducible assumption) ?_) | omega | (simp; done) | (simp; omega))), by simp [go_sem], fun j _ h => absurd h (by omega)⟩
  case round =>
    obtain ⟨k, hk, rfl, hbl, ⟨g0, g1, g2, f0, f1, f2⟩, hno⟩ := hrel
    have Hbl := Lib.hid hbl
    have Hno := Lib.hid hno
    have hz := hbl.size
    clear hbl hno
    by_cases hlt : k < l.length
    · obtain ⟨b, o, rfl, hb, hc⟩ := Hr.out k (encAsset l[k]) (by simp [hlt])
      have c0 := (Hbl.out.cell (p := ⟨b, o + k * 3 + 0, none⟩) hb).trans (hc 0 _ rfl)
      have c1 := (Hbl.out.cell (p := ⟨b, o + k * 3 + 1, none⟩) hb).trans (hc 1 _ rfl)
      have c2 := (Hbl.out.cell (p := ⟨b, o + k * 3 + 2, none⟩) hb).trans (hc 2 _ rfl)
      simp only [Nat.add_zero] at c0
      clear hc
      cases hm : (l[k].id == id)
      · have Hm := Lib.hid hm
        go_wp2_with fail
        go_roundw
        case rel => exact ⟨k + 1, by omega, by go_num, Hbl.out, ⟨g0, g1, g2, f0, f1, f2⟩, fun j hj h => by
          rcases Nat.lt_or_ge j k with h1 | h1
          · exact Hno.out j hj h1
          · obtain rfl : j = k := by omega
            exact Hm.out⟩
        case measure => simp [intOf]; omega
      · have hi := findAsset_hit hlt hm Hno.out
        have Hi := Lib.hid hi
        clear hi
        go_wp2_with fail
        rw [Hi.out]
        have hbl := Hbl.out
        refine bodyPost_ret (by simp [results, Tryz.results72, go_sem, g0, g1, g2]; try rfl) rfl ⟨rfl, ?_⟩
        (repeat' (first | (with_reducible exact Below.refl _ _) | (with_reducible assumption) | (with_reducible refine Below.alloc ?_ ?_ _) | (with_reducible refine Below.setCell ?_ ?_ _) | (with_reducible refine Below.drew ?_) | (with_reducible refine below_drewN ?_ _) | (with_reducible refine below_via ?_ (by with_reducible assumption) ?_) | omega | (simp; done) | (simp; omega)))
    · have hi := findAsset_miss (l := l) (fun j hj => Hno.out j hj (by omega))
      have Hi := Lib.hid hi
      clear hi
      go_wp2_with fail
      rw [Hi.out]
      have hbl := Hbl.out
      refine bodyPost_ret (by simp [results, Tryz.results72, go_sem, g0, g1, g2]; try rfl) rfl ⟨rfl, ?_⟩
      (repeat' (first | (with_reducible exact Below.refl _ _) | (with_reducible assumption) | (with_reducible refine Below.alloc ?_ ?_ _) | (with_reducible refine Below.setCell ?_ ?_ _) | (with_reducible refine Below.drew ?_) | (with_reducible refine below_drewN ?_ _) | (with_reducible refine below_via ?_ (by with_reducible assumption) ?_) | omega | (simp; done) | (simp; omega)))
set_option maxRecDepth 100000 in
set_option maxHeartbeats 4000000 in
theorem ref12Put (ob : Bool) (l : List Asset) (m : Asset) (A : Option Addr) (c : Nat) (w : World) (hl : l.length ≤ 1048576) (hr : Rs w 3 (l.map encAsset) A c) (hform : (A = none ∧ l = [] ∧ c = 0) ∨ ∃ b o, A = some ⟨b, o, none⟩)
    (c1 : ∀ W, Below w.heap.size w W → Calls Tryz.prog 71 #[.agg #[.int .i64 m.id, .int .i64 m.price, .int .i64 m.hair]] W fun e w' => e = .returned (.bool ob) ∧ Below W.heap.size W w') :
    Calls Tryz.prog 39 #[.slice A l.length c, .agg #[.int .i64 m.id, .int .i64 m.price, .int .i64 m.hair]] w (PutAssetPost ob w l m) := by
  have HR := Lib.hid hr
  have HFO := Lib.hid hform
  have hlc := hr.cap
  have hcm := hr.room
  rw [List.length_map] at hlc
  have c2 := fun W (h : Rd W A 3 (l.map encAsset)) => ref12Find l m.id A c W (by omega) h
  cases ob
  · have hp : putAssetL false l m = [] := by unfold putAssetL; rw [if_neg (fun h => by cases h.1)]
    have hq : putAssetC false l m = 2 := rfl
    have HP := Lib.hid hp
    have HQ := Lib.hid hq
    have C1 := Lib.hid c1
    clear hr c1 c2 hp hq hform hcm hlc
    go_enter Tryz.func39, Tryz.ntmps39
    go_wp2_with (go_at_call 71; (with_reducible refine (C1.out _ (by (repeat' (first | (with_reducible exact Below.refl _ _) | (with_reducible assumption) | (with_reducible refine Below.alloc ?_ ?_ _) | (with_reducible refine Below.setCell ?_ ?_ _) | (with_reducible refine Below.drew ?_) | (with_reducible refine below_drewN ?_ _) | (with_reducible refine below_via ?_ (by with_reducible assumption) ?_) | omega | (simp; done) | (simp; omega))))).mono ?_); rintro e w1 ⟨rfl, hb1⟩; obtain ⟨fc1, fg1, hc1, hf1, hz1⟩ := bget hb1; try simp at hz1)
    go_ret2
    exact ⟨_, by rw [HQ.out]; rfl, by rw [HP.out]; exact Own.nil _ _ _ _, by (repeat' (first | (with_reducible exact Below.refl _ _) | (with_reducible assumption) | (with_reducible refine Below.alloc ?_ ?_ _) | (with_reducible refine Below.setCell ?_ ?_ _) | (with_reducible refine Below.drew ?_) | (with_reducible refine below_drewN ?_ _) | (with_reducible refine below_via ?_ (by with_reducible assumption) ?_) | omega | (simp; done) | (simp; omega)))⟩
  cases hf : (findAsset l m.id).2
  rotate_left
  · rw [hf] at c2
    have hp : putAssetL true l m = [] := by unfold putAssetL; rw [hf, if_neg (by simp)]
    have hq : putAssetC true l m = 12 := by unfold putAssetC; rw [hf]; rfl
    have HP := Lib.hid hp
    have HQ := Lib.hid hq
    have C1 := Lib.hid c1
    have C2 := Lib.hid c2
    clear hr c1 c2 hp hq hf hform hcm hlc
    go_enter Tryz.func39, Tryz.ntmps39
    go_wp2_with (first | (go_at_call 71; (with_reducible refine (C1.out _ (by (repeat' (first | (with_reducible exact Below.refl _ _) | (with_reducible assumption) | (with_reducible refine Below.alloc ?_ ?_ _) | (with_reducible refine Below.setCell ?_ ?_ _) | (with_reducible refine Below.drew ?_) | (with_reducible refine below_drewN ?_ _) | (with_reducible refine below_via ?_ (by with_reducible assumption) ?_) | omega | (simp; done) | (simp; omega))))).mono ?_); rintro e w1 ⟨rfl, hb1⟩; obtain ⟨fc1, fg1, hc1, hf1, hz1⟩ := bget hb1; try simp at hz1) | (go_at_call 72; (with_reducible refine (C2.out _ (HR.out.rd.keep (by (repeat' (first | (with_reducible exact Below.refl _ _) | (with_reducible assumption) | (with_reducible refine Below.alloc ?_ ?_ _) | (with_reducible refine Below.setCell ?_ ?_ _) | (with_reducible refine Below.drew ?_) | (with_reducible refine below_drewN ?_ _) | (with_reducible refine below_via ?_ (by with_reducible assumption) ?_) | omega | (simp; done) | (simp; omega)))))).mono ?_); rintro e w2 ⟨rfl, hb2⟩; obtain ⟨fc2, fg2, hc2, hf2, hz2⟩ := bget hb2; try simp at hz2) | fail)
    go_ret2
    exact ⟨_, by rw [HQ.out]; rfl, by rw [HP.out]; exact Own.nil _ _ _ _, by (repeat' (first | (with_reducible exact Below.refl _ _) | (with_reducible assumption) | (with_reducible refine Below.alloc ?_ ?_ _) | (with_reducible refine Below.setCell ?_ ?_ _) | (with_reducible refine Below.drew ?_) | (with_reducible refine below_drewN ?_ _) | (with_reducible refine below_via ?_ (by with_reducible assumption) ?_) | omega | (simp; done) | (simp; omega)))⟩
  rw [hf] at c2
  have hp : putAssetL true l m = insAsset l m := by unfold putAssetL; rw [hf, if_pos ⟨rfl, rfl⟩]
  have hq : putAssetC true l m = 0 := by unfold putAssetC; rw [hf]; rfl
  have HP := Lib.hid hp
  have HQ := Lib.hid hq
  have C1 := Lib.hid c1
  have C2 := Lib.hid c2
  clear hr c1 c2 hp hq hf hform
  rcases HFO.out with ⟨rfl, rfl, rfl⟩ | ⟨b, o, rfl⟩
  · have c2' := C2.out
    simp only [List.length_nil] at c2'
    have C2' := Lib.hid c2'
    clear c2' C2
    go_enter Tryz.func39, Tryz.ntmps39
    go_wp2_with (first | (go_at_call 71; (with_reducible refine (C1.out _ (by (repeat' (first | (with_reducible exact Below.refl _ _) | (with_reducible assumption) | (with_reducible refine Below.alloc ?_ ?_ _) | (with_reducible refine Below.setCell ?_ ?_ _) | (with_reducible refine Below.drew ?_) | (with_reducible refine below_drewN ?_ _) | (with_reducible refine below_via ?_ (by with_reducible assumption) ?_) | omega | (simp; done) | (simp; omega))))).mono ?_); rintro e w1 ⟨rfl, hb1⟩; obtain ⟨fc1, fg1, hc1, hf1, hz1⟩ := bget hb1; try simp at hz1) | (go_at_call 72; (with_reducible refine (C2'.out _ (HR.out.rd.keep (by (repeat' (first | (with_reducible exact Below.refl _ _) | (with_reducible assumption) | (with_reducible refine Below.alloc ?_ ?_ _) | (with_reducible refine Below.setCell ?_ ?_ _) | (with_reducible refine Below.drew ?_) | (with_reducible refine below_drewN ?_ _) | (with_reducible refine below_via ?_ (by with_reducible assumption) ?_) | omega | (simp; done) | (simp; omega)))))).mono ?_); rintro e w2 ⟨rfl, hb2⟩; obtain ⟨fc2, fg2, hc2, hf2, hz2⟩ := bget hb2; try simp at hz2) | fail)
    refine wp_loop_rounds 1 ?_
    rw [rounds_succ]
    go_wp2_with fail
    go_quiet (fail)
    go_wp2_with (first | (at_builtin; refine wpList_app rfl _ _ _ rfl elAsset w2.heap.size _ [] rfl (Own.nil _ _ _ _) none 0 0 rfl [] rfl (fun _ => rfl) (fun i r h => by simp at h) (fun r h => by simp at h) (by unfold maxLen; simp) (by simp) (by first | omega | (simp; done) | (simp; omega)) ?_; intro v1 w3 hown1 hb3; obtain ⟨fc3, fg3, hc3, hf3, hz3⟩ := bget hb3; (try simp at hz3)) | (at_builtin; refine wpList_app rfl _ _ _ rfl elAsset w2.heap.size _ _ rfl (hown1.alloc _) (some ⟨w3.heap.size, 0, none⟩) 1 1 rfl [encAsset m] rfl (fun h => by cases h) rd_one (rowsAsset [m]) (by unfold maxLen; simp) (by simp) (by first | omega | (simp; done) | (simp; omega)) ?_; intro v2 w4 hown2 hb4; obtain ⟨fc4, fg4, hc4, hf4, hz4⟩ := bget hb4; (try simp at hz4)) | (at_builtin; refine wpList_app rfl _ _ _ rfl elAsset w2.heap.size _ _ rfl hown2 none 0 0 rfl [] rfl (fun _ => rfl) (fun i r h => by simp at h) (fun r h => by simp at h) (by unfold maxLen; simp) (by simp) (by first | omega | (simp; done) | (simp; omega)) ?_; intro v3 w5 hown3 hb5) | fail)
    go_ret2
    exact ⟨_, by rw [HQ.out]; rfl, by rw [HP.out]; exact (by simpa [insAsset] using hown3.mono (by first | omega | (simp; done) | (simp; omega))), by (repeat' (first | (with_reducible exact Below.refl _ _) | (with_reducible assumption) | (with_reducible refine Below.alloc ?_ ?_ _) | (with_reducible refine Below.setCell ?_ ?_ _) | (with_reducible refine Below.drew ?_) | (with_reducible refine below_drewN ?_ _) | (with_reducible refine below_via ?_ (by with_reducible assumption) ?_) | omega | (simp; done) | (simp; omega)))⟩
  · have HF := Lib.hid HR.out.rd
    go_enter Tryz.func39, Tryz.ntmps39
    go_wp2_with (first | (go_at_call 71; (with_reducible refine (C1.out _ (by (repeat' (first | (with_reducible exact Below.refl _ _) | (with_reducible assumption) | (with_reducible refine Below.alloc ?_ ?_ _) | (with_reducible refine Below.setCell ?_ ?_ _) | (with_reducible refine Below.drew ?_) | (with_reducible refine below_drewN ?_ _) | (with_reducible refine below_via ?_ (by with_reducible assumption) ?_) | omega | (simp; done) | (simp; omega))))).mono ?_); rintro e w1 ⟨rfl, hb1⟩; obtain ⟨fc1, fg1, hc1, hf1, hz1⟩ := bget hb1; try simp at hz1) | (go_at_call 72; (with_reducible refine (C2.out _ (HR.out.rd.keep (by (repeat' (first | (with_reducible exact Below.refl _ _) | (with_reducible assumption) | (with_reducible refine Below.alloc ?_ ?_ _) | (with_reducible refine Below.setCell ?_ ?_ _) | (with_reducible refine Below.drew ?_) | (with_reducible refine below_drewN ?_ _) | (with_reducible refine below_via ?_ (by with_reducible assumption) ?_) | omega | (simp; done) | (simp; omega)))))).mono ?_); rintro e w2 ⟨rfl, hb2⟩; obtain ⟨fc2, fg2, hc2, hf2, hz2⟩ := bget hb2; try simp at hz2) | fail)
    go_loopw [9] (fun i wr => ∃ k : Nat, k ≤ l.length ∧ i = .int .i64 k ∧ Below w.heap.size w wr ∧ w.heap.size < wr.heap.size ∧ (wr.cell? ⟨w.heap.size, 0, none⟩ = some (.int .i64 m.id) ∧ wr.cell? ⟨w.heap.size, 1, none⟩ = some (.int .i64 m.price) ∧ wr.cell? ⟨w.heap.size, 2, none⟩ = some (.int .i64 m.hair)) ∧ ∀ j (_ : j < l.length), j < k → decide (l[j].id < m.id) = true) (fun i _ => l.length - (intOf i).toNat)
    case atStart => exact ⟨0, Nat.zero_le _, rfl, by (repeat' (first | (with_reducible exact Below.refl _ _) | (with_reducible assumption) | (with_reducible refine Below.alloc ?_ ?_ _) | (with_reducible refine Below.setCell ?_ ?_ _) | (with_reducible refine Below.drew ?_) | (with_reducible refine below_drewN ?_ _) | (with_reducible refine below_via ?_ (by with_reducible assumption) ?_) | omega | (simp; done) | (simp; omega))), (by first | omega | (simp; done) | (simp; omega)), by simp [go_sem, hc1, hc2, ↓IntWalk.iteOmega], fun j _ h => absurd h (by omega)⟩
    case round =>
      obtain ⟨k, hk, rfl, hbl, hsz, ⟨g0, g1, g2⟩, hno⟩ := hrel
      have Hbl := Lib.hid hbl
      have Hno := Lib.hid hno
      have hz := hbl.size
      clear hbl hno
      have kl : (k : Int) ≤ (l.length : Int) := by omega
      by_cases hlt : k < l.length
      · obtain ⟨b', o', e, hb, hc⟩ := HF.out k (encAsset l[k]) (by simp [hlt])
        injection e with e
        injection e with e1 e2 _
        subst e1 e2
        have c0 := (Hbl.out.cell (p := ⟨b, o + k * 3 + 0, none⟩) hb).trans (hc 0 _ rfl)
        simp only [Nat.add_zero] at c0
        clear hc
        have hck : ¬ c = k := by omega
        have hck' : ¬ k = c := by omega
        have kl' : (k : Int) < (l.length : Int) := by omega
        cases hm : decide (l[k].id < m.id)
        · have hw := while_cut (p := fun x : Asset => decide (x.id < m.id)) Hno.out hk (fun _ => hm)
          have hin : insAsset l m = l.take k ++ [m] ++ l.drop k := by unfold insAsset; rw [hw.1, hw.2]; simp
          have HIN := Lib.hid hin
          clear hw hin
          go_wp2_with fail
          go_quiet (fail)
          go_wp2_with (first | (at_builtin; refine wpList_app rfl _ _ _ rfl elAsset wr.heap.size _ [] rfl (Own.nil _ _ _ _) (some ⟨b, o, none⟩) k _ rfl ((l.take k).map encAsset) (by simp; omega) (fun h => by cases h) (by rw [List.map_take]; exact rd_take' (HF.out.keep (by have hbl := Hbl.out; (repeat' (first | (with_reducible exact Below.refl _ _) | (with_reducible assumption) | (with_reducible refine Below.alloc ?_ ?_ _) | (with_reducible refine Below.setCell ?_ ?_ _) | (with_reducible refine Below.drew ?_) | (with_reducible refine below_drewN ?_ _) | (with_reducible refine below_via ?_ (by with_reducible assumption) ?_) | omega | (simp; done) | (simp; omega))))) k) (rowsAsset _) (by unfold maxLen; simp; omega) (by simp; omega) (by first | omega | (simp; done) | (simp; omega)) ?_; intro v1 w3 hown1 hb3; obtain ⟨fc3, fg3, hc3, hf3, hz3⟩ := bget hb3; (try simp at hz3)) | (at_builtin; refine wpList_app rfl _ _ _ rfl elAsset wr.heap.size _ _ rfl (hown1.alloc _) (some ⟨w3.heap.size, 0, none⟩) 1 1 rfl [encAsset m] rfl (fun h => by cases h) rd_one (rowsAsset [m]) (by unfold maxLen; simp; omega) (by simp; omega) (by first | omega | (simp; done) | (simp; omega)) ?_; intro v2 w4 hown2 hb4; obtain ⟨fc4, fg4, hc4, hf4, hz4⟩ := bget hb4; (try simp at hz4)) | (at_builtin; refine wpList_app rfl _ _ _ rfl elAsset wr.heap.size _ _ rfl hown2 (some ⟨b, o + k * 3, none⟩) (l.length - k) (c - k) rfl ((l.drop k).map encAsset) (by simp) (fun h => by cases h) (by rw [List.map_drop]; exact rd_dropR (HF.out.keep (by have hbl := Hbl.out; (repeat' (first | (with_reducible exact Below.refl _ _) | (with_reducible assumption) | (with_reducible refine Below.alloc ?_ ?_ _) | (with_reducible refine Below.setCell ?_ ?_ _) | (with_reducible refine Below.drew ?_) | (with_reducible refine below_drewN ?_ _) | (with_reducible refine below_via ?_ (by with_reducible assumption) ?_) | omega | (simp; done) | (simp; omega))))) k) (rowsAsset _) (by unfold maxLen; simp; omega) (by simp; omega) (by first | omega | (simp; done) | (simp; omega)) ?_; intro v3 w5 hown3 hb5) | (at_builtin; refine wpList_app rfl _ _ _ rfl elAsset wr.heap.size _ _ rfl hown2 (some ⟨b, o, none⟩) 0 0 rfl [] rfl (fun h => by cases h) (fun i r h => by simp at h) (fun r h => by simp at h) (by unfold maxLen; simp; omega) (by simp; omega) (by first | omega | (simp; done) | (simp; omega)) ?_; intro v3 w5 hown3 hb5) | fail)
          go_ret2
          exact ⟨_, by rw [HQ.out]; rfl, by rw [HP.out, HIN.out]; exact (by simpa using hown3.mono (by first | omega | (simp; done) | (simp; omega))), by have hbl := Hbl.out; (repeat' (first | (with_reducible exact Below.refl _ _) | (with_reducible assumption) | (with_reducible refine Below.alloc ?_ ?_ _) | (with_reducible refine Below.setCell ?_ ?_ _) | (with_reducible refine Below.drew ?_) | (with_reducible refine below_drewN ?_ _) | (with_reducible refine below_via ?_ (by with_reducible assumption) ?_) | omega | (simp; done) | (simp; omega)))⟩
        · have Hm := Lib.hid hm
          go_wp2_with fail
          go_quiet (fail)
          go_wp2_with fail
          go_roundw
          case rel => exact ⟨k + 1, by omega, by go_num, by have hbl := Hbl.out; (repeat' (first | (with_reducible exact Below.refl _ _) | (with_reducible assumption) | (with_reducible refine Below.alloc ?_ ?_ _) | (with_reducible refine Below.setCell ?_ ?_ _) | (with_reducible refine Below.drew ?_) | (with_reducible refine below_drewN ?_ _) | (with_reducible refine below_via ?_ (by with_reducible assumption) ?_) | omega | (simp; done) | (simp; omega))), by simpa using hsz, by simp [go_sem, g0, g1, g2], fun j hj h => by
            rcases Nat.lt_or_ge j k with h1 | h1
            · exact Hno.out j hj h1
            · obtain rfl : j = k := by omega
              exact Hm.out⟩
          case measure => simp [intOf]; omega
      · have hw := while_cut (p := fun x : Asset => decide (x.id < m.id)) Hno.out hk (fun h => absurd h hlt)
        have hin : insAsset l m = l.take k ++ [m] ++ l.drop k := by unfold insAsset; rw [hw.1, hw.2]; simp
        have HIN := Lib.hid hin
        clear hw hin
        have hd : decide ((k : Int) < (l.length : Int)) = false := by simp; omega
        by_cases hck : c = k
        · obtain rfl : k = c := hck.symm
          go_wp2_with fail
          go_quiet (fail)
          go_wp2_with (first | (at_builtin; refine wpList_app rfl _ _ _ rfl elAsset wr.heap.size _ [] rfl (Own.nil _ _ _ _) (some ⟨b, o, none⟩) k _ rfl ((l.take k).map encAsset) (by simp; omega) (fun h => by cases h) (by rw [List.map_take]; exact rd_take' (HF.out.keep (by have hbl := Hbl.out; (repeat' (first | (with_reducible exact Below.refl _ _) | (with_reducible assumption) | (with_reducible refine Below.alloc ?_ ?_ _) | (with_reducible refine Below.setCell ?_ ?_ _) | (with_reducible refine Below.drew ?_) | (with_reducible refine below_drewN ?_ _) | (with_reducible refine below_via ?_ (by with_reducible assumption) ?_) | omega | (simp; done) | (simp; omega))))) k) (rowsAsset _) (by unfold maxLen; simp; omega) (by simp; omega) (by first | omega | (simp; done) | (simp; omega)) ?_; intro v1 w3 hown1 hb3; obtain ⟨fc3, fg3, hc3, hf3, hz3⟩ := bget hb3; (try simp at hz3)) | (at_builtin; refine wpList_app rfl _ _ _ rfl elAsset wr.heap.size _ _ rfl (hown1.alloc _) (some ⟨w3.heap.size, 0, none⟩) 1 1 rfl [encAsset m] rfl (fun h => by cases h) rd_one (rowsAsset [m]) (by unfold maxLen; simp; omega) (by simp; omega) (by first | omega | (simp; done) | (simp; omega)) ?_; intro v2 w4 hown2 hb4; obtain ⟨fc4, fg4, hc4, hf4, hz4⟩ := bget hb4; (try simp at hz4)) | (at_builtin; refine wpList_app rfl _ _ _ rfl elAsset wr.heap.size _ _ rfl hown2 (some ⟨b, o + k * 3, none⟩) (l.length - k) (c - k) rfl ((l.drop k).map encAsset) (by simp) (fun h => by cases h) (by rw [List.map_drop]; exact rd_dropR (HF.out.keep (by have hbl := Hbl.out; (repeat' (first | (with_reducible exact Below.refl _ _) | (with_reducible assumption) | (with_reducible refine Below.alloc ?_ ?_ _) | (with_reducible refine Below.setCell ?_ ?_ _) | (with_reducible refine Below.drew ?_) | (with_reducible refine below_drewN ?_ _) | (with_reducible refine below_via ?_ (by with_reducible assumption) ?_) | omega | (simp; done) | (simp; omega))))) k) (rowsAsset _) (by unfold maxLen; simp; omega) (by simp; omega) (by first | omega | (simp; done) | (simp; omega)) ?_; intro v3 w5 hown3 hb5) | (at_builtin; refine wpList_app rfl _ _ _ rfl elAsset wr.heap.size _ _ rfl hown2 (some ⟨b, o, none⟩) 0 0 rfl [] rfl (fun h => by cases h) (fun i r h => by simp at h) (fun r h => by simp at h) (by unfold maxLen; simp; omega) (by simp; omega) (by first | omega | (simp; done) | (simp; omega)) ?_; intro v3 w5 hown3 hb5) | fail)
          go_ret2
          exact ⟨_, by rw [HQ.out]; rfl, by rw [HP.out, HIN.out, List.drop_eq_nil_of_le (show l.length ≤ k from by omega)]; exact (by simpa using hown3.mono (by first | omega | (simp; done) | (simp; omega))), by have hbl := Hbl.out; (repeat' (first | (with_reducible exact Below.refl _ _) | (with_reducible assumption) | (with_reducible refine Below.alloc ?_ ?_ _) | (with_reducible refine Below.setCell ?_ ?_ _) | (with_reducible refine Below.drew ?_) | (with_reducible refine below_drewN ?_ _) | (with_reducible refine below_via ?_ (by with_reducible assumption) ?_) | omega | (simp; done) | (simp; omega)))⟩
        · have hck' : ¬ k = c := fun h => hck h.symm
          go_wp2_with fail
          go_quiet (fail)
          go_wp2_with (first | (at_builtin; refine wpList_app rfl _ _ _ rfl elAsset wr.heap.size _ [] rfl (Own.nil _ _ _ _) (some ⟨b, o, none⟩) k _ rfl ((l.take k).map encAsset) (by simp; omega) (fun h => by cases h) (by rw [List.map_take]; exact rd_take' (HF.out.keep (by have hbl := Hbl.out; (repeat' (first | (with_reducible exact Below.refl _ _) | (with_reducible assumption) | (with_reducible refine Below.alloc ?_ ?_ _) | (with_reducible refine Below.setCell ?_ ?_ _) | (with_reducible refine Below.drew ?_) | (with_reducible refine below_drewN ?_ _) | (with_reducible refine below_via ?_ (by with_reducible assumption) ?_) | omega | (simp; done) | (simp; omega))))) k) (rowsAsset _) (by unfold maxLen; simp; omega) (by simp; omega) (by first | omega | (simp; done) | (simp; omega)) ?_; intro v1 w3 hown1 hb3; obtain ⟨fc3, fg3, hc3, hf3, hz3⟩ := bget hb3; (try simp at hz3)) | (at_builtin; refine wpList_app rfl _ _ _ rfl elAsset wr.heap.size _ _ rfl (hown1.alloc _) (some ⟨w3.heap.size, 0, none⟩) 1 1 rfl [encAsset m] rfl (fun h => by cases h) rd_one (rowsAsset [m]) (by unfold maxLen; simp; omega) (by simp; omega) (by first | omega | (simp; done) | (simp; omega)) ?_; intro v2 w4 hown2 hb4; obtain ⟨fc4, fg4, hc4, hf4, hz4⟩ := bget hb4; (try simp at hz4)) | (at_builtin; refine wpList_app rfl _ _ _ rfl elAsset wr.heap.size _ _ rfl hown2 (some ⟨b, o + k * 3, none⟩) (l.length - k) (c - k) rfl ((l.drop k).map encAsset) (by simp) (fun h => by cases h) (by rw [List.map_drop]; exact rd_dropR (HF.out.keep (by have hbl := Hbl.out; (repeat' (first | (with_reducible exact Below.refl _ _) | (with_reducible assumption) | (with_reducible refine Below.alloc ?_ ?_ _) | (with_reducible refine Below.setCell ?_ ?_ _) | (with_reducible refine Below.drew ?_) | (with_reducible refine below_drewN ?_ _) | (with_reducible refine below_via ?_ (by with_reducible assumption) ?_) | omega | (simp; done) | (simp; omega))))) k) (rowsAsset _) (by unfold maxLen; simp; omega) (by simp; omega) (by first | omega | (simp; done) | (simp; omega)) ?_; intro v3 w5 hown3 hb5) | (at_builtin; refine wpList_app rfl _ _ _ rfl elAsset wr.heap.size _ _ rfl hown2 (some ⟨b, o, none⟩) 0 0 rfl [] rfl (fun h => by cases h) (fun i r h => by simp at h) (fun r h => by simp at h) (by unfold maxLen; simp; omega) (by simp; omega) (by first | omega | (simp; done) | (simp; omega)) ?_; intro v3 w5 hown3 hb5) | fail)
          go_ret2
          exact ⟨_, by rw [HQ.out]; rfl, by rw [HP.out, HIN.out]; exact (by simpa using hown3.mono (by first | omega | (simp; done) | (simp; omega))), by have hbl := Hbl.out; (repeat' (first | (with_reducible exact Below.refl _ _) | (with_reducible assumption) | (with_reducible refine Below.alloc ?_ ?_ _) | (with_reducible refine Below.setCell ?_ ?_ _) | (with_reducible refine Below.drew ?_) | (with_reducible refine below_drewN ?_ _) | (with_reducible refine below_via ?_ (by with_reducible assumption) ?_) | omega | (simp; done) | (simp; omega)))⟩
theorem own_formAsset {w : World} {base : Nat} {v : Value} {l : List Asset} (h : Own w base 63 3 v (l.map encAsset)) : ∃ A c, v = .slice A l.length c ∧ Rs w 3 (l.map encAsset) A c ∧ ((A = none ∧ l = [] ∧ c = 0) ∨ ∃ b o, A = some ⟨b, o, none⟩) := by
  obtain ⟨A, c, h1, h2, h3⟩ := h.rs
  rw [List.length_map] at h1
  refine ⟨A, c, h1, h2, ?_⟩
  rcases h3 with ⟨ha, hr, hc⟩ | ⟨g, ha, _⟩
  · exact .inl ⟨ha, List.map_eq_nil_iff.1 hr, hc⟩
  · exact .inr ⟨g, 0, ha⟩
set_option maxRecDepth 100000 in
set_option maxHeartbeats 4000000 in
theorem ref12Table (okf : Asset → Bool) (l : List Asset) (A : Option Addr) (c : Nat) (w : World) (hl : l.length ≤ maxLen) (hr : Rd w A 3 (l.map encAsset))
    (his : ∀ m ∈ l, ∀ W, Below w.heap.size w W → Calls Tryz.prog 71 #[.agg #[.int .i64 m.id, .int .i64 m.price, .int .i64 m.hair]] W fun e w' => e = .returned (.bool (okf m)) ∧ Below W.heap.size W w') :
    Calls Tryz.prog 14 #[.slice A l.length c] w fun e w' => ∃ v, e = .returned v ∧ Own w' w.heap.size 63 3 v ((tabAssetN okf l 8).map encAsset) ∧ Below w.heap.size w w' := by
  have HR := Lib.hid hr
  have HIS := Lib.hid his
  have hml : (l.length : Int) ≤ 9223372036854775807 := by unfold maxLen at hl; omega
  clear hr hl his
  go_enter Tryz.func14, Tryz.ntmps14
  go_wp2_with fail
  go_loopw [3, 4] (fun v i wr => ∃ k : Nat, k ≤ l.length ∧ k ≤ 8 ∧ i = .int .i64 k ∧ Own wr w.heap.size 63 3 v ((tabAssetN okf l k).map encAsset) ∧ Below w.heap.size w wr) (fun _ i _ => l.length - (intOf i).toNat)
  case atStart => exact ⟨0, Nat.zero_le _, Nat.zero_le _, rfl, Own.nil _ _ _ _, Below.refl _ _⟩
  case round =>
    obtain ⟨k, hk, hk10, rfl, hown, hbl⟩ := hrel
    have Hbl := Lib.hid hbl
    have Hown := Lib.hid hown
    have hz := hbl.size
    clear hbl hown
    by_cases hgo : k < l.length ∧ k < 8
    · obtain ⟨hlt, h10⟩ := hgo
      have kl : (k : Int) < (l.length : Int) := by omega
      have k10 : (k : Int) < 8 := by omega
      have d10 : decide ((k : Int) < 8) = true := by simpa using k10
      obtain ⟨A1, c1, hv1, hms, hfo⟩ := own_formAsset Hown.out
      have Hms := Lib.hid hms
      have Hfo := Lib.hid hfo
      have hlen := tabAssetN_len okf l k
      subst hv1
      obtain ⟨b, o, rfl, hb, hc⟩ := HR.out k (encAsset l[k]) (by simp [hlt])
      have e0 := (Hbl.out.cell (p := ⟨b, o + k * 3 + 0, none⟩) hb).trans (hc 0 _ rfl)
      have e1 := (Hbl.out.cell (p := ⟨b, o + k * 3 + 1, none⟩) hb).trans (hc 1 _ rfl)
      have e2 := (Hbl.out.cell (p := ⟨b, o + k * 3 + 2, none⟩) hb).trans (hc 2 _ rfl)
      simp only [Nat.add_zero] at e0
      have hs := tabAssetN_succ (okf := okf) hlt
      have HS := Lib.hid hs
      have hst : stepAsset okf (tabAssetN okf l k) l[k] = if putAssetC (okf l[k]) (tabAssetN okf l k) l[k] = 0 then putAssetL (okf l[k]) (tabAssetN okf l k) l[k] else tabAssetN okf l k := rfl
      have HST := Lib.hid hst
      have HI := Lib.hid (fun W (h : Below wr.heap.size wr W) => HIS.out l[k] (List.getElem_mem hlt) W (Hbl.out.trans (h.mono hz)))
      clear hc hms hs hst hfo
      cases hq : (putAssetC (okf l[k]) (tabAssetN okf l k) l[k] == 0)
      · have HQ := Lib.hid (show ¬ putAssetC (okf l[k]) (tabAssetN okf l k) l[k] = 0 from by simpa using hq)
        go_wp2_with (go_at_call 39; (with_reducible refine (ref12Put (okf l[k]) (tabAssetN okf l k) l[k] A1 c1 _ (by omega) Hms.out Hfo.out HI.out).mono ?_); rintro e w1 ⟨v1, rfl, hown1, hb1⟩; have Hown1 := Lib.hid hown1; have Hb1 := Lib.hid hb1; have hz1 := hb1.size; clear hown1 hb1)
        go_roundw
        case rel => exact ⟨k + 1, by omega, by omega, by go_num, by rw [HS.out, HST.out, if_neg HQ.out]; exact Hown.out.keep Hb1.out, Hbl.out.trans (Hb1.out.mono hz)⟩
        case measure => simp [intOf]; omega
      · have HQ := Lib.hid (show putAssetC (okf l[k]) (tabAssetN okf l k) l[k] = 0 from by simpa using hq)
        go_wp2_with (go_at_call 39; (with_reducible refine (ref12Put (okf l[k]) (tabAssetN okf l k) l[k] A1 c1 _ (by omega) Hms.out Hfo.out HI.out).mono ?_); rintro e w1 ⟨v1, rfl, hown1, hb1⟩; have Hown1 := Lib.hid hown1; have Hb1 := Lib.hid hb1; have hz1 := hb1.size; clear hown1 hb1)
        go_roundw
        case rel => exact ⟨k + 1, by omega, by omega, by go_num, by rw [HS.out, HST.out, if_pos HQ.out]; exact Hown1.out.mono hz, Hbl.out.trans (Hb1.out.mono hz)⟩
        case measure => simp [intOf]; omega
    · have ht := tabAsset_at (okf := okf) (l := l) (k := k) (n := 8) (by omega)
      have HT := Lib.hid ht
      clear ht
      by_cases hlt : k < l.length
      · have d1 : decide ((k : Int) < (l.length : Int)) = true := by simpa using hlt
        have d2 : decide ((k : Int) < 8) = false := by simp; omega
        go_wp2_with fail
        go_ret
        exact ⟨_, rfl, by rw [← HT.out]; exact Hown.out, Hbl.out⟩
      · have d1 : decide ((k : Int) < (l.length : Int)) = false := by simpa using hlt
        go_wp2_with fail
        go_ret
        exact ⟨_, rfl, by rw [← HT.out]; exact Hown.out, Hbl.out⟩
end Go.Proofs.YtalgfpegaobacaaGreat

/- Lots: the type; which may be, how they stand; what any are with one more, or without some of one. No program in sight. -/
namespace Go.Proofs.YtalgfpegaobacaaGreat
open Go.RowKit
structure Lot where
  asset : Int
  tag : Int
  qty : Int
  deriving DecidableEq
def encLot (x : Lot) : List Value := [.int .i64 x.asset, .int .i64 x.tag, .int .i64 x.qty]
def okLot (x : Lot) : Prop := In64 x.asset ∧ In64 x.tag ∧ In64 x.qty
theorem rowsLot (l : List Lot) : ∀ r ∈ l.map encLot, r.length = 3 ∧ ∀ u ∈ r, u.oneCell' = true := by
  intro r hr
  obtain ⟨m, _, rfl⟩ := List.mem_map.1 hr
  refine ⟨rfl, ?_⟩
  simp only [encLot, List.mem_cons, List.not_mem_nil, or_false, forall_eq_or_imp, forall_eq]
  exact ⟨rfl, rfl, rfl⟩
def rightL (x : Lot) : Bool := decide (1 ≤ x.asset) && decide (x.asset ≤ 4) && decide (0 ≤ x.tag) && decide (x.tag ≤ 255) && decide (0 < x.qty)
theorem rightL_iff {x : Lot} : rightL x = true ↔ 1 ≤ x.asset ∧ x.asset ≤ 4 ∧ 0 ≤ x.tag ∧ x.tag ≤ 255 ∧ 0 < x.qty := by simp [rightL, and_assoc]
theorem rightL_no {x : Lot} (h : ¬ (1 ≤ x.asset ∧ x.asset ≤ 4 ∧ 0 ≤ x.tag ∧ x.tag ≤ 255 ∧ 0 < x.qty)) : rightL x = false := by
  cases hr : rightL x
  · rfl
  · exact absurd (rightL_iff.1 hr) h
/-- How two lots stand: by assets, then by tags. -/
def ordL (a b : Lot) : Int := orOf (ord a.asset b.asset) (ord a.tag b.tag)
def ltL (a b : Lot) : Bool := decide (ordL a b < 0)
def eqL (a b : Lot) : Bool := ordL a b == 0
theorem ltL_iff {a b : Lot} : ltL a b = true ↔ a.asset < b.asset ∨ (a.asset = b.asset ∧ a.tag < b.tag) := by
  unfold ltL ordL orOf ord
  rw [decide_eq_true_eq]
  repeat' split
  all_goals omega
theorem eqL_iff {a b : Lot} : eqL a b = true ↔ a.asset = b.asset ∧ a.tag = b.tag := by
  unfold eqL ordL orOf ord
  rw [beq_iff_eq]
  repeat' split
  all_goals omega
theorem ltL_no {a b : Lot} (h : ¬ (a.asset < b.asset ∨ (a.asset = b.asset ∧ a.tag < b.tag))) : ltL a b = false := by
  cases hr : ltL a b
  · rfl
  · exact absurd (ltL_iff.1 hr) h
theorem eqL_no {a b : Lot} (h : ¬ (a.asset = b.asset ∧ a.tag = b.tag)) : eqL a b = false := by
  cases hr : eqL a b
  · rfl
  · exact absurd (eqL_iff.1 hr) h
/-- Lots that may be, each behind the one ahead of it. -/
def isR : Option Lot → List Lot → Bool
  | _, [] => true
  | none, x :: t => rightL x && isR (some x) t
  | some p, x :: t => rightL x && ltL p x && isR (some x) t
def isL (l : List Lot) : Bool := isR none l && decide (l.length ≤ 16)
def codeL (l : List Lot) (x : Lot) : Int := if isL l then (if rightL x then 0 else 2) else 3
def getL (l : List Lot) (a t : Int) : Int := match l.find? (fun x => x.asset == a && x.tag == t) with | some x => x.qty | none => 0
def plL (l : List Lot) (x : Lot) : Nat := (l.takeWhile (fun y => decide (ordL y x < 0))).length
def thL (l : List Lot) (x : Lot) : Bool := atB (fun y => ordL y x == 0) l (plL l x)
def SortL (l : List Lot) : Prop := l.Pairwise (fun a b => ltL a b = true)
theorem ltL_trans {a b c : Lot} (h : ltL a b = true) (k : ltL b c = true) : ltL a c = true := by
  rw [ltL_iff] at *; omega
theorem isR_sort : ∀ {l : List Lot} {p : Option Lot} (_ : isR p l = true), SortL l ∧ (∀ x ∈ l, rightL x = true) ∧ ∀ q, p = some q → ∀ x ∈ l, ltL q x = true
  | [], _, _ => ⟨List.Pairwise.nil, by simp, by simp⟩
  | x :: t, p, h => by
    have ⟨h0, h1, h2⟩ : rightL x = true ∧ isR (some x) t = true ∧ ∀ q, p = some q → ltL q x = true := by
      cases p with
      | none => simp only [isR, Bool.and_eq_true] at h; exact ⟨h.1, h.2, fun q hq => by cases hq⟩
      | some q => simp only [isR, Bool.and_eq_true] at h; exact ⟨h.1.1, h.2, fun q' hq => by injection hq with e; subst e; exact h.1.2⟩
    have ⟨i1, i2, i3⟩ := isR_sort h1
    have i4 := i3 x rfl
    refine ⟨List.pairwise_cons.2 ⟨i4, i1⟩, fun y hy => ?_, fun q hq y hy => ?_⟩
    · rcases List.mem_cons.1 hy with rfl | hy
      · exact h0
      · exact i2 y hy
    · rcases List.mem_cons.1 hy with rfl | hy
      · exact h2 q hq
      · exact ltL_trans (h2 q hq) (i4 y hy)
theorem isL_sort {l : List Lot} (h : isL l = true) : SortL l ∧ (∀ x ∈ l, rightL x = true) ∧ l.length ≤ 16 := by
  unfold isL at h
  rw [Bool.and_eq_true, decide_eq_true_eq] at h
  have := isR_sort h.1
  exact ⟨this.1, this.2.1, h.2⟩
/-- What Put answers. -/
def putLC (l : List Lot) (x : Lot) : Int := if codeL l x = 0 then (if thL l x then (if in64 ((l.getD (plL l x) ⟨0, 0, 0⟩).qty + x.qty) then 0 else 7) else if 16 ≤ l.length then 25 else 0) else codeL l x
def putLL (l : List Lot) (x : Lot) : List Lot := if putLC l x = 0 then (if thL l x then l.set (plL l x) ⟨x.asset, x.tag, (l.getD (plL l x) ⟨0, 0, 0⟩).qty + x.qty⟩ else l.take (plL l x) ++ x :: l.drop (plL l x)) else []
theorem plL_le (l : List Lot) (x : Lot) : plL l x ≤ l.length := tw_len _ _
theorem thL_lt {l : List Lot} {x : Lot} (h : thL l x = true) : plL l x < l.length := by
  rcases Nat.lt_or_ge (plL l x) l.length with h1 | h1
  · exact h1
  · rw [show thL l x = false from atB_none h1] at h; cases h
theorem thL_eq {l : List Lot} {x : Lot} (h : thL l x = true) : (l[plL l x]'(thL_lt h)).asset = x.asset ∧ (l[plL l x]'(thL_lt h)).tag = x.tag := by
  have h1 : eqL (l[plL l x]'(thL_lt h)) x = true := by rw [← h]; exact (atB_some (p := fun y => ordL y x == 0) (thL_lt h)).symm
  exact eqL_iff.1 h1
end Go.Proofs.YtalgfpegaobacaaGreat

/- The sum of numbers of 64 bits, or that it leaves them: contract of fix.Sum. -/
namespace Go.Proofs.YtalgfpegaobacaaGreat
open Go.RowKit
def sum64C (l : List Int) : Int := if in64 l.sum then 0 else 7
def sum64N (l : List Int) : Int := if in64 l.sum then l.sum else 0
theorem sum64_in (l : List Int) : In64 (sum64N l) := by
  unfold sum64N
  split
  · rename_i h; exact in64_iff.1 h
  · unfold In64; omega
theorem fixSum64 (l : List Int) (A : Option Addr) (c : Nat) (w : World) (hl : l.length ≤ 1099511627776) (hin : ∀ n ∈ l, In64 n) (hr : Rd w A 1 (l.map encI)) :
    Calls Tryz.prog 26 #[.slice A l.length c] w fun e w' => e = .returned (.tuple #[.int .i64 (sum64N l), .int .i64 (sum64C l)]) ∧ Below w.heap.size w w' := by
  unfold sum64N sum64C
  by_cases h : in64 l.sum = true
  · rw [if_pos h, if_pos h]; exact fixSumYes l A c w hl hin hr (in64_iff.1 h)
  · rw [if_neg h, if_neg h]; exact fixSumNo l A c w hl hin hr (in64_no (by simpa using h))
end Go.Proofs.YtalgfpegaobacaaGreat

/- What lots are worth, and count, plain. -/
namespace Go.Proofs.YtalgfpegaobacaaGreat
open Go.RowKit
/-- The code of the first lot that has no value, or 0; the values. -/
def vC (E : Asset → Int → Int) (ats : List Asset) : List Lot → Int
  | [] => 0
  | x :: t => if (findAsset ats x.asset).2 then (if E (findAsset ats x.asset).1 x.qty = 0 then vC E ats t else E (findAsset ats x.asset).1 x.qty) else 11
def vL (F : Asset → Int → Int) (ats : List Asset) (l : List Lot) : List Int := l.map fun x => F (findAsset ats x.asset).1 x.qty
def vaC (E : Asset → Int → Int) (ats : List Asset) (l : List Lot) : Int := if isL l then vC E ats l else 3
def vaL (E F : Asset → Int → Int) (ats : List Asset) (l : List Lot) : List Int := if vaC E ats l = 0 then vL F ats l else []
def valC (ats : List Asset) (l : List Lot) (cash : Int) : Int := if vaC countE ats l = 0 then sum64C (vL countN ats l ++ [cash]) else vaC countE ats l
def valN (ats : List Asset) (l : List Lot) (cash : Int) : Int := if vaC countE ats l = 0 then sum64N (vL countN ats l ++ [cash]) else 0
def worC (ats : List Asset) (l : List Lot) : Int := if vaC worthE ats l = 0 then sum64C (vL worthN ats l) else vaC worthE ats l
def worN (ats : List Asset) (l : List Lot) : Int := if vaC worthE ats l = 0 then sum64N (vL worthN ats l) else 0
theorem vC_none {E : Asset → Int → Int} {ats : List Asset} {x : Lot} {t : List Lot} (h : (findAsset ats x.asset).2 = false) : vC E ats (x :: t) = 11 := by
  unfold vC; rw [h]; rfl
theorem vC_bad {E : Asset → Int → Int} {ats : List Asset} {x : Lot} {t : List Lot} (h : (findAsset ats x.asset).2 = true) (h2 : E (findAsset ats x.asset).1 x.qty ≠ 0) : vC E ats (x :: t) = E (findAsset ats x.asset).1 x.qty := by
  unfold vC; rw [h, if_pos rfl, if_neg h2]
theorem vC_step {E : Asset → Int → Int} {ats : List Asset} {x : Lot} {t : List Lot} (h : (findAsset ats x.asset).2 = true) (h2 : E (findAsset ats x.asset).1 x.qty = 0) : vC E ats (x :: t) = vC E ats t := by
  show (if (findAsset ats x.asset).2 then (if E (findAsset ats x.asset).1 x.qty = 0 then vC E ats t else E (findAsset ats x.asset).1 x.qty) else 11) = _
  rw [h, if_pos rfl, if_pos h2]
theorem okE_zero {n : Int} (h : okE n = 0) : in64 n = true := by
  unfold okE at h
  split at h
  · assumption
  · cases h
theorem worthN64 (x : Asset) (q : Int) : In64 (worthN x q) := by
  unfold worthN okN
  split
  · split
    · rename_i h; exact in64_iff.1 h
    · unfold In64; omega
  · unfold In64; omega
theorem countN64 (x : Asset) (q : Int) : In64 (countN x q) := by
  unfold countN
  split
  · rename_i h
    have h1 := count_le h.1 h.2.1
    have h2 := in64_iff.1 h.2.2
    unfold In64 at *
    omega
  · unfold In64; omega
theorem vL_len (F : Asset → Int → Int) (ats : List Asset) (l : List Lot) : (vL F ats l).length = l.length := by unfold vL; simp
theorem vL64 {F : Asset → Int → Int} (hF : ∀ x q, In64 (F x q)) (ats : List Asset) (l : List Lot) : ∀ z ∈ vL F ats l, In64 z := by
  intro z hz
  obtain ⟨x, _, rfl⟩ := List.mem_map.1 hz
  exact hF _ _
end Go.Proofs.YtalgfpegaobacaaGreat

/- Units: the type, how they stand. No program in sight. -/
namespace Go.Proofs.YtalgfpegaobacaaGreat
open Go.RowKit
structure Un where
  acc : Int
  cli : Int
  deriving DecidableEq
def encUn (x : Un) : List Value := [.int .i64 x.acc, .int .i64 x.cli]
def okUn (x : Un) : Prop := In64 x.acc ∧ In64 x.cli
theorem rowsUn (l : List Un) : ∀ r ∈ l.map encUn, r.length = 2 ∧ ∀ u ∈ r, u.oneCell' = true := by
  intro r hr
  obtain ⟨m, _, rfl⟩ := List.mem_map.1 hr
  refine ⟨rfl, ?_⟩
  simp only [encUn, List.mem_cons, List.not_mem_nil, or_false, forall_eq_or_imp, forall_eq]
  exact ⟨rfl, rfl⟩
theorem neqUn {x y : Un} (h : x ≠ y) : ((x.acc == y.acc) = false) ∨ ((x.cli == y.cli) = false) := by
  cases h0 : (x.acc == y.acc)
  · simp
  cases h1 : (x.cli == y.cli)
  · simp
  · exfalso
    apply h
    obtain ⟨xacc, xcli⟩ := x
    obtain ⟨yacc, ycli⟩ := y
    simp_all
def lessU (a b : Un) : Bool := decide (a.acc < b.acc) || (a.acc == b.acc && decide (a.cli < b.cli))
theorem lessU_iff {a b : Un} : lessU a b = true ↔ a.acc < b.acc ∨ (a.acc = b.acc ∧ a.cli < b.cli) := by simp [lessU]
theorem lessU_trans {a b c : Un} (h : lessU a b = true) (k : lessU b c = true) : lessU a c = true := by
  rw [lessU_iff] at *
  omega
theorem lessU_asymm {a b : Un} (h : lessU a b = true) : lessU b a = false := by
  cases hb : lessU b a
  · rfl
  · rw [lessU_iff] at h hb; omega
theorem lessU_irr (a : Un) : lessU a a = false := by
  cases h : lessU a a
  · rfl
  · rw [lessU_iff] at h; omega
theorem lessU_tri (a b : Un) : lessU a b = true ∨ a = b ∨ lessU b a = true := by
  rw [lessU_iff, lessU_iff]
  obtain ⟨x, y⟩ := a
  obtain ⟨z, v⟩ := b
  simp only [Un.mk.injEq]
  omega
theorem lessU_ne {a b : Un} (h : lessU a b = true) : a ≠ b := fun e => by rw [e, lessU_irr] at h; cases h
end Go.Proofs.YtalgfpegaobacaaGreat

/- Accounts: the types; which may be, their parts; one more client. No program in sight. -/
namespace Go.Proofs.YtalgfpegaobacaaGreat
open Go.RowKit
structure AcctV where
  id : Int
  member : Int
  kind : Int
  clients : SlOf Int
  deriving DecidableEq
def encAcctV (x : AcctV) : List Value := [.int .i64 x.id, .int .i64 x.member, .int .i64 x.kind, .slice x.clients.A x.clients.val.length x.clients.c]
structure Acct where
  id : Int
  member : Int
  kind : Int
  clients : List Int
  deriving DecidableEq
/-- What it is, wherever its clients lie. -/
def lgA (x : AcctV) : Acct := ⟨x.id, x.member, x.kind, x.clients.val⟩
/-- Its clients are there. -/
def GoodA (w : World) (x : AcctV) : Prop := Rs w 1 (x.clients.val.map encI) x.clients.A x.clients.c
theorem GoodA.keep {w w' : World} {x : AcctV} (h : GoodA w x) (hb : Below w.heap.size w w') : GoodA w' x := Rs.keep h hb
/-- Clients rise strictly from p on, 16 at most. -/
def risC : Int → List Int → Bool
  | _, [] => true
  | p, c :: t => decide (p < c) && decide (c ≤ 16) && risC c t
def mostA (k : Int) : Int := if k = 1 then 0 else if k = 4 then 1 else 16
/-- Whether an account may be. -/
def okAAc (x : Acct) : Prop := (1 ≤ x.id ∧ x.id ≤ 16) ∧ (1 ≤ x.member ∧ x.member ≤ 8) ∧ (1 ≤ x.kind ∧ x.kind ≤ 4) ∧ (x.clients.length : Int) ≤ mostA x.kind ∧ risC 0 x.clients = true
instance (x : Acct) : Decidable (okAAc x) := by unfold okAAc; infer_instance
/-- All parts. -/
def unitsA (x : Acct) : List Un := if x.kind = 1 then [⟨x.id, 0⟩] else x.clients.map (fun c => ⟨x.id, c⟩)
end Go.Proofs.YtalgfpegaobacaaGreat

/- Rows by unit, each with a list of its own: which may be, what a unit has, what any are when a unit has just some. No program in sight. -/
namespace Go.Proofs.YtalgfpegaobacaaGreat
open Go.RowKit
/-- A unit's row. -/
structure Row (α : Type) where
  unit : Un
  rows : List α
section
variable {α : Type} {ok : List α → Bool}
def SortK (l : List (Row α)) : Prop := l.Pairwise (fun a b => lessU a.unit b.unit = true)
def isKR (ok : List α → Bool) : Option Un → List (Row α) → Bool
  | _, [] => true
  | none, x :: t => !x.rows.isEmpty && ok x.rows && isKR ok (some x.unit) t
  | some p, x :: t => !x.rows.isEmpty && ok x.rows && lessU p x.unit && isKR ok (some x.unit) t
def isK (ok : List α → Bool) (l : List (Row α)) : Bool := isKR ok none l
def ofK : List (Row α) → Un → List α
  | [], _ => []
  | x :: t, u => if x.unit = u then x.rows else ofK t u
def oneK (u : Un) (now : List α) : List (Row α) := if now.isEmpty then [] else [⟨u, now⟩]
def withK (l : List (Row α)) (u : Un) (now : List α) : List (Row α) := l.filter (fun x => lessU x.unit u) ++ (oneK u now ++ l.filter (fun x => lessU u x.unit))
theorem isKR_facts : ∀ {l : List (Row α)} {p : Option Un} (_ : isKR ok p l = true), SortK l ∧ (∀ x ∈ l, x.rows ≠ [] ∧ ok x.rows = true) ∧ ∀ q, p = some q → ∀ x ∈ l, lessU q x.unit = true
  | [], _, _ => ⟨List.Pairwise.nil, by simp, by simp⟩
  | x :: t, p, h => by
    have ⟨h0, h1, h2⟩ : (x.rows ≠ [] ∧ ok x.rows = true) ∧ isKR ok (some x.unit) t = true ∧ ∀ q, p = some q → lessU q x.unit = true := by
      cases p with
      | none => simp only [isKR, Bool.and_eq_true, Bool.not_eq_true', List.isEmpty_eq_false_iff] at h; exact ⟨h.1, h.2, fun q hq => by cases hq⟩
      | some q => simp only [isKR, Bool.and_eq_true, Bool.not_eq_true', List.isEmpty_eq_false_iff] at h; exact ⟨h.1.1, h.2, fun q' hq => by injection hq with e; subst e; exact h.1.2⟩
    have ⟨i1, i2, i3⟩ := isKR_facts h1
    have i4 := i3 x.unit rfl
    refine ⟨List.pairwise_cons.2 ⟨i4, i1⟩, fun y hy => ?_, fun q hq y hy => ?_⟩
    · rcases List.mem_cons.1 hy with rfl | hy
      · exact h0
      · exact i2 y hy
    · rcases List.mem_cons.1 hy with rfl | hy
      · exact h2 q hq
      · exact lessU_trans (h2 q hq) (i4 y hy)
theorem isK_facts {l : List (Row α)} (h : isK ok l = true) : SortK l ∧ ∀ x ∈ l, x.rows ≠ [] ∧ ok x.rows = true := ⟨(isKR_facts h).1, (isKR_facts h).2.1⟩
theorem isKR_no {p : Option Un} {x : Row α} {t : List (Row α)} (h : x.rows = [] ∨ ok x.rows = false ∨ ∃ q, p = some q ∧ lessU q x.unit = false) : isKR ok p (x :: t) = false := by
  cases hr : isKR ok p (x :: t)
  · rfl
  · obtain ⟨_, h2, h3⟩ := isKR_facts hr
    have h4 := h2 x (by simp)
    rcases h with h | h | ⟨q, hq, h⟩
    · exact absurd h h4.1
    · rw [h4.2] at h; cases h
    · rw [h3 q hq x (by simp)] at h; cases h
theorem isKR_step {p : Option Un} {x : Row α} {t : List (Row α)} (h1 : x.rows ≠ []) (h2 : ok x.rows = true) (h3 : ∀ q, p = some q → lessU q x.unit = true) : isKR ok p (x :: t) = isKR ok (some x.unit) t := by
  cases p with
  | none => simp [isKR, h1, h2]
  | some q => simp [isKR, h1, h2, h3 q rfl]
theorem ofK_none {l : List (Row α)} {u : Un} (h : ∀ x ∈ l, x.unit ≠ u) : ofK l u = [] := by
  induction l with
  | nil => rfl
  | cons x t ih => rw [ofK, if_neg (h x (by simp)), ih fun y hy => h y (by simp [hy])]
theorem ofK_app {l m : List (Row α)} {u : Un} (h : ∀ x ∈ l, x.unit ≠ u) : ofK (l ++ m) u = ofK m u := by
  induction l with
  | nil => rfl
  | cons x t ih => rw [List.cons_append, ofK, if_neg (h x (by simp)), ih fun y hy => h y (by simp [hy])]
theorem ofK_app2 {l m : List (Row α)} {u : Un} (h : ∀ x ∈ m, x.unit ≠ u) : ofK (l ++ m) u = ofK l u := by
  induction l with
  | nil => exact ofK_none h
  | cons x t ih => rw [List.cons_append, ofK, ofK, ih]
theorem ofK_filter {l : List (Row α)} {u : Un} {p : Un → Bool} (h : p u = true) : ofK (l.filter fun x => p x.unit) u = ofK l u := by
  induction l with
  | nil => rfl
  | cons x t ih =>
    by_cases hx : x.unit = u
    · rw [List.filter_cons_of_pos (by rw [hx]; exact h), ofK, ofK, if_pos hx, if_pos hx]
    · cases hp : p x.unit
      · rw [List.filter_cons_of_neg (by rw [hp]; simp), ih, ofK, if_neg hx]
      · rw [List.filter_cons_of_pos (p := fun y : Row α => p y.unit) hp, ofK, ofK, if_neg hx, if_neg hx, ih]
theorem ofK_mem {l : List (Row α)} {u : Un} : (∃ x ∈ l, x.unit = u ∧ ofK l u = x.rows) ∨ ((∀ x ∈ l, x.unit ≠ u) ∧ ofK l u = []) := by
  induction l with
  | nil => exact .inr ⟨by simp, rfl⟩
  | cons x t ih =>
    by_cases hx : x.unit = u
    · exact .inl ⟨x, by simp, hx, by rw [ofK, if_pos hx]⟩
    · rcases ih with ⟨y, hy, h1, h2⟩ | ⟨h1, h2⟩
      · exact .inl ⟨y, by simp [hy], h1, by rw [ofK, if_neg hx, h2]⟩
      · refine .inr ⟨fun y hy => ?_, by rw [ofK, if_neg hx, h2]⟩
        rcases List.mem_cons.1 hy with rfl | hy
        · exact hx
        · exact h1 y hy
theorem oneK_mem {u : Un} {now : List α} {x : Row α} (h : x ∈ oneK u now) : x = ⟨u, now⟩ ∧ now ≠ [] := by
  unfold oneK at h
  split at h
  · cases h
  · rename_i h1
    exact ⟨List.mem_singleton.1 h, fun e => h1 (by rw [e]; rfl)⟩
theorem with_mem {l : List (Row α)} {u : Un} {now : List α} {x : Row α} (h : x ∈ withK l u now) : (x ∈ l ∧ (lessU x.unit u = true ∨ lessU u x.unit = true)) ∨ (x = ⟨u, now⟩ ∧ now ≠ []) := by
  unfold withK at h
  rcases List.mem_append.1 h with h | h
  · exact .inl ⟨(List.mem_filter.1 h).1, .inl (List.mem_filter.1 h).2⟩
  · rcases List.mem_append.1 h with h | h
    · exact .inr (oneK_mem h)
    · exact .inl ⟨(List.mem_filter.1 h).1, .inr (List.mem_filter.1 h).2⟩
theorem of_with (l : List (Row α)) (u v : Un) (now : List α) : ofK (withK l u now) v = if v = u then now else ofK l v := by
  have h1 : ∀ (x : Row α), x ∈ l.filter (fun x => lessU x.unit u) → lessU x.unit u = true := fun x hx => (List.mem_filter.1 hx).2
  have h2 : ∀ (x : Row α), x ∈ l.filter (fun x => lessU u x.unit) → lessU u x.unit = true := fun x hx => (List.mem_filter.1 hx).2
  by_cases hv : v = u
  · subst hv
    rw [if_pos rfl]
    unfold withK
    rw [ofK_app fun x hx => lessU_ne (h1 x hx), ofK_app2 fun x hx => (lessU_ne (h2 x hx)).symm]
    unfold oneK
    split
    · rename_i h
      rw [List.isEmpty_iff] at h
      rw [h]; rfl
    · rw [ofK, if_pos rfl]
  · rw [if_neg hv]
    have h3 : ∀ x ∈ oneK u now, x.unit ≠ v := fun x hx e => by rw [(oneK_mem hx).1] at e; exact hv e.symm
    unfold withK
    rcases lessU_tri v u with h | h | h
    · rw [ofK_app2 fun x hx => ?_, ofK_filter (p := fun y => lessU y u) h]
      rcases List.mem_append.1 hx with hx | hx
      · exact h3 x hx
      · exact fun e => lessU_ne (lessU_trans h (h2 x hx)) e.symm
    · exact absurd h hv
    · rw [ofK_app fun x hx => lessU_ne (lessU_trans (h1 x hx) h), ofK_app h3, ofK_filter (p := fun y => lessU u y) h]
theorem with_len (l : List (Row α)) (u : Un) (now : List α) : (withK l u now).length ≤ l.length + 1 := by
  have h : ∀ m : List (Row α), (m.filter (fun x => lessU x.unit u)).length + (m.filter (fun x => lessU u x.unit)).length ≤ m.length := by
    intro m
    induction m with
    | nil => simp
    | cons x t ih =>
      cases h1 : lessU x.unit u
      · rw [List.filter_cons_of_neg (by rw [h1]; simp)]
        cases h2 : lessU u x.unit
        · rw [List.filter_cons_of_neg (by rw [h2]; simp)]; simp only [List.length_cons]; omega
        · rw [List.filter_cons_of_pos (p := fun y : Row α => lessU u y.unit) h2]; simp only [List.length_cons]; omega
      · rw [List.filter_cons_of_pos (p := fun y : Row α => lessU y.unit u) h1, List.filter_cons_of_neg (by rw [lessU_asymm h1]; simp)]; simp only [List.length_cons]; omega
  have h1 := h l
  have h2 : (oneK u now).length ≤ 1 := by unfold oneK; split <;> simp
  unfold withK
  simp only [List.length_append]
  omega
/-- In a row that rises: what is ahead of a unit, and what behind. -/
theorem filter_lt : ∀ {l : List (Row α)} (_ : SortK l) (u : Un), l.filter (fun x => lessU x.unit u) = l.takeWhile (fun x => lessU x.unit u)
  | [], _, _ => rfl
  | x :: t, hs, u => by
    unfold SortK at hs
    rw [List.pairwise_cons] at hs
    cases h : lessU x.unit u
    · rw [List.filter_cons_of_neg (by rw [h]; simp), List.takeWhile_cons_of_neg (by rw [h]; simp), List.filter_eq_nil_iff]
      intro y hy
      rw [Bool.not_eq_true]
      cases h2 : lessU y.unit u
      · rfl
      · have := lessU_trans (hs.1 y hy) h2
        rw [h] at this; cases this
    · rw [List.filter_cons_of_pos (p := fun y : Row α => lessU y.unit u) h, List.takeWhile_cons_of_pos (p := fun y : Row α => lessU y.unit u) h, filter_lt hs.2]
end
end Go.Proofs.YtalgfpegaobacaaGreat
