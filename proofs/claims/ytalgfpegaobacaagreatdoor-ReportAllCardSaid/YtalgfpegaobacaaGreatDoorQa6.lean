/- Joined. -/
import Derived.Test.YtalgfpegaobacaaGreatDoorQa2
import Derived.Test.YtalgfpegaobacaaGreatDoorQz12
namespace Go.Proofs.YtalgfpegaobacaaGreatDoor
set_option linter.all false
set_option maxHeartbeats 4000000
set_option maxRecDepth 100000
open Go.RowKit
open Lib (hid)
def insAsset (l : List Asset) (m : Asset) : List Asset := l.takeWhile (fun x => decide (x.id < m.id)) ++ m :: l.dropWhile (fun x => decide (x.id < m.id))
def putAssetC (ob : Bool) (l : List Asset) (m : Asset) : Int := if ob then (if (findAsset l m.id).2 then 12 else 0) else 2
def putAssetL (ob : Bool) (l : List Asset) (m : Asset) : List Asset := if ob = true ∧ (findAsset l m.id).2 = false then insAsset l m else []
def PutAssetPost (ob : Bool) (w : World) (l : List Asset) (m : Asset) (e : Ending) (w' : World) : Prop :=
 ∃ v, e = .returned (.tuple #[v, .int .i64 (putAssetC ob l m)]) ∧ Own w' w.heap.size 51 3 v ((putAssetL ob l m).map encAsset) ∧ Below w.heap.size w w'
theorem insAsset_len (l : List Asset) (m : Asset) : (insAsset l m).length = l.length + 1 := by
 unfold insAsset
 have := congrArg List.length (List.takeWhile_append_dropWhile (p := fun x : Asset => decide (x.id < m.id)) (l := l))
 simp only [List.length_append, List.length_cons] at this ⊢
 omega
theorem putAssetL_len (ob : Bool) (l : List Asset) (m : Asset) : (putAssetL ob l m).length ≤ l.length + 1 := by
 unfold putAssetL
 split
 ·rw [insAsset_len]; omega
 ·simp
def stepAsset (okf : Asset → Bool) (out : List Asset) (m : Asset) : List Asset := if putAssetC (okf m) out m = 0 then putAssetL (okf m) out m else out
def tabAssetN (okf : Asset → Bool) (l : List Asset) (k : Nat) : List Asset := (l.take k).foldl (stepAsset okf) []
theorem tabAssetN_succ {okf : Asset → Bool} {l : List Asset} {k : Nat} (h : k < l.length) : tabAssetN okf l (k + 1) = stepAsset okf (tabAssetN okf l k) l[k] := by
 unfold tabAssetN
 rw [List.take_succ_eq_append_getElem h, List.foldl_append]
 rfl
theorem tabAssetN_len (okf : Asset → Bool) (l : List Asset) : ∀ k, (tabAssetN okf l k).length ≤ k
 | 0 => by simp [tabAssetN]
 | k + 1 => by
  have ih := tabAssetN_len okf l k
  rcases Nat.lt_or_ge k l.length with h | h
  ·rw [tabAssetN_succ h]; unfold stepAsset; split
   ·have := putAssetL_len (okf l[k]) (tabAssetN okf l k) l[k]; omega
   ·omega
  ·have : tabAssetN okf l (k + 1) = tabAssetN okf l k := by unfold tabAssetN; rw [List.take_of_length_le (by omega), List.take_of_length_le h]
   rw [this]; omega
theorem tabAsset_at {okf : Asset → Bool} {l : List Asset} {k n : Nat} (h : k = n ∨ (k ≤ n ∧ l.length ≤ k)) : tabAssetN okf l k = tabAssetN okf l n := by
 rcases h with rfl | ⟨h1, h2⟩
 ·rfl
 ·unfold tabAssetN; rw [List.take_of_length_le h2, List.take_of_length_le (by omega)]
theorem ref12Put (ob : Bool) (l : List Asset) (m : Asset) (A : Option Addr) (c : Nat) (w : World) (hl : l.length ≤ 1048576) (hr : Rs w 3 (l.map encAsset) A c) (hform : (A = none ∧ l = [] ∧ c = 0) ∨ ∃ b o, A = some ⟨b, o, none⟩)
  (c1 : ∀ W, Below w.heap.size w W → Calls Tryz.prog 51 #[.agg #[.int .i64 m.id, .int .i64 m.price, .int .i64 m.hair]] W fun e w' => e = .returned (.bool ob) ∧ Below W.heap.size W w') :
  Calls Tryz.prog 74 #[.slice A l.length c, .agg #[.int .i64 m.id, .int .i64 m.price, .int .i64 m.hair]] w (PutAssetPost ob w l m) := by
 have HR := hid hr
 have HFO := hid hform
 have hlc := hr.cap
 have hcm := hr.room
 rw [List.length_map] at hlc
 have c2 := fun W (h : Rd W A 3 (l.map encAsset)) => ref12Find l m.id A c W (by omega) h
 cases ob
 ·have hp : putAssetL false l m = [] := by unfold putAssetL; rw [if_neg (fun h => by cases h.1)]
  have hq : putAssetC false l m = 2 := rfl
  have HP := hid hp
  have HQ := hid hq
  have C1 := hid c1
  clear hr c1 c2 hp hq hform hcm hlc
  go_enter Tryz.func74, Tryz.ntmps74
  go_wp2_with (go_at_call 51; (with_reducible refine cM (C1.out _ tB) fun w1 hb1 fc1 fg1 hc1 hf1 hz1 => ?_); try simp at hz1)
  go_ret2
  exact ⟨_, by rw [HQ.out]; rfl, by rw [HP.out]; exact Own.nil _ _ _ _, tB⟩
 cases hf : (findAsset l m.id).2
 rotate_left
 ·rw [hf] at c2
  have hp : putAssetL true l m = [] := by unfold putAssetL; rw [hf, if_neg (by simp)]
  have hq : putAssetC true l m = 12 := by unfold putAssetC; rw [hf]; rfl
  have HP := hid hp
  have HQ := hid hq
  have C1 := hid c1
  have C2 := hid c2
  clear hr c1 c2 hp hq hf hform hcm hlc
  go_enter Tryz.func74, Tryz.ntmps74
  go_wp2_with (first | (go_at_call 51; (with_reducible refine cM (C1.out _ tB) fun w1 hb1 fc1 fg1 hc1 hf1 hz1 => ?_); try simp at hz1) | (go_at_call 26; (with_reducible refine cM (C2.out _ (HR.out.rd.keep tB)) fun w2 hb2 fc2 fg2 hc2 hf2 hz2 => ?_); try simp at hz2) | fail)
  go_ret2
  exact ⟨_, by rw [HQ.out]; rfl, by rw [HP.out]; exact Own.nil _ _ _ _, tB⟩
 rw [hf] at c2
 have hp : putAssetL true l m = insAsset l m := by unfold putAssetL; rw [hf, if_pos ⟨rfl, rfl⟩]
 have hq : putAssetC true l m = 0 := by unfold putAssetC; rw [hf]; rfl
 have HP := hid hp
 have HQ := hid hq
 have C1 := hid c1
 have C2 := hid c2
 clear hr c1 c2 hp hq hf hform
 rcases HFO.out with ⟨rfl, rfl, rfl⟩ | ⟨b, o, rfl⟩
 ·have c2' := C2.out
  simp only [List.length_nil] at c2'
  have C2' := hid c2'
  clear c2' C2
  go_enter Tryz.func74, Tryz.ntmps74
  go_wp2_with (first | (go_at_call 51; (with_reducible refine cM (C1.out _ tB) fun w1 hb1 fc1 fg1 hc1 hf1 hz1 => ?_); try simp at hz1) | (go_at_call 26; (with_reducible refine cM (C2'.out _ (HR.out.rd.keep tB)) fun w2 hb2 fc2 fg2 hc2 hf2 hz2 => ?_); try simp at hz2) | fail)
  refine wp_loop_rounds 1 ?_
  rw [rounds_succ]
  go_wp2_with fail
  go_quiet (fail)
  go_wp2_with (first | (at_builtin; refine wpList_app rfl _ _ _ rfl elAsset w2.heap.size _ [] rfl (Own.nil _ _ _ _) none 0 0 rfl [] rfl (fun _ => rfl) (fun i r h => by simp at h) (fun r h => by simp at h) (by unfold maxLen; simp) (by simp) tZ ?_; intro v1 w3 hown1 hb3; obtain ⟨fc3, fg3, hc3, hf3, hz3⟩ := bget hb3; (try simp at hz3)) | (at_builtin; refine wpList_app rfl _ _ _ rfl elAsset w2.heap.size _ _ rfl (hown1.alloc _) (some ⟨w3.heap.size, 0, none⟩) 1 1 rfl [encAsset m] rfl (fun h => by cases h) rd_one (rowsAsset [m]) (by unfold maxLen; simp) (by simp) tZ ?_; intro v2 w4 hown2 hb4; obtain ⟨fc4, fg4, hc4, hf4, hz4⟩ := bget hb4; (try simp at hz4)) | (at_builtin; refine wpList_app rfl _ _ _ rfl elAsset w2.heap.size _ _ rfl hown2 none 0 0 rfl [] rfl (fun _ => rfl) (fun i r h => by simp at h) (fun r h => by simp at h) (by unfold maxLen; simp) (by simp) tZ ?_; intro v3 w5 hown3 hb5) | fail)
  go_ret2
  exact ⟨_, by rw [HQ.out]; rfl, by rw [HP.out]; exact (by simpa [insAsset] using hown3.mono tZ), tB⟩
 ·have HF := hid HR.out.rd
  go_enter Tryz.func74, Tryz.ntmps74
  go_wp2_with (first | (go_at_call 51; (with_reducible refine cM (C1.out _ tB) fun w1 hb1 fc1 fg1 hc1 hf1 hz1 => ?_); try simp at hz1) | (go_at_call 26; (with_reducible refine cM (C2.out _ (HR.out.rd.keep tB)) fun w2 hb2 fc2 fg2 hc2 hf2 hz2 => ?_); try simp at hz2) | fail)
  go_loopw [9] (fun i wr => ∃ k : Nat, k ≤ l.length ∧ i = .int .i64 k ∧ Below w.heap.size w wr ∧ w.heap.size < wr.heap.size ∧ (wr.cell? ⟨w.heap.size, 0, none⟩ = some (.int .i64 m.id) ∧ wr.cell? ⟨w.heap.size, 1, none⟩ = some (.int .i64 m.price) ∧ wr.cell? ⟨w.heap.size, 2, none⟩ = some (.int .i64 m.hair)) ∧ ∀ j (_ : j < l.length), j < k → decide (l[j].id < m.id) = true) (fun i _ => l.length - (intOf i).toNat)
  case atStart => exact ⟨0, Nat.zero_le _, rfl, tB, tZ, by simp [go_sem, hc1, hc2, ↓IntWalk.iteOmega], fun j _ h => absurd h (by omega)⟩
  case round =>
   obtain ⟨k, hk, rfl, hbl, hsz, ⟨g0, g1, g2⟩, hno⟩ := hrel
   have Hbl := hid hbl
   have Hno := hid hno
   have hz := hbl.size
   clear hbl hno
   have kl : (k : Int) ≤ (l.length : Int) := by omega
   by_cases hlt : k < l.length
   ·obtain ⟨b', o', e, hb, hc⟩ := HF.out k (encAsset l[k]) (by simp [hlt])
    injection e with e
    injection e with e1 e2 _
    subst e1 e2
    have c0 := tC Hbl hb (hc 0 _ rfl)
    simp only [Nat.add_zero] at c0
    clear hc
    have hck : ¬ c = k := by omega
    have hck' : ¬ k = c := by omega
    have kl' : (k : Int) < (l.length : Int) := by omega
    cases hm : decide (l[k].id < m.id)
    ·have hw := while_cut (p := fun x : Asset => decide (x.id < m.id)) Hno.out hk (fun _ => hm)
     have hin : insAsset l m = l.take k ++ [m] ++ l.drop k := by unfold insAsset; rw [hw.1, hw.2]; simp
     have HIN := hid hin
     clear hw hin
     go_wp2_with fail
     go_quiet (fail)
     go_wp2_with (first | (at_builtin; refine wpList_app rfl _ _ _ rfl elAsset wr.heap.size _ [] rfl (Own.nil _ _ _ _) (some ⟨b, o, none⟩) k _ rfl ((l.take k).map encAsset) (by simp; omega) (fun h => by cases h) (by rw [List.map_take]; exact rd_take' (HF.out.keep (by have hbl := Hbl.out; exact tB)) k) (rowsAsset _) (by unfold maxLen; simp; omega) (by simp; omega) tZ ?_; intro v1 w3 hown1 hb3; obtain ⟨fc3, fg3, hc3, hf3, hz3⟩ := bget hb3; (try simp at hz3)) | (at_builtin; refine wpList_app rfl _ _ _ rfl elAsset wr.heap.size _ _ rfl (hown1.alloc _) (some ⟨w3.heap.size, 0, none⟩) 1 1 rfl [encAsset m] rfl (fun h => by cases h) rd_one (rowsAsset [m]) (by unfold maxLen; simp; omega) (by simp; omega) tZ ?_; intro v2 w4 hown2 hb4; obtain ⟨fc4, fg4, hc4, hf4, hz4⟩ := bget hb4; (try simp at hz4)) | (at_builtin; refine wpList_app rfl _ _ _ rfl elAsset wr.heap.size _ _ rfl hown2 (some ⟨b, o + k * 3, none⟩) (l.length - k) (c - k) rfl ((l.drop k).map encAsset) (by simp) (fun h => by cases h) (by rw [List.map_drop]; exact rd_dropR (HF.out.keep (by have hbl := Hbl.out; exact tB)) k) (rowsAsset _) (by unfold maxLen; simp; omega) (by simp; omega) tZ ?_; intro v3 w5 hown3 hb5) | (at_builtin; refine wpList_app rfl _ _ _ rfl elAsset wr.heap.size _ _ rfl hown2 (some ⟨b, o, none⟩) 0 0 rfl [] rfl (fun h => by cases h) (fun i r h => by simp at h) (fun r h => by simp at h) (by unfold maxLen; simp; omega) (by simp; omega) tZ ?_; intro v3 w5 hown3 hb5) | fail)
     go_ret2
     exact ⟨_, by rw [HQ.out]; rfl, by rw [HP.out, HIN.out]; exact (by simpa using hown3.mono tZ), by have hbl := Hbl.out; exact tB⟩
    ·have Hm := hid hm
     go_wp2_with fail
     go_quiet (fail)
     go_wp2_with fail
     go_roundw
     case rel => exact ⟨k + 1, by omega, by go_num, by have hbl := Hbl.out; exact tB, by simpa using hsz, by simp [go_sem, g0, g1, g2], fun j hj h => by
      rcases Nat.lt_or_ge j k with h1 | h1
      ·exact Hno.out j hj h1
      ·obtain rfl : j = k := by omega
       exact Hm.out⟩
     case measure => simp [intOf]; omega
   ·have hw := while_cut (p := fun x : Asset => decide (x.id < m.id)) Hno.out hk (fun h => absurd h hlt)
    have hin : insAsset l m = l.take k ++ [m] ++ l.drop k := by unfold insAsset; rw [hw.1, hw.2]; simp
    have HIN := hid hin
    clear hw hin
    have hd : decide ((k : Int) < (l.length : Int)) = false := by simp; omega
    by_cases hck : c = k
    ·obtain rfl : k = c := hck.symm
     go_wp2_with fail
     go_quiet (fail)
     go_wp2_with (first | (at_builtin; refine wpList_app rfl _ _ _ rfl elAsset wr.heap.size _ [] rfl (Own.nil _ _ _ _) (some ⟨b, o, none⟩) k _ rfl ((l.take k).map encAsset) (by simp; omega) (fun h => by cases h) (by rw [List.map_take]; exact rd_take' (HF.out.keep (by have hbl := Hbl.out; exact tB)) k) (rowsAsset _) (by unfold maxLen; simp; omega) (by simp; omega) tZ ?_; intro v1 w3 hown1 hb3; obtain ⟨fc3, fg3, hc3, hf3, hz3⟩ := bget hb3; (try simp at hz3)) | (at_builtin; refine wpList_app rfl _ _ _ rfl elAsset wr.heap.size _ _ rfl (hown1.alloc _) (some ⟨w3.heap.size, 0, none⟩) 1 1 rfl [encAsset m] rfl (fun h => by cases h) rd_one (rowsAsset [m]) (by unfold maxLen; simp; omega) (by simp; omega) tZ ?_; intro v2 w4 hown2 hb4; obtain ⟨fc4, fg4, hc4, hf4, hz4⟩ := bget hb4; (try simp at hz4)) | (at_builtin; refine wpList_app rfl _ _ _ rfl elAsset wr.heap.size _ _ rfl hown2 (some ⟨b, o + k * 3, none⟩) (l.length - k) (c - k) rfl ((l.drop k).map encAsset) (by simp) (fun h => by cases h) (by rw [List.map_drop]; exact rd_dropR (HF.out.keep (by have hbl := Hbl.out; exact tB)) k) (rowsAsset _) (by unfold maxLen; simp; omega) (by simp; omega) tZ ?_; intro v3 w5 hown3 hb5) | (at_builtin; refine wpList_app rfl _ _ _ rfl elAsset wr.heap.size _ _ rfl hown2 (some ⟨b, o, none⟩) 0 0 rfl [] rfl (fun h => by cases h) (fun i r h => by simp at h) (fun r h => by simp at h) (by unfold maxLen; simp; omega) (by simp; omega) tZ ?_; intro v3 w5 hown3 hb5) | fail)
     go_ret2
     exact ⟨_, by rw [HQ.out]; rfl, by rw [HP.out, HIN.out, List.drop_eq_nil_of_le (show l.length ≤ k from by omega)]; exact (by simpa using hown3.mono tZ), by have hbl := Hbl.out; exact tB⟩
    ·have hck' : ¬ k = c := fun h => hck h.symm
     go_wp2_with fail
     go_quiet (fail)
     go_wp2_with (first | (at_builtin; refine wpList_app rfl _ _ _ rfl elAsset wr.heap.size _ [] rfl (Own.nil _ _ _ _) (some ⟨b, o, none⟩) k _ rfl ((l.take k).map encAsset) (by simp; omega) (fun h => by cases h) (by rw [List.map_take]; exact rd_take' (HF.out.keep (by have hbl := Hbl.out; exact tB)) k) (rowsAsset _) (by unfold maxLen; simp; omega) (by simp; omega) tZ ?_; intro v1 w3 hown1 hb3; obtain ⟨fc3, fg3, hc3, hf3, hz3⟩ := bget hb3; (try simp at hz3)) | (at_builtin; refine wpList_app rfl _ _ _ rfl elAsset wr.heap.size _ _ rfl (hown1.alloc _) (some ⟨w3.heap.size, 0, none⟩) 1 1 rfl [encAsset m] rfl (fun h => by cases h) rd_one (rowsAsset [m]) (by unfold maxLen; simp; omega) (by simp; omega) tZ ?_; intro v2 w4 hown2 hb4; obtain ⟨fc4, fg4, hc4, hf4, hz4⟩ := bget hb4; (try simp at hz4)) | (at_builtin; refine wpList_app rfl _ _ _ rfl elAsset wr.heap.size _ _ rfl hown2 (some ⟨b, o + k * 3, none⟩) (l.length - k) (c - k) rfl ((l.drop k).map encAsset) (by simp) (fun h => by cases h) (by rw [List.map_drop]; exact rd_dropR (HF.out.keep (by have hbl := Hbl.out; exact tB)) k) (rowsAsset _) (by unfold maxLen; simp; omega) (by simp; omega) tZ ?_; intro v3 w5 hown3 hb5) | (at_builtin; refine wpList_app rfl _ _ _ rfl elAsset wr.heap.size _ _ rfl hown2 (some ⟨b, o, none⟩) 0 0 rfl [] rfl (fun h => by cases h) (fun i r h => by simp at h) (fun r h => by simp at h) (by unfold maxLen; simp; omega) (by simp; omega) tZ ?_; intro v3 w5 hown3 hb5) | fail)
     go_ret2
     exact ⟨_, by rw [HQ.out]; rfl, by rw [HP.out, HIN.out]; exact (by simpa using hown3.mono tZ), by have hbl := Hbl.out; exact tB⟩
theorem own_formAsset {w : World} {base : Nat} {v : Value} {l : List Asset} (h : Own w base 51 3 v (l.map encAsset)) : ∃ A c, v = .slice A l.length c ∧ Rs w 3 (l.map encAsset) A c ∧ ((A = none ∧ l = [] ∧ c = 0) ∨ ∃ b o, A = some ⟨b, o, none⟩) := by
 obtain ⟨A, c, h1, h2, h3⟩ := h.rs
 rw [List.length_map] at h1
 refine ⟨A, c, h1, h2, ?_⟩
 rcases h3 with ⟨ha, hr, hc⟩ | ⟨g, ha, _⟩
 ·exact .inl ⟨ha, List.map_eq_nil_iff.1 hr, hc⟩
 ·exact .inr ⟨g, 0, ha⟩
theorem ref12Table (okf : Asset → Bool) (l : List Asset) (A : Option Addr) (c : Nat) (w : World) (hl : l.length ≤ maxLen) (hr : Rd w A 3 (l.map encAsset))
  (his : ∀ m ∈ l, ∀ W, Below w.heap.size w W → Calls Tryz.prog 51 #[.agg #[.int .i64 m.id, .int .i64 m.price, .int .i64 m.hair]] W fun e w' => e = .returned (.bool (okf m)) ∧ Below W.heap.size W w') :
  Calls Tryz.prog 37 #[.slice A l.length c] w fun e w' => ∃ v, e = .returned v ∧ Own w' w.heap.size 51 3 v ((tabAssetN okf l 8).map encAsset) ∧ Below w.heap.size w w' := by
 have HR := hid hr
 have HIS := hid his
 have hml : (l.length : Int) ≤ 9223372036854775807 := by unfold maxLen at hl; omega
 clear hr hl his
 go_enter Tryz.func37, Tryz.ntmps37
 go_wp2_with fail
 go_loopw [3, 4] (fun v i wr => ∃ k : Nat, k ≤ l.length ∧ k ≤ 8 ∧ i = .int .i64 k ∧ Own wr w.heap.size 51 3 v ((tabAssetN okf l k).map encAsset) ∧ Below w.heap.size w wr) (fun _ i _ => l.length - (intOf i).toNat)
 case atStart => exact ⟨0, Nat.zero_le _, Nat.zero_le _, rfl, Own.nil _ _ _ _, Below.refl _ _⟩
 case round =>
  obtain ⟨k, hk, hk10, rfl, hown, hbl⟩ := hrel
  have Hbl := hid hbl
  have Hown := hid hown
  have hz := hbl.size
  clear hbl hown
  by_cases hgo : k < l.length ∧ k < 8
  ·obtain ⟨hlt, h10⟩ := hgo
   have kl : (k : Int) < (l.length : Int) := by omega
   have k10 : (k : Int) < 8 := by omega
   have d10 : decide ((k : Int) < 8) = true := by simpa using k10
   obtain ⟨A1, c1, hv1, hms, hfo⟩ := own_formAsset Hown.out
   have Hms := hid hms
   have Hfo := hid hfo
   have hlen := tabAssetN_len okf l k
   subst hv1
   obtain ⟨b, o, rfl, hb, hc⟩ := HR.out k (encAsset l[k]) (by simp [hlt])
   have e0 := tC Hbl hb (hc 0 _ rfl)
   have e1 := tC Hbl hb (hc 1 _ rfl)
   have e2 := tC Hbl hb (hc 2 _ rfl)
   simp only [Nat.add_zero] at e0
   have hs := tabAssetN_succ (okf := okf) hlt
   have HS := hid hs
   have hst : stepAsset okf (tabAssetN okf l k) l[k] = if putAssetC (okf l[k]) (tabAssetN okf l k) l[k] = 0 then putAssetL (okf l[k]) (tabAssetN okf l k) l[k] else tabAssetN okf l k := rfl
   have HST := hid hst
   have HI := hid (fun W (h : Below wr.heap.size wr W) => HIS.out l[k] (List.getElem_mem hlt) W (Hbl.out.trans (h.mono hz)))
   clear hc hms hs hst hfo
   cases hq : (putAssetC (okf l[k]) (tabAssetN okf l k) l[k] == 0)
   ·have HQ := hid (show ¬ putAssetC (okf l[k]) (tabAssetN okf l k) l[k] = 0 from by simpa using hq)
    go_wp2_with (go_at_call 74; (with_reducible refine (ref12Put (okf l[k]) (tabAssetN okf l k) l[k] A1 c1 _ (by omega) Hms.out Hfo.out HI.out).mono ?_); rintro e w1 ⟨v1, rfl, hown1, hb1⟩; have Hown1 := hid hown1; have Hb1 := hid hb1; have hz1 := hb1.size; clear hown1 hb1)
    go_roundw
    case rel => exact ⟨k + 1, by omega, by omega, by go_num, by rw [HS.out, HST.out, if_neg HQ.out]; exact Hown.out.keep Hb1.out, Hbl.out.trans (Hb1.out.mono hz)⟩
    case measure => simp [intOf]; omega
   ·have HQ := hid (show putAssetC (okf l[k]) (tabAssetN okf l k) l[k] = 0 from by simpa using hq)
    go_wp2_with (go_at_call 74; (with_reducible refine (ref12Put (okf l[k]) (tabAssetN okf l k) l[k] A1 c1 _ (by omega) Hms.out Hfo.out HI.out).mono ?_); rintro e w1 ⟨v1, rfl, hown1, hb1⟩; have Hown1 := hid hown1; have Hb1 := hid hb1; have hz1 := hb1.size; clear hown1 hb1)
    go_roundw
    case rel => exact ⟨k + 1, by omega, by omega, by go_num, by rw [HS.out, HST.out, if_pos HQ.out]; exact Hown1.out.mono hz, Hbl.out.trans (Hb1.out.mono hz)⟩
    case measure => simp [intOf]; omega
  ·have ht := tabAsset_at (okf := okf) (l := l) (k := k) (n := 8) (by omega)
   have HT := hid ht
   clear ht
   by_cases hlt : k < l.length
   ·have d1 := @dT k l.length hlt
    have d2 : decide ((k : Int) < 8) = false := by simp; omega
    go_wp2_with fail
    go_ret
    exact ⟨_, rfl, by rw [← HT.out]; exact Hown.out, Hbl.out⟩
   ·have d1 := @dF k l.length hlt
    go_wp2_with fail
    go_ret
    exact ⟨_, rfl, by rw [← HT.out]; exact Hown.out, Hbl.out⟩
def findAcctV (l : List AcctV) (id : Int) : AcctV × Bool := match l.find? (fun m => m.id == id) with | some m => (m, true) | none => (⟨0, 0, 0, ⟨none, 0, []⟩⟩, false)
theorem findAcctV_hit {l : List AcctV} {id : Int} {k : Nat} (h : k < l.length) (hm : (l[k].id == id) = true) (hn : ∀ j (_ : j < l.length), j < k → (l[j].id == id) = false) : findAcctV l id = (l[k], true) := by
 have : l.find? (fun m => m.id == id) = some l[k] := by
  rw [List.find?_eq_some_iff_getElem]
  exact ⟨hm, k, h, rfl, fun j hj => by simp [hn j (by omega) hj]⟩
 simp [findAcctV, this]
theorem findAcctV_miss {l : List AcctV} {id : Int} (hn : ∀ j (_ : j < l.length), (l[j].id == id) = false) : findAcctV l id = (⟨0, 0, 0, ⟨none, 0, []⟩⟩, false) := by
 have : l.find? (fun m => m.id == id) = none := by
  rw [List.find?_eq_none]
  intro x hx
  obtain ⟨j, hj, rfl⟩ := List.mem_iff_getElem.1 hx
  simp [hn j hj]
 simp [findAcctV, this]
def insAcctV (l : List AcctV) (m : AcctV) : List AcctV := l.takeWhile (fun x => decide (x.id < m.id)) ++ m :: l.dropWhile (fun x => decide (x.id < m.id))
def putAcctVC (ob : Bool) (l : List AcctV) (m : AcctV) : Int := if ob then (if (findAcctV l m.id).2 then 12 else 0) else 2
def putAcctVL (ob : Bool) (l : List AcctV) (m : AcctV) : List AcctV := if ob = true ∧ (findAcctV l m.id).2 = false then insAcctV l m else []
def PutAcctVPost (ob : Bool) (w : World) (l : List AcctV) (m : AcctV) (e : Ending) (w' : World) : Prop :=
 ∃ v, e = .returned (.tuple #[v, .int .i64 (putAcctVC ob l m)]) ∧ Own w' w.heap.size 54 4 v ((putAcctVL ob l m).map encAcctV) ∧ Below w.heap.size w w'
theorem insAcctV_len (l : List AcctV) (m : AcctV) : (insAcctV l m).length = l.length + 1 := by
 unfold insAcctV
 have := congrArg List.length (List.takeWhile_append_dropWhile (p := fun x : AcctV => decide (x.id < m.id)) (l := l))
 simp only [List.length_append, List.length_cons] at this ⊢
 omega
theorem putAcctVL_len (ob : Bool) (l : List AcctV) (m : AcctV) : (putAcctVL ob l m).length ≤ l.length + 1 := by
 unfold putAcctVL
 split
 ·rw [insAcctV_len]; omega
 ·simp
def stepAcctV (okf : AcctV → Bool) (out : List AcctV) (m : AcctV) : List AcctV := if putAcctVC (okf m) out m = 0 then putAcctVL (okf m) out m else out
def tabAcctVN (okf : AcctV → Bool) (l : List AcctV) (k : Nat) : List AcctV := (l.take k).foldl (stepAcctV okf) []
theorem tabAcctVN_succ {okf : AcctV → Bool} {l : List AcctV} {k : Nat} (h : k < l.length) : tabAcctVN okf l (k + 1) = stepAcctV okf (tabAcctVN okf l k) l[k] := by
 unfold tabAcctVN
 rw [List.take_succ_eq_append_getElem h, List.foldl_append]
 rfl
theorem tabAcctVN_len (okf : AcctV → Bool) (l : List AcctV) : ∀ k, (tabAcctVN okf l k).length ≤ k
 | 0 => by simp [tabAcctVN]
 | k + 1 => by
  have ih := tabAcctVN_len okf l k
  rcases Nat.lt_or_ge k l.length with h | h
  ·rw [tabAcctVN_succ h]; unfold stepAcctV; split
   ·have := putAcctVL_len (okf l[k]) (tabAcctVN okf l k) l[k]; omega
   ·omega
  ·have : tabAcctVN okf l (k + 1) = tabAcctVN okf l k := by unfold tabAcctVN; rw [List.take_of_length_le (by omega), List.take_of_length_le h]
   rw [this]; omega
theorem tabAcctV_at {okf : AcctV → Bool} {l : List AcctV} {k n : Nat} (h : k = n ∨ (k ≤ n ∧ l.length ≤ k)) : tabAcctVN okf l k = tabAcctVN okf l n := by
 rcases h with rfl | ⟨h1, h2⟩
 ·rfl
 ·unfold tabAcctVN; rw [List.take_of_length_le h2, List.take_of_length_le (by omega)]
def insMb (l : List Mb) (m : Mb) : List Mb := l.takeWhile (fun x => decide (x.id < m.id)) ++ m :: l.dropWhile (fun x => decide (x.id < m.id))
def putMbC (ob : Bool) (l : List Mb) (m : Mb) : Int := if ob then (if (findMb l m.id).2 then 12 else 0) else 2
def putMbL (ob : Bool) (l : List Mb) (m : Mb) : List Mb := if ob = true ∧ (findMb l m.id).2 = false then insMb l m else []
def PutMbPost (ob : Bool) (w : World) (l : List Mb) (m : Mb) (e : Ending) (w' : World) : Prop :=
 ∃ v, e = .returned (.tuple #[v, .int .i64 (putMbC ob l m)]) ∧ Own w' w.heap.size 49 4 v ((putMbL ob l m).map encMb) ∧ Below w.heap.size w w'
theorem insMb_len (l : List Mb) (m : Mb) : (insMb l m).length = l.length + 1 := by
 unfold insMb
 have := congrArg List.length (List.takeWhile_append_dropWhile (p := fun x : Mb => decide (x.id < m.id)) (l := l))
 simp only [List.length_append, List.length_cons] at this ⊢
 omega
theorem putMbL_len (ob : Bool) (l : List Mb) (m : Mb) : (putMbL ob l m).length ≤ l.length + 1 := by
 unfold putMbL
 split
 ·rw [insMb_len]; omega
 ·simp
def stepMb (okf : Mb → Bool) (out : List Mb) (m : Mb) : List Mb := if putMbC (okf m) out m = 0 then putMbL (okf m) out m else out
def tabMbN (okf : Mb → Bool) (l : List Mb) (k : Nat) : List Mb := (l.take k).foldl (stepMb okf) []
theorem tabMbN_succ {okf : Mb → Bool} {l : List Mb} {k : Nat} (h : k < l.length) : tabMbN okf l (k + 1) = stepMb okf (tabMbN okf l k) l[k] := by
 unfold tabMbN
 rw [List.take_succ_eq_append_getElem h, List.foldl_append]
 rfl
theorem tabMbN_len (okf : Mb → Bool) (l : List Mb) : ∀ k, (tabMbN okf l k).length ≤ k
 | 0 => by simp [tabMbN]
 | k + 1 => by
  have ih := tabMbN_len okf l k
  rcases Nat.lt_or_ge k l.length with h | h
  ·rw [tabMbN_succ h]; unfold stepMb; split
   ·have := putMbL_len (okf l[k]) (tabMbN okf l k) l[k]; omega
   ·omega
  ·have : tabMbN okf l (k + 1) = tabMbN okf l k := by unfold tabMbN; rw [List.take_of_length_le (by omega), List.take_of_length_le h]
   rw [this]; omega
theorem tabMb_at {okf : Mb → Bool} {l : List Mb} {k n : Nat} (h : k = n ∨ (k ≤ n ∧ l.length ≤ k)) : tabMbN okf l k = tabMbN okf l n := by
 rcases h with rfl | ⟨h1, h2⟩
 ·rfl
 ·unfold tabMbN; rw [List.take_of_length_le h2, List.take_of_length_le (by omega)]
def SortedMb (l : List Mb) : Prop := l.Pairwise (fun a b => a.id < b.id)
theorem sorted_insMb {l : List Mb} {m : Mb} (hs : SortedMb l) (hn : (findMb l m.id).2 = false) : SortedMb (insMb l m) := by
 have hne : ∀ x ∈ l, x.id ≠ m.id := by
  intro x hx he
  unfold findMb at hn
  cases hf : l.find? (fun y => y.id == m.id) with
  | none => rw [List.find?_eq_none] at hf; exact hf x hx (by simp [he])
  | some y => rw [hf] at hn; cases hn
 unfold SortedMb at hs ⊢
 unfold insMb
 have hs' := hs
 rw [← List.takeWhile_append_dropWhile (p := fun x : Mb => decide (x.id < m.id)) (l := l), List.pairwise_append] at hs'
 obtain ⟨h1, h2, h3⟩ := hs'
 rw [List.pairwise_append, List.pairwise_cons]
 refine ⟨h1, ⟨fun x hx => ?_, h2⟩, fun a ha b hb => ?_⟩
 ·cases hd : l.dropWhile (fun x : Mb => decide (x.id < m.id)) with
  | nil => rw [hd] at hx; cases hx
  | cons y t =>
   have hy : ¬ y.id < m.id := by
    have := List.head_dropWhile_not (p := fun x : Mb => decide (x.id < m.id)) (l := l) (by rw [hd]; simp)
    simp [hd] at this; omega
   have hym : y ∈ l := (List.dropWhile_sublist (l := l) (p := fun x : Mb => decide (x.id < m.id))).subset (by rw [hd]; simp)
   have := hne y hym
   rw [hd] at hx h2
   rcases List.mem_cons.1 hx with rfl | hx
   ·omega
   ·have := (List.pairwise_cons.1 h2).1 x hx; omega
 ·rcases List.mem_cons.1 hb with rfl | hb
  ·have := List.all_eq_true.1 (List.all_takeWhile (p := fun x : Mb => decide (x.id < b.id)) (l := l)) a ha; simpa using this
  ·exact h3 a ha b hb
theorem sorted_tabMbN (okf : Mb → Bool) (l : List Mb) : ∀ k, SortedMb (tabMbN okf l k)
 | 0 => by simp [tabMbN, SortedMb]
 | k + 1 => by
  have ih := sorted_tabMbN okf l k
  rcases Nat.lt_or_ge k l.length with h | h
  ·rw [tabMbN_succ h]; unfold stepMb; split
   ·rename_i hq
    unfold putMbL
    split
    ·rename_i hh; exact sorted_insMb ih hh.2
    ·exact List.Pairwise.nil
   ·exact ih
  ·have : tabMbN okf l (k + 1) = tabMbN okf l k := by unfold tabMbN; rw [List.take_of_length_le (by omega), List.take_of_length_le h]
   rw [this]; exact ih
theorem put_memAs {ob : Bool} {t : List Asset} {m x : Asset} (h : x ∈ putAssetL ob t m) : x ∈ t ∨ (x = m ∧ ob = true) := by
 unfold putAssetL at h
 split at h
 ·rename_i hc
  unfold insAsset at h
  rcases List.mem_append.1 h with h | h
  ·exact .inl (List.takeWhile_prefix _ |>.subset h)
  ·rcases List.mem_cons.1 h with h | h
   ·exact .inr ⟨h, hc.1⟩
   ·exact .inl ((List.dropWhile_suffix _).subset h)
 ·simp at h
theorem tab_okAs (l : List Asset) : ∀ k, ∀ x ∈ tabAssetN (fun x => decide (okA x)) l k, okA x := by
 intro k
 induction k with
 | zero => intro x hx; simp [tabAssetN] at hx
 | succ k ih =>
  intro x hx
  rcases Nat.lt_or_ge k l.length with h | h
  ·rw [tabAssetN_succ h] at hx
   unfold stepAsset at hx
   split at hx
   ·rcases put_memAs hx with h1 | ⟨h1, h2⟩
    ·exact ih x h1
    ·rw [h1]; exact of_decide_eq_true h2
   ·exact ih x hx
  ·rw [show tabAssetN (fun x => decide (okA x)) l (k + 1) = tabAssetN (fun x => decide (okA x)) l k from by unfold tabAssetN; rw [List.take_of_length_le (by omega), List.take_of_length_le h]] at hx
   exact ih x hx
theorem ref14Put (ob : Bool) (l : List Mb) (m : Mb) (A : Option Addr) (c : Nat) (w : World) (hl : l.length ≤ 1048576) (hr : Rs w 4 (l.map encMb) A c) (hform : (A = none ∧ l = [] ∧ c = 0) ∨ ∃ b o, A = some ⟨b, o, none⟩)
  (c1 : ∀ W, Below w.heap.size w W → Calls Tryz.prog 49 #[.agg #[.int .i64 m.id, .int .i64 m.cap, .int .i64 m.phase, .int .i64 m.til]] W fun e w' => e = .returned (.bool ob) ∧ Below W.heap.size W w') :
  Calls Tryz.prog 72 #[.slice A l.length c, .agg #[.int .i64 m.id, .int .i64 m.cap, .int .i64 m.phase, .int .i64 m.til]] w (PutMbPost ob w l m) := by
 have HR := hid hr
 have HFO := hid hform
 have hlc := hr.cap
 have hcm := hr.room
 rw [List.length_map] at hlc
 have c2 := fun W (h : Rd W A 4 (l.map encMb)) => ref14Find l m.id A c W (by omega) h
 cases ob
 ·have hp : putMbL false l m = [] := by unfold putMbL; rw [if_neg (fun h => by cases h.1)]
  have hq : putMbC false l m = 2 := rfl
  have HP := hid hp
  have HQ := hid hq
  have C1 := hid c1
  clear hr c1 c2 hp hq hform hcm hlc
  go_enter Tryz.func72, Tryz.ntmps72
  go_wp2_with (go_at_call 49; (with_reducible refine cM (C1.out _ tB) fun w1 hb1 fc1 fg1 hc1 hf1 hz1 => ?_); try simp at hz1)
  go_ret2
  exact ⟨_, by rw [HQ.out]; rfl, by rw [HP.out]; exact Own.nil _ _ _ _, tB⟩
 cases hf : (findMb l m.id).2
 rotate_left
 ·rw [hf] at c2
  have hp : putMbL true l m = [] := by unfold putMbL; rw [hf, if_neg (by simp)]
  have hq : putMbC true l m = 12 := by unfold putMbC; rw [hf]; rfl
  have HP := hid hp
  have HQ := hid hq
  have C1 := hid c1
  have C2 := hid c2
  clear hr c1 c2 hp hq hf hform hcm hlc
  go_enter Tryz.func72, Tryz.ntmps72
  go_wp2_with (first | (go_at_call 49; (with_reducible refine cM (C1.out _ tB) fun w1 hb1 fc1 fg1 hc1 hf1 hz1 => ?_); try simp at hz1) | (go_at_call 40; (with_reducible refine cM (C2.out _ (HR.out.rd.keep tB)) fun w2 hb2 fc2 fg2 hc2 hf2 hz2 => ?_); try simp at hz2) | fail)
  go_ret2
  exact ⟨_, by rw [HQ.out]; rfl, by rw [HP.out]; exact Own.nil _ _ _ _, tB⟩
 rw [hf] at c2
 have hp : putMbL true l m = insMb l m := by unfold putMbL; rw [hf, if_pos ⟨rfl, rfl⟩]
 have hq : putMbC true l m = 0 := by unfold putMbC; rw [hf]; rfl
 have HP := hid hp
 have HQ := hid hq
 have C1 := hid c1
 have C2 := hid c2
 clear hr c1 c2 hp hq hf hform
 rcases HFO.out with ⟨rfl, rfl, rfl⟩ | ⟨b, o, rfl⟩
 ·have c2' := C2.out
  simp only [List.length_nil] at c2'
  have C2' := hid c2'
  clear c2' C2
  go_enter Tryz.func72, Tryz.ntmps72
  go_wp2_with (first | (go_at_call 49; (with_reducible refine cM (C1.out _ tB) fun w1 hb1 fc1 fg1 hc1 hf1 hz1 => ?_); try simp at hz1) | (go_at_call 40; (with_reducible refine cM (C2'.out _ (HR.out.rd.keep tB)) fun w2 hb2 fc2 fg2 hc2 hf2 hz2 => ?_); try simp at hz2) | fail)
  refine wp_loop_rounds 1 ?_
  rw [rounds_succ]
  go_wp2_with fail
  go_quiet (fail)
  go_wp2_with (first | (at_builtin; refine wpList_app rfl _ _ _ rfl elMb w2.heap.size _ [] rfl (Own.nil _ _ _ _) none 0 0 rfl [] rfl (fun _ => rfl) (fun i r h => by simp at h) (fun r h => by simp at h) (by unfold maxLen; simp) (by simp) tZ ?_; intro v1 w3 hown1 hb3; obtain ⟨fc3, fg3, hc3, hf3, hz3⟩ := bget hb3; (try simp at hz3)) | (at_builtin; refine wpList_app rfl _ _ _ rfl elMb w2.heap.size _ _ rfl (hown1.alloc _) (some ⟨w3.heap.size, 0, none⟩) 1 1 rfl [encMb m] rfl (fun h => by cases h) rd_one (rowsMb [m]) (by unfold maxLen; simp) (by simp) tZ ?_; intro v2 w4 hown2 hb4; obtain ⟨fc4, fg4, hc4, hf4, hz4⟩ := bget hb4; (try simp at hz4)) | (at_builtin; refine wpList_app rfl _ _ _ rfl elMb w2.heap.size _ _ rfl hown2 none 0 0 rfl [] rfl (fun _ => rfl) (fun i r h => by simp at h) (fun r h => by simp at h) (by unfold maxLen; simp) (by simp) tZ ?_; intro v3 w5 hown3 hb5) | fail)
  go_ret2
  exact ⟨_, by rw [HQ.out]; rfl, by rw [HP.out]; exact (by simpa [insMb] using hown3.mono tZ), tB⟩
 ·have HF := hid HR.out.rd
  go_enter Tryz.func72, Tryz.ntmps72
  go_wp2_with (first | (go_at_call 49; (with_reducible refine cM (C1.out _ tB) fun w1 hb1 fc1 fg1 hc1 hf1 hz1 => ?_); try simp at hz1) | (go_at_call 40; (with_reducible refine cM (C2.out _ (HR.out.rd.keep tB)) fun w2 hb2 fc2 fg2 hc2 hf2 hz2 => ?_); try simp at hz2) | fail)
  go_loopw [9] (fun i wr => ∃ k : Nat, k ≤ l.length ∧ i = .int .i64 k ∧ Below w.heap.size w wr ∧ w.heap.size < wr.heap.size ∧ (wr.cell? ⟨w.heap.size, 0, none⟩ = some (.int .i64 m.id) ∧ wr.cell? ⟨w.heap.size, 1, none⟩ = some (.int .i64 m.cap) ∧ wr.cell? ⟨w.heap.size, 2, none⟩ = some (.int .i64 m.phase) ∧ wr.cell? ⟨w.heap.size, 3, none⟩ = some (.int .i64 m.til)) ∧ ∀ j (_ : j < l.length), j < k → decide (l[j].id < m.id) = true) (fun i _ => l.length - (intOf i).toNat)
  case atStart => exact ⟨0, Nat.zero_le _, rfl, tB, tZ, by simp [go_sem, hc1, hc2, ↓IntWalk.iteOmega], fun j _ h => absurd h (by omega)⟩
  case round =>
   obtain ⟨k, hk, rfl, hbl, hsz, ⟨g0, g1, g2, g3⟩, hno⟩ := hrel
   have Hbl := hid hbl
   have Hno := hid hno
   have hz := hbl.size
   clear hbl hno
   have kl : (k : Int) ≤ (l.length : Int) := by omega
   by_cases hlt : k < l.length
   ·obtain ⟨b', o', e, hb, hc⟩ := HF.out k (encMb l[k]) (by simp [hlt])
    injection e with e
    injection e with e1 e2 _
    subst e1 e2
    have c0 := tC Hbl hb (hc 0 _ rfl)
    simp only [Nat.add_zero] at c0
    clear hc
    have hck : ¬ c = k := by omega
    have hck' : ¬ k = c := by omega
    have kl' : (k : Int) < (l.length : Int) := by omega
    cases hm : decide (l[k].id < m.id)
    ·have hw := while_cut (p := fun x : Mb => decide (x.id < m.id)) Hno.out hk (fun _ => hm)
     have hin : insMb l m = l.take k ++ [m] ++ l.drop k := by unfold insMb; rw [hw.1, hw.2]; simp
     have HIN := hid hin
     clear hw hin
     go_wp2_with fail
     go_quiet (fail)
     go_wp2_with (first | (at_builtin; refine wpList_app rfl _ _ _ rfl elMb wr.heap.size _ [] rfl (Own.nil _ _ _ _) (some ⟨b, o, none⟩) k _ rfl ((l.take k).map encMb) (by simp; omega) (fun h => by cases h) (by rw [List.map_take]; exact rd_take' (HF.out.keep (by have hbl := Hbl.out; exact tB)) k) (rowsMb _) (by unfold maxLen; simp; omega) (by simp; omega) tZ ?_; intro v1 w3 hown1 hb3; obtain ⟨fc3, fg3, hc3, hf3, hz3⟩ := bget hb3; (try simp at hz3)) | (at_builtin; refine wpList_app rfl _ _ _ rfl elMb wr.heap.size _ _ rfl (hown1.alloc _) (some ⟨w3.heap.size, 0, none⟩) 1 1 rfl [encMb m] rfl (fun h => by cases h) rd_one (rowsMb [m]) (by unfold maxLen; simp; omega) (by simp; omega) tZ ?_; intro v2 w4 hown2 hb4; obtain ⟨fc4, fg4, hc4, hf4, hz4⟩ := bget hb4; (try simp at hz4)) | (at_builtin; refine wpList_app rfl _ _ _ rfl elMb wr.heap.size _ _ rfl hown2 (some ⟨b, o + k * 4, none⟩) (l.length - k) (c - k) rfl ((l.drop k).map encMb) (by simp) (fun h => by cases h) (by rw [List.map_drop]; exact rd_dropR (HF.out.keep (by have hbl := Hbl.out; exact tB)) k) (rowsMb _) (by unfold maxLen; simp; omega) (by simp; omega) tZ ?_; intro v3 w5 hown3 hb5) | (at_builtin; refine wpList_app rfl _ _ _ rfl elMb wr.heap.size _ _ rfl hown2 (some ⟨b, o, none⟩) 0 0 rfl [] rfl (fun h => by cases h) (fun i r h => by simp at h) (fun r h => by simp at h) (by unfold maxLen; simp; omega) (by simp; omega) tZ ?_; intro v3 w5 hown3 hb5) | fail)
     go_ret2
     exact ⟨_, by rw [HQ.out]; rfl, by rw [HP.out, HIN.out]; exact (by simpa using hown3.mono tZ), by have hbl := Hbl.out; exact tB⟩
    ·have Hm := hid hm
     go_wp2_with fail
     go_quiet (fail)
     go_wp2_with fail
     go_roundw
     case rel => exact ⟨k + 1, by omega, by go_num, by have hbl := Hbl.out; exact tB, by simpa using hsz, by simp [go_sem, g0, g1, g2, g3], fun j hj h => by
      rcases Nat.lt_or_ge j k with h1 | h1
      ·exact Hno.out j hj h1
      ·obtain rfl : j = k := by omega
       exact Hm.out⟩
     case measure => simp [intOf]; omega
   ·have hw := while_cut (p := fun x : Mb => decide (x.id < m.id)) Hno.out hk (fun h => absurd h hlt)
    have hin : insMb l m = l.take k ++ [m] ++ l.drop k := by unfold insMb; rw [hw.1, hw.2]; simp
    have HIN := hid hin
    clear hw hin
    have hd : decide ((k : Int) < (l.length : Int)) = false := by simp; omega
    by_cases hck : c = k
    ·obtain rfl : k = c := hck.symm
     go_wp2_with fail
     go_quiet (fail)
     go_wp2_with (first | (at_builtin; refine wpList_app rfl _ _ _ rfl elMb wr.heap.size _ [] rfl (Own.nil _ _ _ _) (some ⟨b, o, none⟩) k _ rfl ((l.take k).map encMb) (by simp; omega) (fun h => by cases h) (by rw [List.map_take]; exact rd_take' (HF.out.keep (by have hbl := Hbl.out; exact tB)) k) (rowsMb _) (by unfold maxLen; simp; omega) (by simp; omega) tZ ?_; intro v1 w3 hown1 hb3; obtain ⟨fc3, fg3, hc3, hf3, hz3⟩ := bget hb3; (try simp at hz3)) | (at_builtin; refine wpList_app rfl _ _ _ rfl elMb wr.heap.size _ _ rfl (hown1.alloc _) (some ⟨w3.heap.size, 0, none⟩) 1 1 rfl [encMb m] rfl (fun h => by cases h) rd_one (rowsMb [m]) (by unfold maxLen; simp; omega) (by simp; omega) tZ ?_; intro v2 w4 hown2 hb4; obtain ⟨fc4, fg4, hc4, hf4, hz4⟩ := bget hb4; (try simp at hz4)) | (at_builtin; refine wpList_app rfl _ _ _ rfl elMb wr.heap.size _ _ rfl hown2 (some ⟨b, o + k * 4, none⟩) (l.length - k) (c - k) rfl ((l.drop k).map encMb) (by simp) (fun h => by cases h) (by rw [List.map_drop]; exact rd_dropR (HF.out.keep (by have hbl := Hbl.out; exact tB)) k) (rowsMb _) (by unfold maxLen; simp; omega) (by simp; omega) tZ ?_; intro v3 w5 hown3 hb5) | (at_builtin; refine wpList_app rfl _ _ _ rfl elMb wr.heap.size _ _ rfl hown2 (some ⟨b, o, none⟩) 0 0 rfl [] rfl (fun h => by cases h) (fun i r h => by simp at h) (fun r h => by simp at h) (by unfold maxLen; simp; omega) (by simp; omega) tZ ?_; intro v3 w5 hown3 hb5) | fail)
     go_ret2
     exact ⟨_, by rw [HQ.out]; rfl, by rw [HP.out, HIN.out, List.drop_eq_nil_of_le (show l.length ≤ k from by omega)]; exact (by simpa using hown3.mono tZ), by have hbl := Hbl.out; exact tB⟩
    ·have hck' : ¬ k = c := fun h => hck h.symm
     go_wp2_with fail
     go_quiet (fail)
     go_wp2_with (first | (at_builtin; refine wpList_app rfl _ _ _ rfl elMb wr.heap.size _ [] rfl (Own.nil _ _ _ _) (some ⟨b, o, none⟩) k _ rfl ((l.take k).map encMb) (by simp; omega) (fun h => by cases h) (by rw [List.map_take]; exact rd_take' (HF.out.keep (by have hbl := Hbl.out; exact tB)) k) (rowsMb _) (by unfold maxLen; simp; omega) (by simp; omega) tZ ?_; intro v1 w3 hown1 hb3; obtain ⟨fc3, fg3, hc3, hf3, hz3⟩ := bget hb3; (try simp at hz3)) | (at_builtin; refine wpList_app rfl _ _ _ rfl elMb wr.heap.size _ _ rfl (hown1.alloc _) (some ⟨w3.heap.size, 0, none⟩) 1 1 rfl [encMb m] rfl (fun h => by cases h) rd_one (rowsMb [m]) (by unfold maxLen; simp; omega) (by simp; omega) tZ ?_; intro v2 w4 hown2 hb4; obtain ⟨fc4, fg4, hc4, hf4, hz4⟩ := bget hb4; (try simp at hz4)) | (at_builtin; refine wpList_app rfl _ _ _ rfl elMb wr.heap.size _ _ rfl hown2 (some ⟨b, o + k * 4, none⟩) (l.length - k) (c - k) rfl ((l.drop k).map encMb) (by simp) (fun h => by cases h) (by rw [List.map_drop]; exact rd_dropR (HF.out.keep (by have hbl := Hbl.out; exact tB)) k) (rowsMb _) (by unfold maxLen; simp; omega) (by simp; omega) tZ ?_; intro v3 w5 hown3 hb5) | (at_builtin; refine wpList_app rfl _ _ _ rfl elMb wr.heap.size _ _ rfl hown2 (some ⟨b, o, none⟩) 0 0 rfl [] rfl (fun h => by cases h) (fun i r h => by simp at h) (fun r h => by simp at h) (by unfold maxLen; simp; omega) (by simp; omega) tZ ?_; intro v3 w5 hown3 hb5) | fail)
     go_ret2
     exact ⟨_, by rw [HQ.out]; rfl, by rw [HP.out, HIN.out]; exact (by simpa using hown3.mono tZ), by have hbl := Hbl.out; exact tB⟩
theorem own_formMb {w : World} {base : Nat} {v : Value} {l : List Mb} (h : Own w base 49 4 v (l.map encMb)) : ∃ A c, v = .slice A l.length c ∧ Rs w 4 (l.map encMb) A c ∧ ((A = none ∧ l = [] ∧ c = 0) ∨ ∃ b o, A = some ⟨b, o, none⟩) := by
 obtain ⟨A, c, h1, h2, h3⟩ := h.rs
 rw [List.length_map] at h1
 refine ⟨A, c, h1, h2, ?_⟩
 rcases h3 with ⟨ha, hr, hc⟩ | ⟨g, ha, _⟩
 ·exact .inl ⟨ha, List.map_eq_nil_iff.1 hr, hc⟩
 ·exact .inr ⟨g, 0, ha⟩
theorem ref14Table (okf : Mb → Bool) (l : List Mb) (A : Option Addr) (c : Nat) (w : World) (hl : l.length ≤ maxLen) (hr : Rd w A 4 (l.map encMb))
  (his : ∀ m ∈ l, ∀ W, Below w.heap.size w W → Calls Tryz.prog 49 #[.agg #[.int .i64 m.id, .int .i64 m.cap, .int .i64 m.phase, .int .i64 m.til]] W fun e w' => e = .returned (.bool (okf m)) ∧ Below W.heap.size W w') :
  Calls Tryz.prog 35 #[.slice A l.length c] w fun e w' => ∃ v, e = .returned v ∧ Own w' w.heap.size 49 4 v ((tabMbN okf l 10).map encMb) ∧ Below w.heap.size w w' := by
 have HR := hid hr
 have HIS := hid his
 have hml : (l.length : Int) ≤ 9223372036854775807 := by unfold maxLen at hl; omega
 clear hr hl his
 go_enter Tryz.func35, Tryz.ntmps35
 go_wp2_with fail
 go_loopw [3, 4] (fun v i wr => ∃ k : Nat, k ≤ l.length ∧ k ≤ 10 ∧ i = .int .i64 k ∧ Own wr w.heap.size 49 4 v ((tabMbN okf l k).map encMb) ∧ Below w.heap.size w wr) (fun _ i _ => l.length - (intOf i).toNat)
 case atStart => exact ⟨0, Nat.zero_le _, Nat.zero_le _, rfl, Own.nil _ _ _ _, Below.refl _ _⟩
 case round =>
  obtain ⟨k, hk, hk10, rfl, hown, hbl⟩ := hrel
  have Hbl := hid hbl
  have Hown := hid hown
  have hz := hbl.size
  clear hbl hown
  by_cases hgo : k < l.length ∧ k < 10
  ·obtain ⟨hlt, h10⟩ := hgo
   have kl : (k : Int) < (l.length : Int) := by omega
   have k10 : (k : Int) < 10 := by omega
   have d10 : decide ((k : Int) < 10) = true := by simpa using k10
   obtain ⟨A1, c1, hv1, hms, hfo⟩ := own_formMb Hown.out
   have Hms := hid hms
   have Hfo := hid hfo
   have hlen := tabMbN_len okf l k
   subst hv1
   obtain ⟨b, o, rfl, hb, hc⟩ := HR.out k (encMb l[k]) (by simp [hlt])
   have e0 := tC Hbl hb (hc 0 _ rfl)
   have e1 := tC Hbl hb (hc 1 _ rfl)
   have e2 := tC Hbl hb (hc 2 _ rfl)
   have e3 := tC Hbl hb (hc 3 _ rfl)
   simp only [Nat.add_zero] at e0
   have hs := tabMbN_succ (okf := okf) hlt
   have HS := hid hs
   have hst : stepMb okf (tabMbN okf l k) l[k] = if putMbC (okf l[k]) (tabMbN okf l k) l[k] = 0 then putMbL (okf l[k]) (tabMbN okf l k) l[k] else tabMbN okf l k := rfl
   have HST := hid hst
   have HI := hid (fun W (h : Below wr.heap.size wr W) => HIS.out l[k] (List.getElem_mem hlt) W (Hbl.out.trans (h.mono hz)))
   clear hc hms hs hst hfo
   cases hq : (putMbC (okf l[k]) (tabMbN okf l k) l[k] == 0)
   ·have HQ := hid (show ¬ putMbC (okf l[k]) (tabMbN okf l k) l[k] = 0 from by simpa using hq)
    go_wp2_with (go_at_call 72; (with_reducible refine (ref14Put (okf l[k]) (tabMbN okf l k) l[k] A1 c1 _ (by omega) Hms.out Hfo.out HI.out).mono ?_); rintro e w1 ⟨v1, rfl, hown1, hb1⟩; have Hown1 := hid hown1; have Hb1 := hid hb1; have hz1 := hb1.size; clear hown1 hb1)
    go_roundw
    case rel => exact ⟨k + 1, by omega, by omega, by go_num, by rw [HS.out, HST.out, if_neg HQ.out]; exact Hown.out.keep Hb1.out, Hbl.out.trans (Hb1.out.mono hz)⟩
    case measure => simp [intOf]; omega
   ·have HQ := hid (show putMbC (okf l[k]) (tabMbN okf l k) l[k] = 0 from by simpa using hq)
    go_wp2_with (go_at_call 72; (with_reducible refine (ref14Put (okf l[k]) (tabMbN okf l k) l[k] A1 c1 _ (by omega) Hms.out Hfo.out HI.out).mono ?_); rintro e w1 ⟨v1, rfl, hown1, hb1⟩; have Hown1 := hid hown1; have Hb1 := hid hb1; have hz1 := hb1.size; clear hown1 hb1)
    go_roundw
    case rel => exact ⟨k + 1, by omega, by omega, by go_num, by rw [HS.out, HST.out, if_pos HQ.out]; exact Hown1.out.mono hz, Hbl.out.trans (Hb1.out.mono hz)⟩
    case measure => simp [intOf]; omega
  ·have ht := tabMb_at (okf := okf) (l := l) (k := k) (n := 10) (by omega)
   have HT := hid ht
   clear ht
   by_cases hlt : k < l.length
   ·have d1 := @dT k l.length hlt
    have d2 : decide ((k : Int) < 10) = false := by simp; omega
    go_wp2_with fail
    go_ret
    exact ⟨_, rfl, by rw [← HT.out]; exact Hown.out, Hbl.out⟩
   ·have d1 := @dF k l.length hlt
    go_wp2_with fail
    go_ret
    exact ⟨_, rfl, by rw [← HT.out]; exact Hown.out, Hbl.out⟩
end Go.Proofs.YtalgfpegaobacaaGreatDoor
