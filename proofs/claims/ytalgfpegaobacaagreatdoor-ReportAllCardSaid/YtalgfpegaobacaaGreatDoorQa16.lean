/- Joined. -/
import Derived.Test.YtalgfpegaobacaaGreatDoorQa15
namespace Go.Proofs.YtalgfpegaobacaaGreatDoor
set_option linter.all false
set_option maxHeartbeats 32000000
set_option maxRecDepth 100000
open Go.RowKit
open Lib (hid)
theorem ref15Find (l : List AcctV) (id : Int) (A : Option Addr) (c : Nat) (w : World) (hl : l.length ≤ 1099511627776) (hr : Rd w A 4 (l.map encAcctV)) :
  Calls Tryz.prog 114 #[.slice A l.length c, .int .i64 id] w fun e w' => e = .returned (.tuple #[.agg #[.int .i64 (findAcctV l id).1.id, .int .i64 (findAcctV l id).1.member, .int .i64 (findAcctV l id).1.kind, .slice (findAcctV l id).1.clients.A (findAcctV l id).1.clients.val.length (findAcctV l id).1.clients.c], .bool (findAcctV l id).2]) ∧ Below w.heap.size w w' := by
 have Hr := hid hr
 clear hr
 go_enter Tryz.func114, Tryz.ntmps114
 go_wp2_with fail
 go_loopw [6] (fun i wr => ∃ k : Nat, k ≤ l.length ∧ i = .int .i64 k ∧ Below w.heap.size w wr ∧ (wr.cell? ⟨w.heap.size, 0, none⟩ = some (.int .i64 0) ∧ wr.cell? ⟨w.heap.size, 1, none⟩ = some (.int .i64 0) ∧ wr.cell? ⟨w.heap.size, 2, none⟩ = some (.int .i64 0) ∧ wr.cell? ⟨w.heap.size, 3, none⟩ = some (.slice none 0 0) ∧ wr.frozen? ⟨w.heap.size, 0, none⟩ = false ∧ wr.frozen? ⟨w.heap.size, 1, none⟩ = false ∧ wr.frozen? ⟨w.heap.size, 2, none⟩ = false ∧ wr.frozen? ⟨w.heap.size, 3, none⟩ = false) ∧ ∀ j (_ : j < l.length), j < k → (l[j].id == id) = false) (fun i _ => l.length - (intOf i).toNat)
 case atStart => exact ⟨0, Nat.zero_le _, rfl, tB, by simp [go_sem], fun j _ h => absurd h (by omega)⟩
 case round =>
  obtain ⟨k, hk, rfl, hbl, ⟨g0, g1, g2, g3, f0, f1, f2, f3⟩, hno⟩ := hrel
  have Hbl := hid hbl
  have Hno := hid hno
  have hz := hbl.size
  clear hbl hno
  by_cases hlt : k < l.length
  ·obtain ⟨b, o, rfl, hb, hc⟩ := Hr.out k (encAcctV l[k]) (by simp [hlt])
   have c0 := tC Hbl hb (hc 0 _ rfl)
   have c1 := tC Hbl hb (hc 1 _ rfl)
   have c2 := tC Hbl hb (hc 2 _ rfl)
   have c3 := tC Hbl hb (hc 3 _ rfl)
   simp only [Nat.add_zero] at c0
   clear hc
   cases hm : (l[k].id == id)
   ·have Hm := hid hm
    go_wp2_with fail
    go_roundw
    case rel => exact ⟨k + 1, by omega, by go_num, Hbl.out, ⟨g0, g1, g2, g3, f0, f1, f2, f3⟩, fun j hj h => by
     rcases Nat.lt_or_ge j k with h1 | h1
     ·exact Hno.out j hj h1
     ·obtain rfl : j = k := by omega
      exact Hm.out⟩
    case measure => simp [intOf]; omega
   ·have hi := findAcctV_hit hlt hm Hno.out
    have Hi := hid hi
    clear hi
    go_wp2_with fail
    rw [Hi.out]
    have hbl := Hbl.out
    refine bodyPost_ret (by simp [results, Tryz.results114, go_sem, g0, g1, g2, g3]; try rfl) rfl ⟨rfl, ?_⟩
    exact tB
  ·have hi := findAcctV_miss (l := l) (fun j hj => Hno.out j hj (by omega))
   have Hi := hid hi
   clear hi
   go_wp2_with fail
   rw [Hi.out]
   have hbl := Hbl.out
   refine bodyPost_ret (by simp [results, Tryz.results114, go_sem, g0, g1, g2, g3]; try rfl) rfl ⟨rfl, ?_⟩
   exact tB
theorem ref15Put (ob : Bool) (l : List AcctV) (m : AcctV) (A : Option Addr) (c : Nat) (w : World) (hl : l.length ≤ 1048576) (hr : Rs w 4 (l.map encAcctV) A c) (hform : (A = none ∧ l = [] ∧ c = 0) ∨ ∃ b o, A = some ⟨b, o, none⟩)
  (c1 : ∀ W, Below w.heap.size w W → Calls Tryz.prog 52 #[.agg #[.int .i64 m.id, .int .i64 m.member, .int .i64 m.kind, .slice m.clients.A m.clients.val.length m.clients.c]] W fun e w' => e = .returned (.bool ob) ∧ Below W.heap.size W w') :
  Calls Tryz.prog 75 #[.slice A l.length c, .agg #[.int .i64 m.id, .int .i64 m.member, .int .i64 m.kind, .slice m.clients.A m.clients.val.length m.clients.c]] w (PutAcctVPost ob w l m) := by
 have HR := hid hr
 have HFO := hid hform
 have hlc := hr.cap
 have hcm := hr.room
 rw [List.length_map] at hlc
 have c2 := fun W (h : Rd W A 4 (l.map encAcctV)) => ref15Find l m.id A c W (by omega) h
 cases ob
 ·have hp : putAcctVL false l m = [] := by unfold putAcctVL; rw [if_neg (fun h => by cases h.1)]
  have hq : putAcctVC false l m = 2 := rfl
  have HP := hid hp
  have HQ := hid hq
  have C1 := hid c1
  clear hr c1 c2 hp hq hform hcm hlc
  go_enter Tryz.func75, Tryz.ntmps75
  go_wp2_with (go_at_call 52; (with_reducible refine cM (C1.out _ tB) fun w1 hb1 fc1 fg1 hc1 hf1 hz1 => ?_); try simp at hz1)
  go_ret2
  exact ⟨_, by rw [HQ.out]; rfl, by rw [HP.out]; exact Own.nil _ _ _ _, tB⟩
 cases hf : (findAcctV l m.id).2
 rotate_left
 ·rw [hf] at c2
  have hp : putAcctVL true l m = [] := by unfold putAcctVL; rw [hf, if_neg (by simp)]
  have hq : putAcctVC true l m = 12 := by unfold putAcctVC; rw [hf]; rfl
  have HP := hid hp
  have HQ := hid hq
  have C1 := hid c1
  have C2 := hid c2
  clear hr c1 c2 hp hq hf hform hcm hlc
  go_enter Tryz.func75, Tryz.ntmps75
  go_wp2_with (first | (go_at_call 52; (with_reducible refine cM (C1.out _ tB) fun w1 hb1 fc1 fg1 hc1 hf1 hz1 => ?_); try simp at hz1) | (go_at_call 114; (with_reducible refine cM (C2.out _ (HR.out.rd.keep tB)) fun w2 hb2 fc2 fg2 hc2 hf2 hz2 => ?_); try simp at hz2) | fail)
  go_ret2
  exact ⟨_, by rw [HQ.out]; rfl, by rw [HP.out]; exact Own.nil _ _ _ _, tB⟩
 rw [hf] at c2
 have hp : putAcctVL true l m = insAcctV l m := by unfold putAcctVL; rw [hf, if_pos ⟨rfl, rfl⟩]
 have hq : putAcctVC true l m = 0 := by unfold putAcctVC; rw [hf]; rfl
 have HP := hid hp
 have HQ := hid hq
 have C1 := hid c1
 have C2 := hid c2
 clear hr c1 c2 hp hq hf hform
 rcases HFO.out with ⟨rfl, rfl, rfl⟩ | ⟨b, o, rfl⟩
 ·have c2' := C2.out
  simp only [List.length_nil] at c2'
  have C2' := hid c2'
  clear c2' C2
  go_enter Tryz.func75, Tryz.ntmps75
  go_wp2_with (first | (go_at_call 52; (with_reducible refine cM (C1.out _ tB) fun w1 hb1 fc1 fg1 hc1 hf1 hz1 => ?_); try simp at hz1) | (go_at_call 114; (with_reducible refine cM (C2'.out _ (HR.out.rd.keep tB)) fun w2 hb2 fc2 fg2 hc2 hf2 hz2 => ?_); try simp at hz2) | fail)
  refine wp_loop_rounds 1 ?_
  rw [rounds_succ]
  go_wp2_with fail
  go_quiet (fail)
  go_wp2_with (first | (at_builtin; refine wpList_app rfl _ _ _ rfl elAcctV w2.heap.size _ [] rfl (Own.nil _ _ _ _) none 0 0 rfl [] rfl (fun _ => rfl) (fun i r h => by simp at h) (fun r h => by simp at h) (by unfold maxLen; simp) (by simp) tZ ?_; intro v1 w3 hown1 hb3; obtain ⟨fc3, fg3, hc3, hf3, hz3⟩ := bget hb3; (try simp at hz3)) | (at_builtin; refine wpList_app rfl _ _ _ rfl elAcctV w2.heap.size _ _ rfl (hown1.alloc _) (some ⟨w3.heap.size, 0, none⟩) 1 1 rfl [encAcctV m] rfl (fun h => by cases h) rd_one (rowsAcctV [m]) (by unfold maxLen; simp) (by simp) tZ ?_; intro v2 w4 hown2 hb4; obtain ⟨fc4, fg4, hc4, hf4, hz4⟩ := bget hb4; (try simp at hz4)) | (at_builtin; refine wpList_app rfl _ _ _ rfl elAcctV w2.heap.size _ _ rfl hown2 none 0 0 rfl [] rfl (fun _ => rfl) (fun i r h => by simp at h) (fun r h => by simp at h) (by unfold maxLen; simp) (by simp) tZ ?_; intro v3 w5 hown3 hb5) | fail)
  go_ret2
  exact ⟨_, by rw [HQ.out]; rfl, by rw [HP.out]; exact (by simpa [insAcctV] using hown3.mono tZ), tB⟩
 ·have HF := hid HR.out.rd
  go_enter Tryz.func75, Tryz.ntmps75
  go_wp2_with (first | (go_at_call 52; (with_reducible refine cM (C1.out _ tB) fun w1 hb1 fc1 fg1 hc1 hf1 hz1 => ?_); try simp at hz1) | (go_at_call 114; (with_reducible refine cM (C2.out _ (HR.out.rd.keep tB)) fun w2 hb2 fc2 fg2 hc2 hf2 hz2 => ?_); try simp at hz2) | fail)
  go_loopw [9] (fun i wr => ∃ k : Nat, k ≤ l.length ∧ i = .int .i64 k ∧ Below w.heap.size w wr ∧ w.heap.size < wr.heap.size ∧ (wr.cell? ⟨w.heap.size, 0, none⟩ = some (.int .i64 m.id) ∧ wr.cell? ⟨w.heap.size, 1, none⟩ = some (.int .i64 m.member) ∧ wr.cell? ⟨w.heap.size, 2, none⟩ = some (.int .i64 m.kind) ∧ wr.cell? ⟨w.heap.size, 3, none⟩ = some (.slice m.clients.A m.clients.val.length m.clients.c)) ∧ ∀ j (_ : j < l.length), j < k → decide (l[j].id < m.id) = true) (fun i _ => l.length - (intOf i).toNat)
  case atStart => exact ⟨0, Nat.zero_le _, rfl, tB, tZ, by simp [go_sem, hc1, hc2, ↓IntWalk.iteOmega], fun j _ h => absurd h (by omega)⟩
  case round =>
   obtain ⟨k, hk, rfl, hbl, hsz, ⟨g0, g1, g2, g3⟩, hno⟩ := hrel
   have Hbl := hid hbl
   have Hno := hid hno
   have hz := hbl.size
   clear hbl hno
   have kl : (k : Int) ≤ (l.length : Int) := by omega
   by_cases hlt : k < l.length
   ·obtain ⟨b', o', e, hb, hc⟩ := HF.out k (encAcctV l[k]) (by simp [hlt])
    injection e with e
    injection e with e1 e2 _
    subst e1 e2
    have c0 := tC Hbl hb (hc 0 _ rfl)
    simp only [Nat.add_zero] at c0
    clear hc
    have hck : ¬ c = k := by omega
    have hck' : ¬ k = c := by omega
    have kl' : (k : Int) < (l.length : Int) := by omega
    cases hm : decide (l[k].id < m.id)
    ·have hw := while_cut (p := fun x : AcctV => decide (x.id < m.id)) Hno.out hk (fun _ => hm)
     have hin : insAcctV l m = l.take k ++ [m] ++ l.drop k := by unfold insAcctV; rw [hw.1, hw.2]; simp
     have HIN := hid hin
     clear hw hin
     go_wp2_with fail
     go_quiet (fail)
     go_wp2_with (first | (at_builtin; refine wpList_app rfl _ _ _ rfl elAcctV wr.heap.size _ [] rfl (Own.nil _ _ _ _) (some ⟨b, o, none⟩) k _ rfl ((l.take k).map encAcctV) (by simp; omega) (fun h => by cases h) (by rw [List.map_take]; exact rd_take' (HF.out.keep (by have hbl := Hbl.out; exact tB)) k) (rowsAcctV _) (by unfold maxLen; simp; omega) (by simp; omega) tZ ?_; intro v1 w3 hown1 hb3; obtain ⟨fc3, fg3, hc3, hf3, hz3⟩ := bget hb3; (try simp at hz3)) | (at_builtin; refine wpList_app rfl _ _ _ rfl elAcctV wr.heap.size _ _ rfl (hown1.alloc _) (some ⟨w3.heap.size, 0, none⟩) 1 1 rfl [encAcctV m] rfl (fun h => by cases h) rd_one (rowsAcctV [m]) (by unfold maxLen; simp; omega) (by simp; omega) tZ ?_; intro v2 w4 hown2 hb4; obtain ⟨fc4, fg4, hc4, hf4, hz4⟩ := bget hb4; (try simp at hz4)) | (at_builtin; refine wpList_app rfl _ _ _ rfl elAcctV wr.heap.size _ _ rfl hown2 (some ⟨b, o + k * 4, none⟩) (l.length - k) (c - k) rfl ((l.drop k).map encAcctV) (by simp) (fun h => by cases h) (by rw [List.map_drop]; exact rd_dropR (HF.out.keep (by have hbl := Hbl.out; exact tB)) k) (rowsAcctV _) (by unfold maxLen; simp; omega) (by simp; omega) tZ ?_; intro v3 w5 hown3 hb5) | (at_builtin; refine wpList_app rfl _ _ _ rfl elAcctV wr.heap.size _ _ rfl hown2 (some ⟨b, o, none⟩) 0 0 rfl [] rfl (fun h => by cases h) (fun i r h => by simp at h) (fun r h => by simp at h) (by unfold maxLen; simp; omega) (by simp; omega) tZ ?_; intro v3 w5 hown3 hb5) | fail)
     go_ret2
     exact ⟨_, by rw [HQ.out]; rfl, by rw [HP.out, HIN.out]; exact (by simpa using hown3.mono tZ), by have hbl := Hbl.out; exact tB⟩
    ·have Hm := hid hm
     go_wp2_with fail
     go_quiet (fail)
     go_wp2_with fail
     go_roundw
     case rel => exact ⟨k + 1, by omega, by go_num, by have hbl := Hbl.out; exact tB, by simpa using hsz, by simp [go_sem, g0, g1, g2, g3], fun j hj h => by
      rcases Nat.lt_or_ge j k with h1 | h1
      ·exact Hno.out j hj h1
      ·obtain rfl : j = k := by omega
       exact Hm.out⟩
     case measure => simp [intOf]; omega
   ·have hw := while_cut (p := fun x : AcctV => decide (x.id < m.id)) Hno.out hk (fun h => absurd h hlt)
    have hin : insAcctV l m = l.take k ++ [m] ++ l.drop k := by unfold insAcctV; rw [hw.1, hw.2]; simp
    have HIN := hid hin
    clear hw hin
    have hd : decide ((k : Int) < (l.length : Int)) = false := by simp; omega
    by_cases hck : c = k
    ·obtain rfl : k = c := hck.symm
     go_wp2_with fail
     go_quiet (fail)
     go_wp2_with (first | (at_builtin; refine wpList_app rfl _ _ _ rfl elAcctV wr.heap.size _ [] rfl (Own.nil _ _ _ _) (some ⟨b, o, none⟩) k _ rfl ((l.take k).map encAcctV) (by simp; omega) (fun h => by cases h) (by rw [List.map_take]; exact rd_take' (HF.out.keep (by have hbl := Hbl.out; exact tB)) k) (rowsAcctV _) (by unfold maxLen; simp; omega) (by simp; omega) tZ ?_; intro v1 w3 hown1 hb3; obtain ⟨fc3, fg3, hc3, hf3, hz3⟩ := bget hb3; (try simp at hz3)) | (at_builtin; refine wpList_app rfl _ _ _ rfl elAcctV wr.heap.size _ _ rfl (hown1.alloc _) (some ⟨w3.heap.size, 0, none⟩) 1 1 rfl [encAcctV m] rfl (fun h => by cases h) rd_one (rowsAcctV [m]) (by unfold maxLen; simp; omega) (by simp; omega) tZ ?_; intro v2 w4 hown2 hb4; obtain ⟨fc4, fg4, hc4, hf4, hz4⟩ := bget hb4; (try simp at hz4)) | (at_builtin; refine wpList_app rfl _ _ _ rfl elAcctV wr.heap.size _ _ rfl hown2 (some ⟨b, o + k * 4, none⟩) (l.length - k) (c - k) rfl ((l.drop k).map encAcctV) (by simp) (fun h => by cases h) (by rw [List.map_drop]; exact rd_dropR (HF.out.keep (by have hbl := Hbl.out; exact tB)) k) (rowsAcctV _) (by unfold maxLen; simp; omega) (by simp; omega) tZ ?_; intro v3 w5 hown3 hb5) | (at_builtin; refine wpList_app rfl _ _ _ rfl elAcctV wr.heap.size _ _ rfl hown2 (some ⟨b, o, none⟩) 0 0 rfl [] rfl (fun h => by cases h) (fun i r h => by simp at h) (fun r h => by simp at h) (by unfold maxLen; simp; omega) (by simp; omega) tZ ?_; intro v3 w5 hown3 hb5) | fail)
     go_ret2
     exact ⟨_, by rw [HQ.out]; rfl, by rw [HP.out, HIN.out, List.drop_eq_nil_of_le (show l.length ≤ k from by omega)]; exact (by simpa using hown3.mono tZ), by have hbl := Hbl.out; exact tB⟩
    ·have hck' : ¬ k = c := fun h => hck h.symm
     go_wp2_with fail
     go_quiet (fail)
     go_wp2_with (first | (at_builtin; refine wpList_app rfl _ _ _ rfl elAcctV wr.heap.size _ [] rfl (Own.nil _ _ _ _) (some ⟨b, o, none⟩) k _ rfl ((l.take k).map encAcctV) (by simp; omega) (fun h => by cases h) (by rw [List.map_take]; exact rd_take' (HF.out.keep (by have hbl := Hbl.out; exact tB)) k) (rowsAcctV _) (by unfold maxLen; simp; omega) (by simp; omega) tZ ?_; intro v1 w3 hown1 hb3; obtain ⟨fc3, fg3, hc3, hf3, hz3⟩ := bget hb3; (try simp at hz3)) | (at_builtin; refine wpList_app rfl _ _ _ rfl elAcctV wr.heap.size _ _ rfl (hown1.alloc _) (some ⟨w3.heap.size, 0, none⟩) 1 1 rfl [encAcctV m] rfl (fun h => by cases h) rd_one (rowsAcctV [m]) (by unfold maxLen; simp; omega) (by simp; omega) tZ ?_; intro v2 w4 hown2 hb4; obtain ⟨fc4, fg4, hc4, hf4, hz4⟩ := bget hb4; (try simp at hz4)) | (at_builtin; refine wpList_app rfl _ _ _ rfl elAcctV wr.heap.size _ _ rfl hown2 (some ⟨b, o + k * 4, none⟩) (l.length - k) (c - k) rfl ((l.drop k).map encAcctV) (by simp) (fun h => by cases h) (by rw [List.map_drop]; exact rd_dropR (HF.out.keep (by have hbl := Hbl.out; exact tB)) k) (rowsAcctV _) (by unfold maxLen; simp; omega) (by simp; omega) tZ ?_; intro v3 w5 hown3 hb5) | (at_builtin; refine wpList_app rfl _ _ _ rfl elAcctV wr.heap.size _ _ rfl hown2 (some ⟨b, o, none⟩) 0 0 rfl [] rfl (fun h => by cases h) (fun i r h => by simp at h) (fun r h => by simp at h) (by unfold maxLen; simp; omega) (by simp; omega) tZ ?_; intro v3 w5 hown3 hb5) | fail)
     go_ret2
     exact ⟨_, by rw [HQ.out]; rfl, by rw [HP.out, HIN.out]; exact (by simpa using hown3.mono tZ), by have hbl := Hbl.out; exact tB⟩
theorem own_formAcctV {w : World} {base : Nat} {v : Value} {l : List AcctV} (h : Own w base 54 4 v (l.map encAcctV)) : ∃ A c, v = .slice A l.length c ∧ Rs w 4 (l.map encAcctV) A c ∧ ((A = none ∧ l = [] ∧ c = 0) ∨ ∃ b o, A = some ⟨b, o, none⟩) := by
 obtain ⟨A, c, h1, h2, h3⟩ := h.rs
 rw [List.length_map] at h1
 refine ⟨A, c, h1, h2, ?_⟩
 rcases h3 with ⟨ha, hr, hc⟩ | ⟨g, ha, _⟩
 ·exact .inl ⟨ha, List.map_eq_nil_iff.1 hr, hc⟩
 ·exact .inr ⟨g, 0, ha⟩
theorem ref15Table (okf : AcctV → Bool) (l : List AcctV) (A : Option Addr) (c : Nat) (w : World) (hl : l.length ≤ maxLen) (hr : Rd w A 4 (l.map encAcctV))
  (his : ∀ m ∈ l, ∀ W, Below w.heap.size w W → Calls Tryz.prog 52 #[.agg #[.int .i64 m.id, .int .i64 m.member, .int .i64 m.kind, .slice m.clients.A m.clients.val.length m.clients.c]] W fun e w' => e = .returned (.bool (okf m)) ∧ Below W.heap.size W w') :
  Calls Tryz.prog 38 #[.slice A l.length c] w fun e w' => ∃ v, e = .returned v ∧ Own w' w.heap.size 54 4 v ((tabAcctVN okf l 20).map encAcctV) ∧ Below w.heap.size w w' := by
 have HR := hid hr
 have HIS := hid his
 have hml : (l.length : Int) ≤ 9223372036854775807 := by unfold maxLen at hl; omega
 clear hr hl his
 go_enter Tryz.func38, Tryz.ntmps38
 go_wp2_with fail
 go_loopw [3, 4] (fun v i wr => ∃ k : Nat, k ≤ l.length ∧ k ≤ 20 ∧ i = .int .i64 k ∧ Own wr w.heap.size 54 4 v ((tabAcctVN okf l k).map encAcctV) ∧ Below w.heap.size w wr) (fun _ i _ => l.length - (intOf i).toNat)
 case atStart => exact ⟨0, Nat.zero_le _, Nat.zero_le _, rfl, Own.nil _ _ _ _, Below.refl _ _⟩
 case round =>
  obtain ⟨k, hk, hk10, rfl, hown, hbl⟩ := hrel
  have Hbl := hid hbl
  have Hown := hid hown
  have hz := hbl.size
  clear hbl hown
  by_cases hgo : k < l.length ∧ k < 20
  ·obtain ⟨hlt, h10⟩ := hgo
   have kl : (k : Int) < (l.length : Int) := by omega
   have k10 : (k : Int) < 20 := by omega
   have d10 : decide ((k : Int) < 20) = true := by simpa using k10
   obtain ⟨A1, c1, hv1, hms, hfo⟩ := own_formAcctV Hown.out
   have Hms := hid hms
   have Hfo := hid hfo
   have hlen := tabAcctVN_len okf l k
   subst hv1
   obtain ⟨b, o, rfl, hb, hc⟩ := HR.out k (encAcctV l[k]) (by simp [hlt])
   have e0 := tC Hbl hb (hc 0 _ rfl)
   have e1 := tC Hbl hb (hc 1 _ rfl)
   have e2 := tC Hbl hb (hc 2 _ rfl)
   have e3 := tC Hbl hb (hc 3 _ rfl)
   simp only [Nat.add_zero] at e0
   have hs := tabAcctVN_succ (okf := okf) hlt
   have HS := hid hs
   have hst : stepAcctV okf (tabAcctVN okf l k) l[k] = if putAcctVC (okf l[k]) (tabAcctVN okf l k) l[k] = 0 then putAcctVL (okf l[k]) (tabAcctVN okf l k) l[k] else tabAcctVN okf l k := rfl
   have HST := hid hst
   have HI := hid (fun W (h : Below wr.heap.size wr W) => HIS.out l[k] (List.getElem_mem hlt) W (Hbl.out.trans (h.mono hz)))
   clear hc hms hs hst hfo
   cases hq : (putAcctVC (okf l[k]) (tabAcctVN okf l k) l[k] == 0)
   ·have HQ := hid (show ¬ putAcctVC (okf l[k]) (tabAcctVN okf l k) l[k] = 0 from by simpa using hq)
    go_wp2_with (go_at_call 75; (with_reducible refine (ref15Put (okf l[k]) (tabAcctVN okf l k) l[k] A1 c1 _ (by omega) Hms.out Hfo.out HI.out).mono ?_); rintro e w1 ⟨v1, rfl, hown1, hb1⟩; have Hown1 := hid hown1; have Hb1 := hid hb1; have hz1 := hb1.size; clear hown1 hb1)
    go_roundw
    case rel => exact ⟨k + 1, by omega, by omega, by go_num, by rw [HS.out, HST.out, if_neg HQ.out]; exact Hown.out.keep Hb1.out, Hbl.out.trans (Hb1.out.mono hz)⟩
    case measure => simp [intOf]; omega
   ·have HQ := hid (show putAcctVC (okf l[k]) (tabAcctVN okf l k) l[k] = 0 from by simpa using hq)
    go_wp2_with (go_at_call 75; (with_reducible refine (ref15Put (okf l[k]) (tabAcctVN okf l k) l[k] A1 c1 _ (by omega) Hms.out Hfo.out HI.out).mono ?_); rintro e w1 ⟨v1, rfl, hown1, hb1⟩; have Hown1 := hid hown1; have Hb1 := hid hb1; have hz1 := hb1.size; clear hown1 hb1)
    go_roundw
    case rel => exact ⟨k + 1, by omega, by omega, by go_num, by rw [HS.out, HST.out, if_pos HQ.out]; exact Hown1.out.mono hz, Hbl.out.trans (Hb1.out.mono hz)⟩
    case measure => simp [intOf]; omega
  ·have ht := tabAcctV_at (okf := okf) (l := l) (k := k) (n := 20) (by omega)
   have HT := hid ht
   clear ht
   by_cases hlt : k < l.length
   ·have d1 := @dT k l.length hlt
    have d2 : decide ((k : Int) < 20) = false := by simp; omega
    go_wp2_with fail
    go_ret
    exact ⟨_, rfl, by rw [← HT.out]; exact Hown.out, Hbl.out⟩
   ·have d1 := @dF k l.length hlt
    go_wp2_with fail
    go_ret
    exact ⟨_, rfl, by rw [← HT.out]; exact Hown.out, Hbl.out⟩
theorem Rd.onlyN {w w' : World} {A : Option Addr} {k : Nat} {rows : List (List Value)} {g : Nat} (h : Rd w A k rows) (ho : Only g w w') (hne : rows ≠ [] → ∀ b o, A = some ⟨b, o, none⟩ → b ≠ g) : Rd w' A k rows := by
 cases rows with
 | nil => exact fun i r hr => by simp at hr
 | cons a t =>
  obtain ⟨b, o, hA, _, _⟩ := h 0 a rfl
  exact h.only hA ho (hne (by simp) b o hA)
theorem only_cellN {g : Nat} {w w' : World} (h : Only g w w') {b : Nat} (o : Nat) (hb : b < w.heap.size) (hne : b ≠ g) : w'.cell? ⟨b, o, none⟩ = w.cell? ⟨b, o, none⟩ := World.cell?_of_block (w := w) (h.block b hb hne)
theorem ofH_len {L : List HoldV} {m : Nat} (h : ∀ x ∈ L, x.lots.val.length ≤ m) (u : Un) : (ofK (L.map lgHoldV) u).length ≤ m := by
 rcases ofK_mem (l := L.map lgHoldV) (u := u) with ⟨x, hx, _, e⟩ | ⟨_, e⟩
 ·obtain ⟨y, hy, rfl⟩ := List.mem_map.1 hx
  rw [e]; exact h y hy
 ·rw [e]; simp
theorem ref27Excess (s : SideV) (x : AcctV) (u : Un) (w : World) (hg : GoodS w s) (hok : ∀ a ∈ s.ats.val, okA a) (hlt40 : ∀ h ∈ s.ho.val, h.lots.val.length ≤ 40) (hx : GoodA w x) (hxl : x.clients.val.length ≤ 1000) :
  Calls Tryz.prog 83 #[.agg #[.slice (s).ats.A (s).ats.val.length (s).ats.c, .slice (s).ins.A (s).ins.val.length (s).ins.c, .slice (s).bk.A (s).bk.val.length (s).bk.c, .slice (s).pu.A (s).pu.val.length (s).pu.c, .slice (s).ho.A (s).ho.val.length (s).ho.c], .agg #[.int .i64 x.id, .int .i64 x.member, .int .i64 x.kind, .slice x.clients.A x.clients.val.length x.clients.c], .agg #[.int .i64 u.acc, .int .i64 u.cli]] w fun e w' => e = .returned (.tuple #[.int .i64 (excN (sideL s) (lgA x) u), .int .i64 (excC (sideL s) (lgA x) u)]) ∧ Below w.heap.size w w' := by
 have HG := hid hg
 have hpl := partsN_len (lgA x) u
 rw [show (lgA x).clients.length = x.clients.val.length from rfl] at hpl
 have cb := fun W (h : Below w.heap.size w W) => refPosVIs s.bk.val s.bk.A s.bk.c W (by have := hg.lb; omega) (hg.rb.keep h) (fun y hy => (hg.gb y hy).keep h)
 have cp := fun W (h : Below w.heap.size w W) => ref17Is s.pu.val s.pu.A s.pu.c W (by have := hg.lp; omega) (hg.rp.rd.keep h)
 have ch := fun W (h : Below w.heap.size w W) => refHoldVIs s.ho.val s.ho.A s.ho.c W (by have := hg.lh; omega) (hg.rh.rd.keep h) (fun y hy => (hg.gh y hy).keep h)
 rw [show isPosV s.bk.val = isK isV (s.bk.val.map lgPosV) from rfl] at cb
 rw [show isHoldV s.ho.val = isK isL (s.ho.val.map lgHoldV) from rfl] at ch
 have cn := fun W (h : Below w.heap.size w W) => ref25Of s.ins.val s.bk.val x u s.ins.A s.bk.A s.ins.c s.bk.c W (by have := hg.li; omega) (by have := hg.lb; omega) (by omega) hg.b64 (hg.ri.keep h) (fun y hy => ⟨(hg.gi y hy).1, (hg.gi y hy).2.keep h⟩) (hg.rb.keep h) (fun y hy => (hg.gb y hy).keep h) (hx.keep h)
 have CPA := hid (fun W (h : Below w.heap.size w W) => ref25Parts x u W (by omega) (hx.keep h))
 have CHLv := hid (fun v W (h : Below w.heap.size w W) => refHoldVOf s.ho.val v s.ho.A s.ho.c W (by have := hg.lh; omega) (hg.rh.rd.keep h) (fun y hy => (hg.gh y hy).keep h))
 have CPGv := hid (fun v W (h : Below w.heap.size w W) => ref17Get s.pu.val v s.pu.A s.pu.c W (by have := hg.lp; omega) (hg.rp.rd.keep h))
 have CVVv := hid (fun v A1 c1 W (h : Below w.heap.size w W) (h2 : Rd W A1 3 ((ofK (s.ho.val.map lgHoldV) v).map encLot)) => ref27Sum true s.ats.val (ofK (s.ho.val.map lgHoldV) v) (getPu s.pu.val v) s.ats.A A1 s.ats.c c1 W (by have := hg.la; omega) hok (ofH_len hlt40 v) (getPu_in hg.p64 v) (hg.hq.of v).2 (hg.ra.keep h) h2)
 have HC := hid (show excC (sideL s) (lgA x) u = if rightS (sideL s) then (if nofC s.ins.val (s.bk.val.map lgPosV) (lgA x) u = 0 then (if firstC (partC (sideL s)) (partsN (lgA x) u) = 0 then sum64C (excL (sideL s) (lgA x) u) else firstC (partC (sideL s)) (partsN (lgA x) u)) else nofC s.ins.val (s.bk.val.map lgPosV) (lgA x) u) else 3 from rfl)
 have HN := hid (show excN (sideL s) (lgA x) u = if rightS (sideL s) then (if nofC s.ins.val (s.bk.val.map lgPosV) (lgA x) u = 0 then (if firstC (partC (sideL s)) (partsN (lgA x) u) = 0 then sum64N (excL (sideL s) (lgA x) u) else 0) else 0) else 0 from rfl)
 have HEL := hid (show (excL (sideL s) (lgA x) u).sum = -(nofN s.ins.val (s.bk.val.map lgPosV) (lgA x) u) + ((partsN (lgA x) u).map (partN (sideL s))).sum from List.sum_cons ..)
 have HRS := hid (show rightS (sideL s) = (isK isV (s.bk.val.map lgPosV) && (isPu s.pu.val && isK isL (s.ho.val.map lgHoldV))) from rfl)
 obtain ⟨hnp, hn64⟩ := nofN_pos s.ins.val (s.bk.val.map lgPosV) (lgA x) u
 have HPC := hid (fun v => (show partC (sideL s) v = rsCv true s.ats.val (ofK (s.ho.val.map lgHoldV) v) (getPu s.pu.val v) from (val_ref hok _ _).1))
 have HPN := hid (fun v => (show partN (sideL s) v = rsNv true s.ats.val (ofK (s.ho.val.map lgHoldV) v) (getPu s.pu.val v) from (val_ref hok _ _).2))
 have HP64 := hid (fun v => (show In64 (partN (sideL s) v) from by
  unfold partN valN
  split
  ·exact sum64_in _
  ·unfold In64; omega))
 generalize excC (sideL s) (lgA x) u = RC at *
 generalize excN (sideL s) (lgA x) u = RN at *
 generalize excL (sideL s) (lgA x) u = EL at *
 generalize nofC s.ins.val (s.bk.val.map lgPosV) (lgA x) u = nc at *
 generalize nofN s.ins.val (s.bk.val.map lgPosV) (lgA x) u = nn at *
 generalize partsN (lgA x) u = ps at *
 generalize partC (sideL s) = fC at *
 generalize partN (sideL s) = fN at *
 clear hg hx
 cases h1 : isK isV (s.bk.val.map lgPosV)
 ·rw [h1] at cb
  have CB := hid cb
  have hr : rightS (sideL s) = false := by rw [HRS.out, h1]; rfl
  have HC2 := hid (show RC = 3 from by rw [HC.out, hr]; rfl)
  have HN2 := hid (show RN = 0 from by rw [HN.out, hr]; rfl)
  clear cb cp ch cn hr h1
  go_enter Tryz.func83, Tryz.ntmps83
  go_wp2_with (first | (go_at_call 56; (with_reducible refine cM (CB.out _ tB) fun w1 hb1 fc1 fg1 hc1 hf1 hz1 => ?_); (try simp at hz1)) | fail)
  go_ret2
  exact ⟨by rw [HC2.out, HN2.out]; rfl, tB⟩
 rw [h1] at cb
 have CB := hid cb
 cases h2 : isPu s.pu.val
 ·rw [h2] at cp
  have CP := hid cp
  have hr : rightS (sideL s) = false := by rw [HRS.out, h1, h2]; rfl
  have HC2 := hid (show RC = 3 from by rw [HC.out, hr]; rfl)
  have HN2 := hid (show RN = 0 from by rw [HN.out, hr]; rfl)
  clear cb cp ch cn hr h1 h2
  go_enter Tryz.func83, Tryz.ntmps83
  go_wp2_with (first | (go_at_call 56; (with_reducible refine cM (CB.out _ tB) fun w1 hb1 fc1 fg1 hc1 hf1 hz1 => ?_); (try simp at hz1)) | (go_at_call 23; (with_reducible refine cM (CP.out _ tB) fun w2 hb2 fc2 fg2 hc2 hf2 hz2 => ?_); (try simp at hz2)) | fail)
  go_ret2
  exact ⟨by rw [HC2.out, HN2.out]; rfl, tB⟩
 rw [h2] at cp
 have CP := hid cp
 cases h3 : isK isL (s.ho.val.map lgHoldV)
 ·rw [h3] at ch
  have CH := hid ch
  have hr : rightS (sideL s) = false := by rw [HRS.out, h1, h2, h3]; rfl
  have HC2 := hid (show RC = 3 from by rw [HC.out, hr]; rfl)
  have HN2 := hid (show RN = 0 from by rw [HN.out, hr]; rfl)
  clear cb cp ch cn hr h1 h2 h3
  go_enter Tryz.func83, Tryz.ntmps83
  go_wp2_with (first | (go_at_call 56; (with_reducible refine cM (CB.out _ tB) fun w1 hb1 fc1 fg1 hc1 hf1 hz1 => ?_); (try simp at hz1)) | (go_at_call 23; (with_reducible refine cM (CP.out _ tB) fun w2 hb2 fc2 fg2 hc2 hf2 hz2 => ?_); (try simp at hz2)) | (go_at_call 24; (with_reducible refine cM (CH.out _ tB) fun w3 hb3 fc3 fg3 hc3 hf3 hz3 => ?_); (try simp at hz3)) | fail)
  go_ret2
  exact ⟨by rw [HC2.out, HN2.out]; rfl, tB⟩
 rw [h3] at ch
 have CH := hid ch
 have hr : rightS (sideL s) = true := by rw [HRS.out, h1, h2, h3]; rfl
 by_cases h0 : nc = 0
 rotate_left
 ·have HC2 := hid (show RC = nc from by rw [HC.out, hr, if_pos rfl, if_neg h0])
  have HN2 := hid (show RN = 0 from by rw [HN.out, hr, if_pos rfl, if_neg h0])
  have d0 : (nc != 0) = true := by simpa using h0
  have d1 : (nc == 0) = false := by simpa using h0
  have CN := hid cn
  clear cb cp ch cn hr h0 h1 h2 h3
  go_enter Tryz.func83, Tryz.ntmps83
  go_wp2_with (first | (go_at_call 56; (with_reducible refine cM (CB.out _ tB) fun w1 hb1 fc1 fg1 hc1 hf1 hz1 => ?_); (try simp at hz1)) | (go_at_call 23; (with_reducible refine cM (CP.out _ tB) fun w2 hb2 fc2 fg2 hc2 hf2 hz2 => ?_); (try simp at hz2)) | (go_at_call 24; (with_reducible refine cM (CH.out _ tB) fun w3 hb3 fc3 fg3 hc3 hf3 hz3 => ?_); (try simp at hz3)) | (go_at_call 82; (with_reducible refine cM (CN.out _ tB) fun w4 hb4 fc4 fg4 hc4 hf4 hz4 => ?_); (try simp at hz4)) | fail)
  go_ret2
  exact ⟨by rw [HC2.out, HN2.out]; rfl, tB⟩
 have HC2 := hid (show RC = if firstC fC ps = 0 then sum64C EL else firstC fC ps from by rw [HC.out, hr, if_pos rfl, if_pos h0])
 have HN2 := hid (show RN = if firstC fC ps = 0 then sum64N EL else 0 from by rw [HN.out, hr, if_pos rfl, if_pos h0])
 rw [h0] at cn
 have CN := hid cn
 clear cb cp ch cn hr h0 h1 h2 h3 HC HN
 go_enter Tryz.func83, Tryz.ntmps83
 go_wp2_with (first | (go_at_call 56; (with_reducible refine cM (CB.out _ tB) fun w1 hb1 fc1 fg1 hc1 hf1 hz1 => ?_); (try simp at hz1)) | (go_at_call 23; (with_reducible refine cM (CP.out _ tB) fun w2 hb2 fc2 fg2 hc2 hf2 hz2 => ?_); (try simp at hz2)) | (go_at_call 24; (with_reducible refine cM (CH.out _ tB) fun w3 hb3 fc3 fg3 hc3 hf3 hz3 => ?_); (try simp at hz3)) | (go_at_call 82; (with_reducible refine cM (CN.out _ tB) fun w4 hb4 fc4 fg4 hc4 hf4 hz4 => ?_); (try simp at hz4)) | (go_at_call 80; (with_reducible refine (bigOf nn _ hn64).mono ?_); rintro e w5 ⟨s5, A5, l5, c5, rfl, hB5, hl5, hb5⟩; have HB5 := hid hB5; clear hB5; obtain ⟨fc5, fg5, hc5, hf5, hz5⟩ := bget hb5; (try simp at hz5)) | (go_at_call 128; (with_reducible refine (bigNeg nn s5 l5 A5 c5 65 _ (by omega) hl5 (HB5.out.keep tB)).mono ?_); rintro e w6 ⟨s6, A6, l6, c6, rfl, hB6, hl6, hb6⟩; have HB6 := hid hB6; clear hB6; obtain ⟨fc6, fg6, hc6, hf6, hz6⟩ := bget hb6; (try simp at hz6)) | (go_at_call 126; (with_reducible refine (CPA.out _ tB).mono ?_); rintro e w7 ⟨A7, c7, rfl, hrs7, hb7⟩; have HS7 := hid hrs7.rd; clear hrs7; obtain ⟨fc7, fg7, hc7, hf7, hz7⟩ := bget hb7; (try simp at hz7)) | fail)
 have b0 : w7.cell? ⟨w.heap.size, 0, none⟩ = some (.slice s.ats.A s.ats.val.length s.ats.c) := by simp [hc7, hc6, hc5, hc4, hc3, hc2, hc1, go_sem, ↓IntWalk.iteOmega]
 have b3 : w7.cell? ⟨w.heap.size, 3, none⟩ = some (.slice s.pu.A s.pu.val.length s.pu.c) := by simp [hc7, hc6, hc5, hc4, hc3, hc2, hc1, go_sem, ↓IntWalk.iteOmega]
 have b4 : w7.cell? ⟨w.heap.size, 4, none⟩ = some (.slice s.ho.A s.ho.val.length s.ho.c) := by simp [hc7, hc6, hc5, hc4, hc3, hc2, hc1, go_sem, ↓IntWalk.iteOmega]
 have HB := hid (And.intro b0 (And.intro b3 b4))
 have hbk : Blk w7 w6.heap.size 141 #[.bool s6, .slice A6 l6.length c6] := by exact tL
 have HBK7 := hid hbk
 have HB67 := hid (show IsBig w7 (-nn) s6 A6 l6 c6 from HB6.out.keep tB)
 have HA7 := hid (show ps.map encUn ≠ [] → ∀ b o, A7 = some ⟨b, o, none⟩ → b ≠ w6.heap.size from fun hne b o hA e => by
  obtain ⟨p, t, rfl⟩ := List.exists_cons_of_ne_nil (show ps ≠ [] from fun e => hne (by rw [e]; rfl))
  obtain ⟨b', o', hA', _, hc⟩ := HS7.out 0 (encUn p) rfl
  rw [hA] at hA'
  injection hA' with hA'
  injection hA' with e1 e2 _
  subst e1 e2
  have h0 := hc 0 _ rfl
  have h1 := hc 1 _ rfl
  rw [e, hbk.cell] at h0 h1
  match o with
  | 0 => simp at h0
  | 1 => simp at h0
  | o + 2 => simp at h0)
 have Hw7 := hid (show Below w.heap.size w w7 by exact tB)
 have hw76 : w6.heap.size < w7.heap.size := by omega
 have hww : w.heap.size + 2 < w6.heap.size := by omega
 clear b0 b3 b4 hbk hc1 hf1 hb1 hc2 hf2 hb2 hc3 hf3 hb3 hc4 hf4 hb4 hc5 hf5 hb5 hc6 hf6 hb6 hc7 hf7 hb7
 generalize hgwe : w6.heap.size = gw at *
 clear hgwe
 go_loopw [12] (fun i wr => ∃ (k : Nat) (s5 : Bool) (A5 : Option Addr) (l5 : List Int) (c5 : Nat), k ≤ ps.length ∧ i = .int .i64 k ∧ firstC fC ps = firstC fC (ps.drop k) ∧ IsBig wr (-nn + ((ps.take k).map fN).sum) s5 A5 l5 c5 ∧ l5.length ≤ 400 + k ∧ Blk wr gw 141 #[.bool s5, .slice A5 l5.length c5] ∧ Only gw w7 wr) (fun i _ => ps.length - (intOf i).toNat)
 case atStart => exact ⟨0, s6, A6, l6, c6, Nat.zero_le _, rfl, rfl, by simpa using HB67.out, by omega, HBK7.out, Only.refl _ _⟩
 case round =>
  obtain ⟨k, s5, A5, l5, c5, hk, rfl, hv, hB5, hl5, hbk, ho7⟩ := hrel
  have HV := hid hv
  have HB5 := hid hB5
  have Hbk := hid hbk
  have HO7 := hid ho7
  have hz := ho7.size
  have HWR := hid (below_only Hw7.out ho7 (by omega) (by omega))
  have d0 := hbk.cell 0
  have d1 := hbk.cell 1
  have z0 := hbk.frozen 0
  have z1 := hbk.frozen 1
  have ug := hbk.lt
  simp [go_sem] at d0 d1
  have b0 := (only_cellN ho7 0 (by omega) (by omega)).trans HB.out.1
  have b3 := (only_cellN ho7 3 (by omega) (by omega)).trans HB.out.2.1
  have b4 := (only_cellN ho7 4 (by omega) (by omega)).trans HB.out.2.2
  have hrd := HS7.out.onlyN ho7 HA7.out
  clear hv hB5 hbk ho7
  by_cases hlt : k < ps.length
  ·have dl := @dT k ps.length hlt
   have kl : (k : Int) < (ps.length : Int) := by omega
   obtain ⟨b, o, rfl, hb, hc⟩ := hrd k (encUn ps[k]) (by simp [hlt])
   have e0 := hc 0 _ rfl
   have e1 := hc 1 _ rfl
   simp only [Nat.add_zero] at e0
   clear hc hrd
   have HD := hid (drop_cons' hlt)
   have HM := hid (show (-nn + ((ps.take (k + 1)).map fN).sum) = -nn + ((ps.take k).map fN).sum + fN ps[k] from by rw [map_snoc hlt, List.sum_append]; simp; omega)
   have hpc := HPC.out ps[k]
   have hpn := HPN.out ps[k]
   have hm64 := HP64.out ps[k]
   have CHL := hid (CHLv.out ps[k])
   have CPG := hid (CPGv.out ps[k])
   have cvv := CVVv.out ps[k]
   rw [← hpc, ← hpn] at cvv
   clear hpc hpn
   generalize getPu s.pu.val ps[k] = pc at *
   generalize ofK (s.ho.val.map lgHoldV) ps[k] = O at *
   generalize -nn + ((ps.take k).map fN).sum = sm at *
   by_cases hz0 : fC ps[k] = 0
   ·have HV2 := hid (show firstC fC ps = firstC fC (ps.drop (k + 1)) from by rw [HV.out, HD.out, firstC_step hz0])
    rw [hz0] at cvv
    have CVV := hid cvv
    clear cvv hz0
    generalize fN ps[k] = n at *
    generalize ps[k] = v at *
    go_wp2_with fail
    go_region_held3 (fun w' => (w'.cell? ⟨w.heap.size, 0, none⟩ = some (.slice s.ats.A s.ats.val.length s.ats.c) ∧ w'.cell? ⟨w.heap.size, 3, none⟩ = some (.slice s.pu.A s.pu.val.length s.pu.c) ∧ w'.cell? ⟨w.heap.size, 4, none⟩ = some (.slice s.ho.A s.ho.val.length s.ho.c)) ∧ w'.cell? ⟨b, o + k * 2, none⟩ = some (.int .i64 v.acc) ∧ w'.cell? ⟨b, o + k * 2 + 1, none⟩ = some (.int .i64 v.cli)) (exact tK) (first | (go_at_call 88; (with_reducible refine (CHL.out _ (by have h := HWR.out; exact tB)).mono ?_); rintro e w8 ⟨A8, c8, rfl, hrs8, hb8⟩; have HS8 := hid hrs8.rd; clear hrs8; obtain ⟨fc8, fg8, hc8, hf8, hz8⟩ := bget hb8; (try simp at hz8)) | (go_at_call 85; (with_reducible refine cM (CPG.out _ (by have h := HWR.out; exact tB)) fun w9 hb9 fc9 fg9 hc9 hf9 hz9 => ?_); (try simp at hz9)) | (go_at_call 129; (with_reducible refine cM (CVV.out _ _ _ (by have h := HWR.out; exact tB) (HS8.out.keep tB)) fun w10 hb10 fc10 fg10 hc10 hf10 hz10 => ?_); (try simp at hz10)) | fail)
    all_goals
     go_wp2_with fail
     have H10 := hid (show Below wr.heap.size wr w10 by exact tB)
     have y0 : w10.cell? ⟨gw, 0, none⟩ = some (.bool s5) := (H10.out.cell (p := ⟨gw, 0, none⟩) ug).trans d0
     have y1 : w10.cell? ⟨gw, 1, none⟩ = some (.slice A5 l5.length c5) := (H10.out.cell (p := ⟨gw, 1, none⟩) ug).trans d1
     have x0 : w10.frozen? ⟨gw, 0, none⟩ = false := (H10.out.frozen (p := ⟨gw, 0, none⟩) ug).trans z0
     have x1 : w10.frozen? ⟨gw, 1, none⟩ = false := (H10.out.frozen (p := ⟨gw, 1, none⟩) ug).trans z1
     have hz10 := H10.out.size
     clear hc8 hf8 hc9 hf9 hc10 hf10 hb8 hb9 hb10
     refine wp_region_held_drew (S := (fun w' => True)) (by kernel_rfl) ?_ (fun hHeld => ?_)
     ·trivial
     refine tQ 1 ?_
     refine tS ?_
     refine wpAnyH_ready (rs := [0, 2]) (by kernel_rfl) (by simp) ?_
     refine AllReadyH.cons rfl (fun K hK => ?_) (AllReadyH.cons rfl (fun K hK => ?_) AllReadyH.nil)
     ·(try simp only [List.getElem_toArray, List.getElem_cons_zero])
      go_simp
      (try go_wp2_with fail)
      refine hK.out _ _ ?_ (fun hHeld => ?_)
      focus ((exact tK); done)
      refine tS ?_
      refine tR (.cons (i := 2) rfl (fun K hK => ?_) .nil)
      refine tG ?_
      go_simp
      (go_at_call 80; (with_reducible refine (bigOf n _ hm64).mono ?_); rintro e w11 ⟨s11, A11, l11, c11, rfl, hB11, hl11, hb11⟩; have HB11 := hid hB11; clear hB11; obtain ⟨fc11, fg11, hc11, hf11, hz11⟩ := bget hb11; (try simp at hz11))
      refine hK.out _ _ ?_ (fun hHeld => ?_)
      focus ((exact tK); done)
      refine tS ?_
      refine tR (.cons (i := 3) rfl (fun K hK => ?_) .nil)
      refine tG ?_
      go_simp
      (go_at_call 118; (with_reducible refine (bigAdd sm n s5 s11 l5 l11 A5 A11 c5 c11 (400 + k) _ (by omega) hl5 (by omega) (HB5.out.keep (by have h10 := H10.out; exact tB)) (HB11.out.keep tB)).mono ?_); rintro e w12 ⟨s12, A12, l12, c12, rfl, hB12, hl12, hb12⟩; have HB12 := hid hB12; clear hB12; obtain ⟨fc12, fg12, hc12, hf12, hz12⟩ := bget hb12; (try simp at hz12))
      refine hK.out _ _ ?_ (fun hHeld => ?_)
      focus ((exact tK); done)
      refine tS ?_
      refine tR (.cons (i := 4) rfl (fun K hK => ?_) .nil)
      refine tG ?_
      go_simp
      go_wp2_with fail
      refine hK.out _ _ ?_ (fun hHeld => ?_)
      focus ((exact tK); done)
      refine tS ?_
      refine wpAnyH_done (by kernel_rfl) ?_ _
      go_wp2_with fail
      go_roundw
      case rel =>
       have h10 := H10.out
       have h12 : Below wr.heap.size wr w12 := by exact tB
       have hk12 := Hbk.out.below h12 ug
       have t0 := hk12.cell 0
       have t1 := hk12.cell 1
       simp at t0 t1
       refine ⟨k + 1, s12, A12, l12, c12, by omega, by go_num, HV2.out, ?_, by omega, ?_, ?_⟩
       ·rw [HM.out]
        exact (HB12.out.far t0 (by simp) _).far ((World.cell?_setCell_other _ _ _ _ (by simp)).trans t1) (by simp) _
       ·have h5 := (hk12.set 0 (.bool s12)).set 1 (.slice A12 l12.length c12)
        simpa using h5
       ·exact ((HO7.out.via h12).set (.inl rfl) _).set (.inl rfl) _
      case measure => (simp [intOf]; omega)
     ·refine tG ?_
      go_simp
      (go_at_call 80; (with_reducible refine (bigOf n _ hm64).mono ?_); rintro e w11 ⟨s11, A11, l11, c11, rfl, hB11, hl11, hb11⟩; have HB11 := hid hB11; clear hB11; obtain ⟨fc11, fg11, hc11, hf11, hz11⟩ := bget hb11; (try simp at hz11))
      refine hK.out _ _ ?_ (fun hHeld => ?_)
      focus ((exact tK); done)
      refine tS ?_
      refine tR (.cons (i := 0) rfl (fun K hK => ?_) .nil)
      (try simp only [List.getElem_toArray, List.getElem_cons_zero])
      go_simp
      (try go_wp2_with fail)
      refine hK.out _ _ ?_ (fun hHeld => ?_)
      focus ((exact tK); done)
      refine tS ?_
      refine tR (.cons (i := 3) rfl (fun K hK => ?_) .nil)
      refine tG ?_
      go_simp
      (go_at_call 118; (with_reducible refine (bigAdd sm n s5 s11 l5 l11 A5 A11 c5 c11 (400 + k) _ (by omega) hl5 (by omega) (HB5.out.keep (by have h10 := H10.out; exact tB)) (HB11.out.keep tB)).mono ?_); rintro e w12 ⟨s12, A12, l12, c12, rfl, hB12, hl12, hb12⟩; have HB12 := hid hB12; clear hB12; obtain ⟨fc12, fg12, hc12, hf12, hz12⟩ := bget hb12; (try simp at hz12))
      refine hK.out _ _ ?_ (fun hHeld => ?_)
      focus ((exact tK); done)
      refine tS ?_
      refine tR (.cons (i := 4) rfl (fun K hK => ?_) .nil)
      refine tG ?_
      go_simp
      go_wp2_with fail
      refine hK.out _ _ ?_ (fun hHeld => ?_)
      focus ((exact tK); done)
      refine tS ?_
      refine wpAnyH_done (by kernel_rfl) ?_ _
      go_wp2_with fail
      go_roundw
      case rel =>
       have h10 := H10.out
       have h12 : Below wr.heap.size wr w12 := by exact tB
       have hk12 := Hbk.out.below h12 ug
       have t0 := hk12.cell 0
       have t1 := hk12.cell 1
       simp at t0 t1
       refine ⟨k + 1, s12, A12, l12, c12, by omega, by go_num, HV2.out, ?_, by omega, ?_, ?_⟩
       ·rw [HM.out]
        exact (HB12.out.far t0 (by simp) _).far ((World.cell?_setCell_other _ _ _ _ (by simp)).trans t1) (by simp) _
       ·have h5 := (hk12.set 0 (.bool s12)).set 1 (.slice A12 l12.length c12)
        simpa using h5
       ·exact ((HO7.out.via h12).set (.inl rfl) _).set (.inl rfl) _
      case measure => (simp [intOf]; omega)
   ·have n0 : (fC ps[k] != 0) = true := by simpa using hz0
    have HV2 := hid (show firstC fC ps = fC ps[k] from by rw [HV.out, HD.out, firstC_stop hz0])
    have HNZ := hid hz0
    have CVV := hid cvv
    clear cvv hz0
    generalize hcd : fC ps[k] = code at *
    generalize fN ps[k] = n at *
    generalize ps[k] = v at *
    clear hcd
    go_wp2_with fail
    go_region_held3 (fun w' => (w'.cell? ⟨w.heap.size, 0, none⟩ = some (.slice s.ats.A s.ats.val.length s.ats.c) ∧ w'.cell? ⟨w.heap.size, 3, none⟩ = some (.slice s.pu.A s.pu.val.length s.pu.c) ∧ w'.cell? ⟨w.heap.size, 4, none⟩ = some (.slice s.ho.A s.ho.val.length s.ho.c)) ∧ w'.cell? ⟨b, o + k * 2, none⟩ = some (.int .i64 v.acc) ∧ w'.cell? ⟨b, o + k * 2 + 1, none⟩ = some (.int .i64 v.cli)) (exact tK) (first | (go_at_call 88; (with_reducible refine (CHL.out _ (by have h := HWR.out; exact tB)).mono ?_); rintro e w8 ⟨A8, c8, rfl, hrs8, hb8⟩; have HS8 := hid hrs8.rd; clear hrs8; obtain ⟨fc8, fg8, hc8, hf8, hz8⟩ := bget hb8; (try simp at hz8)) | (go_at_call 85; (with_reducible refine cM (CPG.out _ (by have h := HWR.out; exact tB)) fun w9 hb9 fc9 fg9 hc9 hf9 hz9 => ?_); (try simp at hz9)) | (go_at_call 129; (with_reducible refine cM (CVV.out _ _ _ (by have h := HWR.out; exact tB) (HS8.out.keep tB)) fun w10 hb10 fc10 fg10 hc10 hf10 hz10 => ?_); (try simp at hz10)) | fail)
    all_goals
     go_wp2_with fail
     go_ret2
     exact ⟨by rw [HC2.out, HN2.out, HV2.out, if_neg HNZ.out, if_neg HNZ.out]; rfl, by have h1 := HWR.out; exact tB⟩
  ·have dl := @dF k ps.length hlt
   have hfz : firstC fC ps = 0 := by rw [HV.out, drop_all (by omega)]; rfl
   have hB := HB5.out
   rw [show ps.take k = ps from List.take_of_length_le (by omega), ← HEL.out] at hB
   have HB2 := hid hB
   have HC3 := hid (show RC = if in64 EL.sum then 0 else 7 from by rw [HC2.out, hfz, if_pos rfl]; rfl)
   have HN3 := hid (show RN = if in64 EL.sum then EL.sum else 0 from by rw [HN2.out, hfz, if_pos rfl]; rfl)
   generalize EL.sum = Z at *
   clear hfz hB HC2 HN2
   cases hm : in64 Z
   ·have HM := hid hm
    clear hm
    go_wp2_with (go_at_call 119; (with_reducible refine (bigFits _ s5 l5 A5 c5 (400 + k) _ (by omega) hl5 HB2.out).mono ?_); rw [HM.out]; rintro e w11 ⟨rfl, hb11⟩; obtain ⟨fc11, fg11, hc11, hf11, hz11⟩ := bget hb11; (try simp at hz11))
    go_ret2
    exact ⟨by rw [HC3.out, HN3.out, HM.out]; rfl, by have h1 := HWR.out; exact tB⟩
   ·have HM := hid hm
    have HI := hid (in64_iff.1 hm)
    clear hm
    go_wp2_with (first | (go_at_call 119; (with_reducible refine (bigFits _ s5 l5 A5 c5 (400 + k) _ (by omega) hl5 HB2.out).mono ?_); rw [HM.out]; rintro e w11 ⟨rfl, hb11⟩; obtain ⟨fc11, fg11, hc11, hf11, hz11⟩ := bget hb11; (try simp at hz11)) | (go_at_call 120; (with_reducible refine cM (bigInt _ s5 l5 A5 c5 _ (by omega) HI.out (HB2.out.keep tB)) fun w12 hb12 fc12 fg12 hc12 hf12 hz12 => ?_); (try simp at hz12)))
    go_ret2
    exact ⟨by rw [HC3.out, HN3.out, HM.out]; rfl, by have h1 := HWR.out; exact tB⟩
end Go.Proofs.YtalgfpegaobacaaGreatDoor
