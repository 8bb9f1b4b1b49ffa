/- Joined. -/
import Derived.Test.YtalgfpegaobacaaGreatDoorQa6
namespace Go.Proofs.YtalgfpegaobacaaGreatDoor
set_option linter.all false
set_option maxHeartbeats 1000000
set_option maxRecDepth 100000
open Go.RowKit
open Lib (hid)
theorem left_start (m : Nat) : [] ++ left [] 40 m = dgs 40 m := by simp [left]
theorem left_step {o : List Int} {f m : Nat} (hf : f + o.length = 40) (hm : m < 10 ^ f) (hgo : o = [] ∨ m ≠ 0) :
  ∃ g, f = g + 1 ∧ o ++ left o f m = (o ++ [((48 + m % 10 : Nat) : Int)]) ++ left (o ++ [((48 + m % 10 : Nat) : Int)]) g (m / 10) ∧ m / 10 < 10 ^ g := by
 cases f with
 | zero =>
  exfalso
  rcases hgo with h | h
  ·subst h; simp at hf
  ·simp at hm; omega
 | succ g =>
  refine ⟨g, rfl, ?_, ?_⟩
  ·unfold left
   rw [if_pos hgo]
   simp only [dgs, List.append_assoc, List.cons_append, List.nil_append]
   by_cases h : m / 10 = 0
   ·simp [h]
   ·simp [h]
  ·rw [Nat.pow_succ] at hm
   exact Nat.div_lt_of_lt_mul (by omega)
theorem left_end {o : List Int} {f m : Nat} (hgo : ¬ (o = [] ∨ m ≠ 0)) : o ++ left o f m = o := by unfold left; rw [if_neg hgo, List.append_nil]
def str (l : List Int) : ByteArray := ⟨(l.map fun b => UInt8.ofNat b.toNat).toArray⟩
def textB (n : Int) : ByteArray := str (back n).reverse
theorem str_append (a b : List Int) : str a ++ str b = str (a ++ b) := by
 apply ByteArray.ext
 simp [str, ByteArray.data_append]
theorem str_cons (a : Int) (b : List Int) : str [a] ++ str b = str (a :: b) := str_append [a] b
theorem u8_back {b : Int} (h0 : 0 ≤ b) (h1 : b ≤ 255) : ((UInt8.ofNat b.toNat).toNat : Int) = b := by
 rw [UInt8.toNat_ofNat']; omega
theorem mbAtFn (x : Mb) (id : Int) (g : Nat) (w : World) (hcap : CapC w g [.int .i64 id]) :
  Calls Tryz.prog 116 #[.agg #[.int .i64 x.id, .int .i64 x.cap, .int .i64 x.phase, .int .i64 x.til], .pointer (some ⟨g, 0, none⟩)] w fun e w' => e = .returned (.bool (x.id == id)) ∧ Below w.heap.size w w' := by
 have hg := hcap.1
 have h0 := hcap.2 0 _ rfl
 clear hcap
 go_enter Tryz.func116, Tryz.ntmps116
 go_wp2
 go_ret
 exact ⟨rfl, tB⟩
theorem mbAtIdx (l : List Mb) (id : Int) (A : Option Addr) (c g : Nat) (w : World) (hl : l.length ≤ 1099511627776) (hr : Rd w A 4 (l.map encMb)) (hcap : CapC w g [.int .i64 id]) :
  Calls Tryz.prog 115 #[.slice A l.length c, .func (Fn.func 116) #[] #[.pointer (some ⟨g, 0, none⟩)]] w fun e w' => e = .returned (.int .i64 (idxOf (fun x : Mb => x.id == id) l)) ∧ Below w.heap.size w w' := by
 have Hr := hid hr
 have H0 := hid hcap
 clear hr hcap
 go_enter Tryz.func115, Tryz.ntmps115
 go_wp2_with fail
 go_loopw [8] (fun i wr => ∃ k : Nat, k ≤ l.length ∧ i = .int .i64 k ∧ Below w.heap.size w wr ∧ ∀ j (_ : j < l.length), j < k → (fun x : Mb => x.id == id) l[j] = false) (fun i _ => l.length - (intOf i).toNat)
 case atStart => exact ⟨0, Nat.zero_le _, rfl, Below.refl _ _, fun j _ h => absurd h (by omega)⟩
 case round =>
  obtain ⟨k, hk, rfl, hbl, hno⟩ := hrel
  have Hbl := hid hbl
  have Hno := hid hno
  have hz := hbl.size
  clear hbl hno
  by_cases hlt : k < l.length
  ·obtain ⟨b, o, rfl, hb, hc⟩ := Hr.out k (encMb l[k]) (by simp [hlt])
   have c0 := tC Hbl hb (hc 0 _ rfl)
   have c1 := tC Hbl hb (hc 1 _ rfl)
   have c2 := tC Hbl hb (hc 2 _ rfl)
   have c3 := tC Hbl hb (hc 3 _ rfl)
   have H0' := hid (H0.out.keep Hbl.out)
   simp only [Nat.add_zero] at c0
   clear hc
   cases hm : (fun x : Mb => x.id == id) l[k]
   ·have Hm := hid hm
    clear hm
    go_wp2_with (go_at_call 116; (with_reducible refine (mbAtFn l[k] id g _ (H0'.out.keep tB)).mono ?_); rw [Hm.out]; rintro e w1 ⟨rfl, hb1⟩; have hz1 := hb1.size; have Hb1 := hid hb1; clear hb1)
    go_roundw
    case rel => exact ⟨k + 1, by omega, by go_num, Hbl.out.trans (Hb1.out.mono tZ), fun j hj h => by
     rcases Nat.lt_or_ge j k with h1 | h1
     ·exact Hno.out j hj h1
     ·obtain rfl : j = k := by omega
      exact Hm.out⟩
    case measure => simp [intOf]; omega
   ·have hi := idx_hit (p := fun x : Mb => x.id == id) hlt hm Hno.out
    have Hi := hid hi
    have Hm := hid hm
    clear hm hi
    go_wp2_with (go_at_call 116; (with_reducible refine (mbAtFn l[k] id g _ (H0'.out.keep tB)).mono ?_); rw [Hm.out]; rintro e w1 ⟨rfl, hb1⟩; have hz1 := hb1.size; have Hb1 := hid hb1; clear hb1)
    go_ret
    exact ⟨by rw [Hi.out]; rfl, Hbl.out.trans (Hb1.out.mono tZ)⟩
  ·have hi := idx_miss (p := fun x : Mb => x.id == id) (l := l) (fun j hj => Hno.out j hj (by omega))
   have Hi := hid hi
   clear hi
   go_wp2_with fail
   go_ret
   exact ⟨by rw [Hi.out]; rfl, Hbl.out⟩
theorem mbAt (l : List Mb) (id : Int) (A : Option Addr) (c : Nat) (w : World) (hl : l.length ≤ 1099511627776) (hr : Rd w A 4 (l.map encMb)) :
  Calls Tryz.prog 76 #[.slice A l.length c, .int .i64 id] w fun e w' => e = .returned (.int .i64 (idxOf (fun m : Mb => m.id == id) l)) ∧ Below w.heap.size w w' := by
 have Hr := hid hr
 clear hr
 go_enter Tryz.func76, Tryz.ntmps76
 go_wp2_with fail
 refine (mbAtIdx l id A c _ _ hl (Hr.out.keep tB) ⟨by simp, fun j v hv => by
  match j, hv with
  | 0, hv => simp at hv; subst hv; simp [go_sem]⟩).mono ?_
 rintro e w1 ⟨rfl, hb1⟩
 go_wp2_with fail
 go_ret
 exact ⟨rfl, tB⟩
theorem idx_casesB (p : Mb → Bool) (l : List Mb) : (∃ (k : Nat) (h : k < l.length), p l[k] = true ∧ (∀ j (_ : j < l.length), j < k → p l[j] = false) ∧ idxOf p l = k) ∨ ((∀ j (_ : j < l.length), p l[j] = false) ∧ idxOf p l = -1) := by
 unfold idxOf
 cases h : l.findIdx? p with
 | none =>
  right
  rw [List.findIdx?_eq_none_iff] at h
  exact ⟨fun j hj => by have := h l[j] (List.getElem_mem hj); simpa using this, rfl⟩
 | some k =>
  left
  rw [List.findIdx?_eq_some_iff_getElem] at h
  obtain ⟨hk, h1, h2⟩ := h
  exact ⟨k, hk, h1, fun j hj hjk => by have := h2 j hjk; simpa using this, rfl⟩
theorem mbFind (l : List Mb) (id : Int) (A : Option Addr) (c : Nat) (w : World) (hl : l.length ≤ 1099511627776) (hr : Rd w A 4 (l.map encMb)) :
  Calls Tryz.prog 39 #[.slice A l.length c, .int .i64 id] w fun e w' => e = .returned (.tuple #[.agg #[.int .i64 (findMb l id).1.id, .int .i64 (findMb l id).1.cap, .int .i64 (findMb l id).1.phase, .int .i64 (findMb l id).1.til], .bool (findMb l id).2]) ∧ Below w.heap.size w w' := by
 have c1 := fun W (h : Rd W A 4 (l.map encMb)) => mbAt l id A c W hl h
 have HR := hid hr
 rcases idx_casesB (fun m : Mb => m.id == id) l with ⟨k, hk, hm, hn, he⟩ | ⟨hn, he⟩
 ·rw [findMb_hit hk hm hn]
  rw [he] at c1
  have C1 := hid c1
  have kl : (k : Int) < (l.length : Int) := by omega
  obtain ⟨b, o, rfl, hb, hc⟩ := hr k (encMb l[k]) (by simp [hk])
  have e0 := hc 0 _ rfl
  have e1 := hc 1 _ rfl
  have e2 := hc 2 _ rfl
  have e3 := hc 3 _ rfl
  simp only [Nat.add_zero] at e0
  clear hr he hm hn hc c1
  go_enter Tryz.func39, Tryz.ntmps39
  go_wp2_with (go_at_call 76; (with_reducible refine cM (C1.out _ (HR.out.keep tB)) fun w1 hb1 fc1 fg1 hc1 hf1 hz1 => ?_); try simp at hz1)
  have g0 : w1.cell? ⟨w.heap.size, 0, none⟩ = some (.int .i64 0) := by simp [go_sem, hc1]
  have g1 : w1.cell? ⟨w.heap.size, 1, none⟩ = some (.int .i64 0) := by simp [go_sem, hc1]
  have g2 : w1.cell? ⟨w.heap.size, 2, none⟩ = some (.int .i64 0) := by simp [go_sem, hc1]
  have g3 : w1.cell? ⟨w.heap.size, 3, none⟩ = some (.int .i64 0) := by simp [go_sem, hc1]
  refine bodyPost_ret (by simp [results, Tryz.results39, go_sem, g0, g1, g2, g3]; try rfl) rfl ⟨rfl, ?_⟩
  exact tB
 ·rw [findMb_miss hn]
  rw [he] at c1
  have C1 := hid c1
  clear hr he hn c1
  go_enter Tryz.func39, Tryz.ntmps39
  go_wp2_with (go_at_call 76; (with_reducible refine cM (C1.out _ (HR.out.keep tB)) fun w1 hb1 fc1 fg1 hc1 hf1 hz1 => ?_); try simp at hz1)
  have g0 : w1.cell? ⟨w.heap.size, 0, none⟩ = some (.int .i64 0) := by simp [go_sem, hc1]
  have g1 : w1.cell? ⟨w.heap.size, 1, none⟩ = some (.int .i64 0) := by simp [go_sem, hc1]
  have g2 : w1.cell? ⟨w.heap.size, 2, none⟩ = some (.int .i64 0) := by simp [go_sem, hc1]
  have g3 : w1.cell? ⟨w.heap.size, 3, none⟩ = some (.int .i64 0) := by simp [go_sem, hc1]
  refine bodyPost_ret (by simp [results, Tryz.results39, go_sem, g0, g1, g2, g3]; try rfl) rfl ⟨rfl, ?_⟩
  exact tB
end Go.Proofs.YtalgfpegaobacaaGreatDoor
