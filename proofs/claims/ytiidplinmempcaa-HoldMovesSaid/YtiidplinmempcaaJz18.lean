/- Joined: Div64, Wide7, Dig0, Wide8, HoL. -/
import Derived.Test.YtiidplinmempcaaJz1
import Derived.Test.YtiidplinmempcaaJz2
import Derived.Test.YtiidplinmempcaaJz17
import Derived.Test.YtiidplinmempcaaJz3
import Derived.Test.YtiidplinmempcaaJz5
import Derived.Test.YtiidplinmempcaaRows
import Derived.WalkKit
import Derived.WalkSpells
import Derived.WalkLawsBesides
import Derived.BigQuiet
import Derived.Deep.RegionHeld3
import Derived.Handy
import Derived.Lib.ItoaNum
import Derived.Laws.IdiomStrings
/- The contract of bits.Div64. -/
namespace Go.Proofs.Ytiidplinmempcaa
open Go.RowKit
theorem u64_wrap {x : Int} (h0 : 0 ≤ x) (h1 : x ≤ 18446744073709551615) : IntKind.u64.wrap x = x := by rw [IntKind.wrap_u64]; omega
theorem and_low (x : Int) (h : 0 ≤ x) (h' : x ≤ 18446744073709551615) : bits .and .u64 x 4294967295 = x % 4294967296 := by
  obtain ⟨x, rfl⟩ := Int.eq_ofNat_of_zero_le h
  show IntKind.u64.wrap ((BitVec.ofInt 64 (x : Int) &&& BitVec.ofInt 64 4294967295).toNat : Int) = _
  have e : (BitVec.ofInt 64 (x : Int) &&& BitVec.ofInt 64 4294967295).toNat = x % 4294967296 := by
    rw [BitVec.toNat_and, BitVec.ofInt_natCast, BitVec.toNat_ofNat, Nat.mod_eq_of_lt (by omega)]
    exact Nat.and_two_pow_sub_one_eq_mod x 32
  rw [e, u64_wrap (by omega) (by omega)]
  omega
theorem or_low (h l : Int) (s : Nat) (h0 : 0 ≤ h) (l0 : 0 ≤ l) (hl : l < 2 ^ s) (hh : h * 2 ^ s ≤ 18446744073709551615) (hs : s ≤ 63) : bits .or .u64 (h * 2 ^ s) l = h * 2 ^ s + l := by
  obtain ⟨h, rfl⟩ := Int.eq_ofNat_of_zero_le h0
  obtain ⟨l, rfl⟩ := Int.eq_ofNat_of_zero_le l0
  have hp : (2 : Int) ^ s = ((2 ^ s : Nat) : Int) := by rw [Int.natCast_pow]; rfl
  have hps : 2 ^ s ≤ 2 ^ 63 := Nat.pow_le_pow_right (by omega) hs
  have hl2 : l < 2 ^ s := by rw [hp] at hl; omega
  have hh2 : h * 2 ^ s ≤ 18446744073709551615 := by rw [hp, ← Int.natCast_mul] at hh; omega
  rw [hp, ← Int.natCast_mul]
  show IntKind.u64.wrap ((BitVec.ofInt 64 ((h * 2 ^ s : Nat) : Int) ||| BitVec.ofInt 64 (l : Int)).toNat : Int) = _
  have e : (BitVec.ofInt 64 ((h * 2 ^ s : Nat) : Int) ||| BitVec.ofInt 64 (l : Int)).toNat = h * 2 ^ s + l := by
    rw [BitVec.toNat_or, BitVec.ofInt_natCast, BitVec.toNat_ofNat, BitVec.ofInt_natCast, BitVec.toNat_ofNat, Nat.mod_eq_of_lt (by omega), Nat.mod_eq_of_lt (by omega), ← Nat.shiftLeft_eq, Nat.shiftLeft_add_eq_or_of_lt hl2]
  have hsum : h * 2 ^ s + l ≤ 18446744073709551615 := by
    rw [← e]; have := (BitVec.ofInt 64 ((h * 2 ^ s : Nat) : Int) ||| BitVec.ofInt 64 (l : Int)).isLt; omega
  rw [e, u64_wrap (by omega) (by omega)]
  omega
theorem sub_mod {x y z : Int} (h0 : 0 ≤ x * 4294967296 + y - z) (h1 : x * 4294967296 + y - z ≤ 18446744073709551615) : IntKind.u64.wrap (IntKind.u64.wrap (IntKind.u64.wrap (x * 4294967296) + y) - IntKind.u64.wrap z) = x * 4294967296 + y - z := by
  rw [IntKind.wrap_u64, IntKind.wrap_u64, IntKind.wrap_u64, IntKind.wrap_u64]; omega
/-- The first guess, as the code has it. -/
theorem guess {U a : Int} (a0 : 0 < a) (u0 : 0 ≤ U) (u1 : U ≤ 18446744073709551615) : IntKind.u64.wrap (U.tdiv a) = U / a ∧ IntKind.u64.wrap (U - IntKind.u64.wrap (U / a * a)) = U - U / a * a := by
  have e := Int.mul_ediv_add_emod U a
  have e1 := Int.emod_nonneg U (show a ≠ 0 by omega)
  rw [Int.mul_comm] at e
  have q0 : 0 ≤ U / a := Int.ediv_nonneg u0 (by omega)
  have q1 : U / a ≤ U := Int.ediv_le_self _ u0
  have q2 : 0 ≤ U / a * a := Int.mul_nonneg q0 (by omega)
  refine ⟨?_, ?_⟩
  · rw [Int.tdiv_eq_ediv_of_nonneg u0]
    exact u64_wrap q0 (by omega)
  · rw [u64_wrap q2 (by omega)]
    exact u64_wrap (by omega) (by omega)
end Go.Proofs.Ytiidplinmempcaa

/- The contract of wide.Div. -/
namespace Go.Proofs.Ytiidplinmempcaa
open Go.RowKit
theorem long_div {m d : Int} (hm : 0 ≤ m) (hd : 0 < d) : whi m / d = whi (m / d) ∧ (whi m % d * 18446744073709551616 + wlo m) / d = wlo (m / d) ∧ (whi m % d * 18446744073709551616 + wlo m) % d = m % d := by
  have e0 := whi_wlo m
  have h1 : 0 ≤ whi m := by unfold whi; omega
  have h2 := wlo_u m
  generalize whi m = h at *
  generalize wlo m = l at *
  have e1 := Int.mul_ediv_add_emod h d
  have e2 := Int.emod_nonneg h (show d ≠ 0 by omega)
  have e3 := Int.emod_lt_of_pos h hd
  obtain ⟨p, hp⟩ : ∃ p, p = h / d := ⟨_, rfl⟩
  obtain ⟨r, hr⟩ : ∃ r, r = h % d := ⟨_, rfl⟩
  rw [← hp, ← hr] at e1
  rw [← hr] at e2 e3
  rw [← hp, ← hr]
  have e4 : m = r * 18446744073709551616 + l + p * 18446744073709551616 * d := by
    rw [← e0, ← e1, Int.add_mul, Int.mul_right_comm p, Int.mul_comm d p]; omega
  have e5 : 0 ≤ (r * 18446744073709551616 + l) / d := Int.ediv_nonneg (by omega) (by omega)
  have e6 : (r * 18446744073709551616 + l) / d < 18446744073709551616 := Int.ediv_lt_of_lt_mul hd (by omega)
  rw [e4, Int.add_mul_ediv_right _ _ (by omega), Int.add_mul_emod_self_right]
  unfold whi wlo
  omega
theorem floor_neg0 {n d m : Int} (hm : m = - n) (hd : 0 < d) (h : m % d = 0) : n / d = - (m / d) ∧ n % d = 0 := by
  have e := Int.mul_ediv_add_emod m d
  rw [h, Int.mul_comm] at e
  have h1 : n / d = - (m / d) := div_is (by rw [Int.neg_mul]; omega) (by rw [Int.add_mul, Int.neg_mul]; omega) hd
  refine ⟨h1, ?_⟩
  rw [Int.emod_def, h1, Int.mul_comm, Int.neg_mul]; omega
theorem floor_neg1 {n d m : Int} (hm : m = - n) (hd : 0 < d) (h : 0 < m % d) : n / d = - (m / d + 1) ∧ n % d = d - m % d := by
  have e := Int.mul_ediv_add_emod m d
  have e3 := Int.emod_lt_of_pos m hd
  rw [Int.mul_comm] at e
  have h1 : n / d = - (m / d + 1) := div_is (by rw [Int.neg_mul, Int.add_mul]; omega) (by rw [show - (m / d + 1) + 1 = - (m / d) by omega, Int.neg_mul]; omega) hd
  refine ⟨h1, ?_⟩
  rw [Int.emod_def, h1, Int.mul_comm, Int.neg_mul, Int.add_mul]; omega
end Go.Proofs.Ytiidplinmempcaa

/- Digits in tens. Plain. -/
namespace Go.Proofs.Ytiidplinmempcaa
/-- The digits of m as bytes, the lowest first. -/
def dgs : Nat → Nat → List Int
  | 0, _ => []
  | f + 1, m => (48 + m % 10 : Nat) :: (if m / 10 = 0 then [] else dgs f (m / 10))
/-- What is still to come, behind o. -/
def left (o : List Int) (f m : Nat) : List Int := if o = [] ∨ m ≠ 0 then dgs f m else []
theorem left_start (m : Nat) : [] ++ left [] 40 m = dgs 40 m := by simp [left]
theorem left_step {o : List Int} {f m : Nat} (hf : f + o.length = 40) (hm : m < 10 ^ f) (hgo : o = [] ∨ m ≠ 0) :
    ∃ g, f = g + 1 ∧ o ++ left o f m = (o ++ [((48 + m % 10 : Nat) : Int)]) ++ left (o ++ [((48 + m % 10 : Nat) : Int)]) g (m / 10) ∧ m / 10 < 10 ^ g := by
  cases f with
  | zero =>
    exfalso
    rcases hgo with h | h
    · subst h; simp at hf
    · simp at hm; omega
  | succ g =>
    refine ⟨g, rfl, ?_, ?_⟩
    · unfold left
      rw [if_pos hgo]
      simp only [dgs, List.append_assoc, List.cons_append, List.nil_append]
      by_cases h : m / 10 = 0
      · simp [h]
      · simp [h]
    · rw [Nat.pow_succ] at hm
      exact Nat.div_lt_of_lt_mul (by omega)
theorem left_end {o : List Int} {f m : Nat} (hgo : ¬ (o = [] ∨ m ≠ 0)) : o ++ left o f m = o := by unfold left; rw [if_neg hgo, List.append_nil]
theorem dgs_byte : ∀ (f m : Nat), ∀ b ∈ dgs f m, 0 ≤ b ∧ b ≤ 255
  | 0, _, b, hb => by simp [dgs] at hb
  | f + 1, m, b, hb => by
    simp only [dgs, List.mem_cons] at hb
    rcases hb with h | h
    · subst h; omega
    · by_cases e : m / 10 = 0
      · simp [e] at h
      · rw [if_neg e] at h; exact dgs_byte f _ b h
theorem dgs_len : ∀ (f m : Nat), (dgs f m).length ≤ f
  | 0, _ => by simp [dgs]
  | f + 1, m => by
    simp only [dgs, List.length_cons]
    by_cases e : m / 10 = 0
    · simp [e]
    · rw [if_neg e]; have := dgs_len f (m / 10); omega
/-- The text of n, the last byte first. -/
def back (n : Int) : List Int := dgs 40 n.natAbs ++ (if n < 0 then [45] else [])
theorem back_byte (n : Int) : ∀ b ∈ back n, 0 ≤ b ∧ b ≤ 255 := by
  intro b hb
  unfold back at hb
  rw [List.mem_append] at hb
  rcases hb with h | h
  · exact dgs_byte _ _ _ h
  · by_cases e : n < 0
    · rw [if_pos e] at h; simp at h; subst h; omega
    · rw [if_neg e] at h; simp at h
theorem back_len (n : Int) : (back n).length ≤ 41 := by
  unfold back
  have := dgs_len 40 n.natAbs
  rw [List.length_append]
  split <;> simp <;> omega
/-- Bytes as a string. -/
def str (l : List Int) : ByteArray := ⟨(l.map fun b => UInt8.ofNat b.toNat).toArray⟩
def textB (n : Int) : ByteArray := str (back n).reverse
theorem str_append (a b : List Int) : str a ++ str b = str (a ++ b) := by
  apply ByteArray.ext
  simp [str, ByteArray.data_append]
theorem str_cons (a : Int) (b : List Int) : str [a] ++ str b = str (a :: b) := str_append [a] b
theorem u8_back {b : Int} (h0 : 0 ≤ b) (h1 : b ≤ 255) : ((UInt8.ofNat b.toNat).toNat : Int) = b := by
  rw [UInt8.toNat_ofNat']; omega
/-- i rounds of turning a list round: the ends are turned, the middle is not. -/
def turned (l : List Int) (i : Nat) : List Int := (List.range l.length).map fun x => if x < i ∨ l.length - 1 - i < x then l.getD (l.length - 1 - x) 0 else l.getD x 0
theorem turned_len (l : List Int) (i : Nat) : (turned l i).length = l.length := by simp [turned]
theorem turned_at (l : List Int) (i x : Nat) (h : x < l.length) : (turned l i)[x]? = some (if x < i ∨ l.length - 1 - i < x then l.getD (l.length - 1 - x) 0 else l.getD x 0) := by
  simp [turned, h]
theorem turned_zero (l : List Int) : turned l 0 = l := by
  apply List.ext_getElem?
  intro x
  by_cases h : x < l.length
  · rw [turned_at l 0 x h, if_neg (by omega)]
    simp [h]
  · rw [List.getElem?_eq_none (by rw [turned_len]; omega), List.getElem?_eq_none (by omega)]
theorem turned_end (l : List Int) (i : Nat) (h : l.length ≤ 2 * i + 1) : turned l i = l.reverse := by
  apply List.ext_getElem?
  intro x
  by_cases hx : x < l.length
  · rw [turned_at l i x hx, List.getElem?_reverse hx]
    split
    · simp [show l.length - 1 - x < l.length from by omega]
    · rw [show l.length - 1 - x = x from by omega]; simp [hx]
  · rw [List.getElem?_eq_none (by rw [turned_len]; omega), List.getElem?_eq_none (by simp; omega)]
theorem turned_step (l : List Int) (i : Nat) (h : 2 * i + 1 < l.length) : turned l (i + 1) = ((turned l i).set i (l.getD (l.length - 1 - i) 0)).set (l.length - 1 - i) (l.getD i 0) := by
  apply List.ext_getElem?
  intro x
  by_cases hx : x < l.length
  · rw [turned_at l (i + 1) x hx, List.getElem?_set, List.getElem?_set, List.length_set, turned_len, turned_at l i x hx]
    by_cases e1 : l.length - 1 - i = x
    · rw [if_pos e1, if_pos (by omega), if_pos (by omega), show l.length - 1 - x = i from by omega]
    · rw [if_neg e1]
      by_cases e2 : i = x
      · rw [if_pos e2, if_pos (by omega), if_pos (by omega), e2]
      · rw [if_neg e2]
        congr 1
        by_cases e3 : x < i ∨ l.length - 1 - i < x
        · rw [if_pos e3, if_pos (by omega)]
        · rw [if_neg e3, if_neg (by omega)]
  · rw [List.getElem?_eq_none (by rw [turned_len]; omega), List.getElem?_eq_none (by rw [List.length_set, List.length_set, turned_len]; omega)]
theorem turned_get (l : List Int) (i : Nat) (h : 2 * i + 1 < l.length) : (turned l i)[i]? = some (l.getD i 0) ∧ (turned l i)[l.length - 1 - i]? = some (l.getD (l.length - 1 - i) 0) := by
  rw [turned_at l i i (by omega), turned_at l i _ (by omega), if_neg (by omega), if_neg (by omega)]
  exact ⟨rfl, rfl⟩
theorem textB_12 : textB (-12) = ⟨#[45, 49, 50]⟩ := by decide +kernel
end Go.Proofs.Ytiidplinmempcaa

/- The contract of wide.Text. -/
namespace Go.Proofs.Ytiidplinmempcaa
open Go.RowKit
theorem or_pos {m : Int} (h : 0 < m) (h1 : m < 340282366920938463463374607431768211456) : 0 < bits .or .u64 (whi m) (wlo m) := by
  have e := whi_wlo m
  have a1 : 0 ≤ whi m ∧ whi m ≤ 18446744073709551615 := by unfold whi; omega
  have a2 := wlo_u m
  obtain ⟨p, hp⟩ := Int.eq_ofNat_of_zero_le a1.1
  obtain ⟨q, hq⟩ := Int.eq_ofNat_of_zero_le a2.1
  rw [hp, hq] at e ⊢
  rw [hp] at a1
  rw [hq] at a2
  show 0 < IntKind.u64.wrap ((BitVec.ofInt 64 (p : Int) ||| BitVec.ofInt 64 (q : Int)).toNat : Int)
  have hn : p ≠ 0 ∨ q ≠ 0 := by omega
  have e1 : (BitVec.ofInt 64 (p : Int) ||| BitVec.ofInt 64 (q : Int)).toNat = p ||| q := by
    rw [BitVec.toNat_or, BitVec.ofInt_natCast, BitVec.toNat_ofNat, BitVec.ofInt_natCast, BitVec.toNat_ofNat, Nat.mod_eq_of_lt (by omega), Nat.mod_eq_of_lt (by omega)]
  have e2 : 0 < p ||| q := by
    rcases hn with h | h
    · exact Nat.lt_of_lt_of_le (Nat.pos_of_ne_zero h) Nat.left_le_or
    · exact Nat.lt_of_lt_of_le (Nat.pos_of_ne_zero h) Nat.right_le_or
  have e3 := (BitVec.ofInt 64 (p : Int) ||| BitVec.ofInt 64 (q : Int)).isLt
  rw [u64_wrap (by omega) (by omega), e1]
  omega
theorem or_zero : bits .or .u64 (whi 0) (wlo 0) = 0 := by decide +kernel
theorem rd_oneAt {w : World} {n : Nat} {cs : Array Value} {E k : Nat} (h : n = w.heap.size) : Rd (w.alloc (.cells cs E)) (some ⟨n, 0, none⟩) k [cs.toList] := by subst h; exact rd_one
theorem own_swap {w : World} {base E : Nat} {t : List Int} {r g n c : Nat} (h : Own w base E 1 (.slice (some ⟨g, 0, none⟩) n c) ((turned t r).map encB)) (hr : 2 * r + 1 < t.length) :
    Own ((w.setCell ⟨g, r, none⟩ (.int .u8 (t.getD (t.length - 1 - r) 0))).setCell ⟨g, t.length - 1 - r, none⟩ (.int .u8 (t.getD r 0))) base E 1 (.slice (some ⟨g, 0, none⟩) n c) ((turned t (r + 1)).map encB) := by
  obtain ⟨e1, e2⟩ := turned_get t r hr
  have h1 := h.put rfl (i := r) (r := encB (t.getD r 0)) (by rw [List.getElem?_map, e1]; rfl) (j := 0) (by omega) (.int .u8 (t.getD (t.length - 1 - r) 0))
  have h2 := h1.put rfl (i := t.length - 1 - r) (r := encB (t.getD (t.length - 1 - r) 0)) (by rw [List.getElem?_set_ne (by omega), List.getElem?_map, e2]; rfl) (j := 0) (by omega) (.int .u8 (t.getD r 0))
  rw [turned_step t r hr, List.map_set, List.map_set]
  simpa [encB] using h2
theorem own_cells {w : World} {base E : Nat} {t : List Int} {r g n c : Nat} (h : Own w base E 1 (.slice (some ⟨g, 0, none⟩) n c) ((turned t r).map encB)) {x : Nat} {v : Int} (hx : (turned t r)[x]? = some v) : w.cell? ⟨g, x, none⟩ = some (.int .u8 v) := by
  obtain ⟨b, o, hA, _, hc⟩ := h.rd.1 x (encB v) (by rw [List.getElem?_map, hx]; rfl)
  injection hA with hA
  injection hA with hA hB _
  subst hA hB
  have := hc 0 _ rfl
  simpa using this
theorem addr_plain (b o j : Nat) : (⟨b, o, none⟩ : Addr).add j = ⟨b, o + j, none⟩ := by unfold Addr.add; split <;> simp_all
def slen : Value → Nat
  | .slice _ n _ => n
  | _ => 0
end Go.Proofs.Ytiidplinmempcaa

/- Layer 26's laws: lives, HoldPuts. -/
namespace Go.Proofs.Ytiidplinmempcaa
open Go.RowKit
theorem ord_selfH (n : Int) : ord n n = 0 := by unfold ord; rw [if_neg (by omega), if_neg (by omega)]
theorem rd_lot1 {w : World} {b : Nat} {x : Lot} (hb : b < w.heap.size) (h0 : w.cell? ⟨b, 0, none⟩ = some (.int .i64 x.asset)) (h1 : w.cell? ⟨b, 1, none⟩ = some (.int .i64 x.tag)) (h2 : w.cell? ⟨b, 2, none⟩ = some (.int .i64 x.qty)) : Rd w (some ⟨b, 0, none⟩) 3 ([x].map encLot) := by
  intro i r hr
  match i, hr with
  | 0, hr =>
    simp [encLot] at hr; subst hr
    refine ⟨b, 0, rfl, hb, fun j z hz => ?_⟩
    match j with
    | 0 => simp at hz; subst hz; simpa using h0
    | 1 => simp at hz; subst hz; simpa using h1
    | 2 => simp at hz; subst hz; simpa using h2
    | j + 3 => simp at hz
def liveH1 : List (Row Lot) := [⟨⟨1, 0⟩, [⟨1, 0, 5⟩]⟩]
def liveH2 : List (Row Lot) := [⟨⟨2, 0⟩, [⟨1, 0, 5⟩]⟩]
theorem live_hold : ptC [] ⟨1, 0⟩ ⟨1, 0, 5⟩ = 0 ∧ ptL [] ⟨1, 0⟩ ⟨1, 0, 5⟩ = liveH1 ∧ mhC liveH1 ⟨1, 0⟩ ⟨2, 0⟩ = 0 ∧ mhL liveH1 ⟨1, 0⟩ ⟨2, 0⟩ = liveH2 ∧ ofK liveH2 ⟨2, 0⟩ = [⟨1, 0, 5⟩] ∧ ofK liveH2 ⟨1, 0⟩ = [] := by
  refine ⟨by kernel_rfl, by kernel_rfl, by kernel_rfl, by kernel_rfl, by kernel_rfl, by kernel_rfl⟩
theorem live_lq : LQ liveH1 := by
  intro r hr
  simp only [liveH1, List.mem_singleton] at hr
  subst hr
  exact ⟨by simp, fun y hy => by simp at hy; subst hy; simp [In64]⟩
set_option maxRecDepth 100000 in
set_option maxHeartbeats 16000000 in
theorem law26lives (w : World) : Calls Try.prog 34 #[] w fun e w' => e = .returned (.bool true) ∧ Below w.heap.size w w' := by
  have cp := fun W => holdPut [] ⟨1, 0⟩ ⟨1, 0, 5⟩ none 0 W (by simp) (by intro r hr; simp at hr) (by simp [In64]) (Rs.empty _ _).rd (by simp)
  simp only [List.length_nil, List.map_nil] at cp
  rw [live_hold.1, live_hold.2.1] at cp
  have cm := fun (ys : List HoldV) A c W (hlg : ys.map lgHoldV = liveH1) (hr : Rs W 3 (ys.map encHoldV) A c) (hf : FormA ys A c) (hg : ∀ y ∈ ys, GoodHoldV W y) => hlg ▸ holdMove ys ⟨1, 0⟩ ⟨2, 0⟩ A c W (by have h1 := congrArg List.length hlg; rw [List.length_map] at h1; simp [liveH1] at h1; omega) (by rw [hlg]; exact live_lq) hr hf hg
  dsimp only at cm
  rw [live_hold.2.2.1, live_hold.2.2.2.1] at cm
  have hs := fun (W : World) (A B : Option Addr) (c d : Nat) (h : Rd W A 3 ([(⟨1, 0, 5⟩ : Lot)].map encLot)) (h' : Rd W B 3 ([(⟨1, 0, 5⟩ : Lot)].map encLot)) => ref18Same [⟨1, 0, 5⟩] A B c d W (by simp) h h'
  simp only [List.length_cons, List.length_nil, Nat.zero_add] at hs
  have c5 := fun (ys : List HoldV) A c W (hlg : ys.map lgHoldV = liveH2) (hr : Rd W A 3 (ys.map encHoldV)) (hg : ∀ y ∈ ys, GoodHoldV W y) => hlg ▸ holdOfR ys ⟨2, 0⟩ A c W (by have h1 := congrArg List.length hlg; rw [List.length_map] at h1; simp [liveH2] at h1; omega) hr hg
  dsimp only at c5
  rw [live_hold.2.2.2.2.1] at c5
  simp only [List.length_cons, List.length_nil, Nat.zero_add] at c5
  have c6 := fun (ys : List HoldV) A c W (hlg : ys.map lgHoldV = liveH2) (hr : Rd W A 3 (ys.map encHoldV)) (hg : ∀ y ∈ ys, GoodHoldV W y) => hlg ▸ holdOfR ys ⟨1, 0⟩ A c W (by have h1 := congrArg List.length hlg; rw [List.length_map] at h1; simp [liveH2] at h1; omega) hr hg
  dsimp only at c6
  rw [live_hold.2.2.2.2.2] at c6
  simp only [List.length_nil] at c6
  have CP := Lib.hid cp
  have CM := Lib.hid cm
  have HS := Lib.hid hs
  have C5 := Lib.hid c5
  have C6 := Lib.hid c6
  clear cp cm hs c5 c6
  go_enter Try.func34, Try.ntmps34
  go_wp2_with (first | (go_at_call 64; (with_reducible refine (CP.out _).mono ?_); intro e w1 hp1; obtain ⟨ys1, A1, c1, rfl, hlg1, hrs1, hfm1, hgd1, hb1⟩ := hold_rs hp1; have LG1 := Lib.hid hlg1; have H1 := Lib.hid hrs1; have F1 := Lib.hid hfm1; have G1 := Lib.hid hgd1; clear hp1 hlg1 hrs1 hfm1 hgd1; obtain ⟨fc1, fg1, hc1, hf1, hz1⟩ := bget hb1; (try simp at hz1)) | (go_at_call 29; (with_reducible refine (CM.out ys1 _ _ _ LG1.out (H1.out.keep (by (repeat' (first | (with_reducible exact Below.refl _ _) | (with_reducible assumption) | (with_reducible refine Below.alloc ?_ ?_ _) | (with_reducible refine Below.setCell ?_ ?_ _) | (with_reducible refine Below.drew ?_) | (with_reducible refine below_drewN ?_ _) | (with_reducible refine below_via ?_ (by with_reducible assumption) ?_) | omega | (simp; done) | (simp; omega))))) F1.out (fun y hy => (G1.out y hy).keep (by (repeat' (first | (with_reducible exact Below.refl _ _) | (with_reducible assumption) | (with_reducible refine Below.alloc ?_ ?_ _) | (with_reducible refine Below.setCell ?_ ?_ _) | (with_reducible refine Below.drew ?_) | (with_reducible refine below_drewN ?_ _) | (with_reducible refine below_via ?_ (by with_reducible assumption) ?_) | omega | (simp; done) | (simp; omega)))))).mono ?_); intro e w2 hp2; obtain ⟨ys2, A2, c2, rfl, hlg2, hrs2, hfm2, hgd2, hb2⟩ := hold_rs hp2; have LG2 := Lib.hid hlg2; have H2 := Lib.hid hrs2; have F2 := Lib.hid hfm2; have G2 := Lib.hid hgd2; clear hp2 hlg2 hrs2 hfm2 hgd2; obtain ⟨fc2, fg2, hc2, hf2, hz2⟩ := bget hb2; (try simp at hz2)) | (go_at_call 61; (with_reducible refine (C5.out ys2 _ _ _ LG2.out (H2.out.keep (by (repeat' (first | (with_reducible exact Below.refl _ _) | (with_reducible assumption) | (with_reducible refine Below.alloc ?_ ?_ _) | (with_reducible refine Below.setCell ?_ ?_ _) | (with_reducible refine Below.drew ?_) | (with_reducible refine below_drewN ?_ _) | (with_reducible refine below_via ?_ (by with_reducible assumption) ?_) | omega | (simp; done) | (simp; omega))))).rd (fun y hy => (G2.out y hy).keep (by (repeat' (first | (with_reducible exact Below.refl _ _) | (with_reducible assumption) | (with_reducible refine Below.alloc ?_ ?_ _) | (with_reducible refine Below.setCell ?_ ?_ _) | (with_reducible refine Below.drew ?_) | (with_reducible refine below_drewN ?_ _) | (with_reducible refine below_via ?_ (by with_reducible assumption) ?_) | omega | (simp; done) | (simp; omega)))))).mono ?_); rintro e w3 ⟨A3, c3, rfl, hrs3, hb3⟩; have H3 := Lib.hid hrs3.rd; clear hrs3; obtain ⟨fc3, fg3, hc3, hf3, hz3⟩ := bget hb3; (try simp at hz3)) | (go_at_call 61; (with_reducible refine (C6.out ys2 _ _ _ LG2.out (H2.out.keep (by (repeat' (first | (with_reducible exact Below.refl _ _) | (with_reducible assumption) | (with_reducible refine Below.alloc ?_ ?_ _) | (with_reducible refine Below.setCell ?_ ?_ _) | (with_reducible refine Below.drew ?_) | (with_reducible refine below_drewN ?_ _) | (with_reducible refine below_via ?_ (by with_reducible assumption) ?_) | omega | (simp; done) | (simp; omega))))).rd (fun y hy => (G2.out y hy).keep (by (repeat' (first | (with_reducible exact Below.refl _ _) | (with_reducible assumption) | (with_reducible refine Below.alloc ?_ ?_ _) | (with_reducible refine Below.setCell ?_ ?_ _) | (with_reducible refine Below.drew ?_) | (with_reducible refine below_drewN ?_ _) | (with_reducible refine below_via ?_ (by with_reducible assumption) ?_) | omega | (simp; done) | (simp; omega)))))).mono ?_); rintro e w5 ⟨A5, c5, rfl, hrs5, hb5⟩; clear hrs5; obtain ⟨fc5, fg5, hc5, hf5, hz5⟩ := bget hb5; (try simp at hz5)) | (go_at_call 60; (with_reducible refine (HS.out _ _ _ _ _ ?_ ?_).mono ?_); (focus (refine H3.out.keep ?_; (repeat' (first | (with_reducible exact Below.refl _ _) | (with_reducible assumption) | (with_reducible refine Below.alloc ?_ ?_ _) | (with_reducible refine Below.setCell ?_ ?_ _) | (with_reducible refine Below.drew ?_) | (with_reducible refine below_drewN ?_ _) | (with_reducible refine below_via ?_ (by with_reducible assumption) ?_) | omega | (simp; done) | (simp; omega))); done)); (focus (refine rd_lot1 ?_ ?_ ?_ ?_; (focus (simp; done)); (focus (simp [go_sem]; done)); (focus (simp [go_sem]; done)); (focus (simp [go_sem]; done)))); rintro e w4 ⟨rfl, hb4⟩; obtain ⟨fc4, fg4, hc4, hf4, hz4⟩ := bget hb4; (try simp at hz4)) | fail)
  go_ret
  exact ⟨rfl, by (repeat' (first | (with_reducible exact Below.refl _ _) | (with_reducible assumption) | (with_reducible refine Below.alloc ?_ ?_ _) | (with_reducible refine Below.setCell ?_ ?_ _) | (with_reducible refine Below.drew ?_) | (with_reducible refine below_drewN ?_ _) | (with_reducible refine below_via ?_ (by with_reducible assumption) ?_) | omega | (simp; done) | (simp; omega)))⟩
/-- What a row of holds handed in is, as the laws take it. -/
structure FewH (w : World) (fl : List HoldV) : Prop where
  len : fl.length ≤ 10
  good : ∀ x ∈ fl, GoodHoldV w x
  all40 : ∀ x ∈ fl, x.lots.val.length ≤ 40
  lq : LQ (fl.map lgHoldV)
theorem few_h {w : World} {l0 : List HoldV} (hg : ∀ x ∈ l0, Rs w 3 (x.lots.val.map encLot) x.lots.A x.lots.c) (h64 : ∀ x ∈ l0, ∀ z ∈ x.lots.val, In64 z.qty) : FewH w ((l0.take 10).map fewHoldV) := by
  refine ⟨by rw [List.length_map, List.length_take]; omega, fun x hx => ?_, fun x hx => ?_, fun r hr => ?_⟩
  · obtain ⟨y, hy, rfl⟩ := List.mem_map.1 hx
    exact (fewHoldV_good (hg y (List.mem_of_mem_take hy))).1
  · obtain ⟨y, hy, rfl⟩ := List.mem_map.1 hx
    have := (fewHoldV_good (hg y (List.mem_of_mem_take hy))).2
    omega
  · obtain ⟨x, hx, rfl⟩ := List.mem_map.1 hr
    obtain ⟨y, hy, rfl⟩ := List.mem_map.1 hx
    have := (fewHoldV_good (hg y (List.mem_of_mem_take hy))).2
    exact ⟨by show (fewHoldV y).lots.val.length ≤ 1000; omega, fun z hz => h64 y (List.mem_of_mem_take hy) z (List.mem_of_mem_take hz)⟩
theorem pt_len (L : List (Row Lot)) (u : Un) (x : Lot) : (ptL L u x).length ≤ L.length + 1 := by
  unfold ptL
  split
  · exact with_len _ _ _
  · simp
theorem st_len (L : List (Row Lot)) (u : Un) (all : List Lot) : (stL L u all).length ≤ L.length + 1 := by
  unfold stL
  split
  · exact with_len _ _ _
  · simp
set_option maxRecDepth 100000 in
set_option maxHeartbeats 64000000 in
theorem holdPutsAt (l0 fl : List HoldV) (u : Un) (x : Lot) (m0 m : List Lot) (A B : Option Addr) (c d : Nat) (w : World) (hfl : fl.length ≤ 10) (hm : m.length ≤ 20) (h40 : ∀ x ∈ fl, x.lots.val.length ≤ 40) (hq : LQ (fl.map lgHoldV)) (hx : In64 x.qty) (hfg : ∀ x ∈ fl, GoodHoldV w x)
    (hrm : ∀ W, Below w.heap.size w W → Rs W 3 (m.map encLot) B d)
    (c20 : ∀ W, Below w.heap.size w W → Calls Try.prog 28 #[.slice A l0.length c] W fun e w' => ∃ v, e = .returned v ∧ Own w' W.heap.size 137 3 v (fl.map encHoldV) ∧ Below W.heap.size W w')
    (c21 : ∀ W, Below w.heap.size w W → Calls Try.prog 56 #[.slice B m0.length d] W fun e w' => e = .returned (.slice B m.length d) ∧ Below W.heap.size W w') :
    Calls Try.prog 10 #[.slice A l0.length c, .agg #[.int .i64 u.acc, .int .i64 u.cli], .agg #[.int .i64 x.asset, .int .i64 x.tag, .int .i64 x.qty], .slice B m0.length d] w fun e w' => e = .returned (.bool true) ∧ Below w.heap.size w w' := by
  have C20 := Lib.hid c20
  have C21 := Lib.hid c21
  have HRM := Lib.hid hrm
  have HFG := Lib.hid hfg
  have HQ := Lib.hid hq
  have H40 := Lib.hid h40
  have HOL := Lib.hid (hq.of u)
  have l1 := pt_len (fl.map lgHoldV) u x
  have l2 := tkH_len (fl.map lgHoldV) u x
  have l3 := st_len (fl.map lgHoldV) u m
  rw [List.length_map] at l1 l2 l3
  have h128 := tot_in hq (by omega) x.asset
  have C7 := Lib.hid (fun W => bigWide (totsH x.asset fl).sum W h128)
  obtain ⟨sm, hsm⟩ : ∃ sm, sm = (totsH x.asset fl).sum := ⟨_, rfl⟩
  rw [← hsm] at C7
  have HSM := Lib.hid hsm.symm
  clear c20 c21 hrm hfg hq h40 h128 hsm
  generalize l0.length = n0 at *
  generalize m0.length = n1 at *
  obtain ⟨ib, hib⟩ : ∃ ib, isHoldV fl = ib := ⟨_, rfl⟩
  have HIB := Lib.hid hib
  clear hib
  cases ib
  all_goals
    go_enter Try.func10, Try.ntmps10
    go_wp2_with (first | (go_at_call 28; (with_reducible refine (C20.out _ (by (repeat' (first | (with_reducible exact Below.refl _ _) | (with_reducible assumption) | (with_reducible refine Below.alloc ?_ ?_ _) | (with_reducible refine Below.setCell ?_ ?_ _) | (with_reducible refine Below.drew ?_) | (with_reducible refine below_drewN ?_ _) | (with_reducible refine below_via ?_ (by with_reducible assumption) ?_) | omega | (simp; done) | (simp; omega))))).mono ?_); rintro e w1 ⟨v1, rfl, hown1, hb1⟩; obtain ⟨A1, c1, hv1, hrs1, hfm1⟩ := hown1.rs; (rw [List.length_map] at hv1); subst hv1; have F1 := Lib.hid (show FormA fl A1 c1 from (by rcases hfm1 with ⟨h1, h2, h3⟩ | ⟨g, h1, _⟩; exact .inl ⟨h1, List.map_eq_nil_iff.1 h2, h3⟩; exact .inr ⟨g, 0, h1⟩)); have H1 := Lib.hid hrs1; clear hown1 hrs1 hfm1; obtain ⟨fc1, fg1, hc1, hf1, hz1⟩ := bget hb1; (try simp at hz1)) | (go_at_call 56; (with_reducible refine (C21.out _ (by (repeat' (first | (with_reducible exact Below.refl _ _) | (with_reducible assumption) | (with_reducible refine Below.alloc ?_ ?_ _) | (with_reducible refine Below.setCell ?_ ?_ _) | (with_reducible refine Below.drew ?_) | (with_reducible refine below_drewN ?_ _) | (with_reducible refine below_via ?_ (by with_reducible assumption) ?_) | omega | (simp; done) | (simp; omega))))).mono ?_); rintro e w2 ⟨rfl, hb2⟩; obtain ⟨fc2, fg2, hc2, hf2, hz2⟩ := bget hb2; (try simp at hz2)) | (go_at_call 57; (with_reducible refine (holdTotal fl x.asset A1 c1 _ (by omega) HQ.out (H1.out.keep (by (repeat' (first | (with_reducible exact Below.refl _ _) | (with_reducible assumption) | (with_reducible refine Below.alloc ?_ ?_ _) | (with_reducible refine Below.setCell ?_ ?_ _) | (with_reducible refine Below.drew ?_) | (with_reducible refine below_drewN ?_ _) | (with_reducible refine below_via ?_ (by with_reducible assumption) ?_) | omega | (simp; done) | (simp; omega))))).rd (fun y hy => (HFG.out y hy).keep (by (repeat' (first | (with_reducible exact Below.refl _ _) | (with_reducible assumption) | (with_reducible refine Below.alloc ?_ ?_ _) | (with_reducible refine Below.setCell ?_ ?_ _) | (with_reducible refine Below.drew ?_) | (with_reducible refine below_drewN ?_ _) | (with_reducible refine below_via ?_ (by with_reducible assumption) ?_) | omega | (simp; done) | (simp; omega)))))).mono ?_); rw [HSM.out]; rintro e w3 ⟨rfl, hb3⟩; obtain ⟨fc3, fg3, hc3, hf3, hz3⟩ := bget hb3; (try simp at hz3)) | fail)
    go_region_held3 (fun w' => (w'.cell? ⟨w.heap.size, 0, none⟩ = some (.int .i64 u.acc) ∧ w'.cell? ⟨w.heap.size, 1, none⟩ = some (.int .i64 u.cli)) ∧ w'.cell? ⟨w.heap.size + 1, 0, none⟩ = some (.int .i64 x.asset) ∧ w'.cell? ⟨w3.heap.size, 0, none⟩ = some (.int .i64 (whi sm)) ∧ w'.cell? ⟨w3.heap.size, 1, none⟩ = some (.int .u64 (wlo sm))) (first | (simp [go_sem]; done) | (repeat' (first | (with_reducible assumption) | (with_reducible refine And.intro ?_ ?_) | (with_reducible refine cell_drew ?_) | (with_reducible refine cell_via (by with_reducible assumption) ?_ ?_) | (simp [*]; done) | (simp [go_sem]; done) | (with_reducible refine cell_alloc ?_ ?_) | (with_reducible refine cell_set_far ?_ ?_) | omega | (simp; omega)))) (first | (go_at_call 58; (with_reducible refine (holdIs fl A1 c1 _ (by omega) (H1.out.keep (by (repeat' (first | (with_reducible exact Below.refl _ _) | (with_reducible assumption) | (with_reducible refine Below.alloc ?_ ?_ _) | (with_reducible refine Below.setCell ?_ ?_ _) | (with_reducible refine Below.drew ?_) | (with_reducible refine below_drewN ?_ _) | (with_reducible refine below_via ?_ (by with_reducible assumption) ?_) | omega | (simp; done) | (simp; omega))))).rd (fun y hy => (HFG.out y hy).keep (by (repeat' (first | (with_reducible exact Below.refl _ _) | (with_reducible assumption) | (with_reducible refine Below.alloc ?_ ?_ _) | (with_reducible refine Below.setCell ?_ ?_ _) | (with_reducible refine Below.drew ?_) | (with_reducible refine below_drewN ?_ _) | (with_reducible refine below_via ?_ (by with_reducible assumption) ?_) | omega | (simp; done) | (simp; omega)))))).mono ?_); rw [HIB.out]; rintro e w4 ⟨rfl, hb4⟩; obtain ⟨fc4, fg4, hc4, hf4, hz4⟩ := bget hb4; (try simp at hz4)) | (go_at_call 59; (with_reducible refine (refHoldVIs fl A1 c1 _ (by omega) (H1.out.keep (by (repeat' (first | (with_reducible exact Below.refl _ _) | (with_reducible assumption) | (with_reducible refine Below.alloc ?_ ?_ _) | (with_reducible refine Below.setCell ?_ ?_ _) | (with_reducible refine Below.drew ?_) | (with_reducible refine below_drewN ?_ _) | (with_reducible refine below_via ?_ (by with_reducible assumption) ?_) | omega | (simp; done) | (simp; omega))))).rd (fun y hy => (HFG.out y hy).keep (by (repeat' (first | (with_reducible exact Below.refl _ _) | (with_reducible assumption) | (with_reducible refine Below.alloc ?_ ?_ _) | (with_reducible refine Below.setCell ?_ ?_ _) | (with_reducible refine Below.drew ?_) | (with_reducible refine below_drewN ?_ _) | (with_reducible refine below_via ?_ (by with_reducible assumption) ?_) | omega | (simp; done) | (simp; omega)))))).mono ?_); rw [HIB.out]; rintro e w5 ⟨rfl, hb5⟩; obtain ⟨fc5, fg5, hc5, hf5, hz5⟩ := bget hb5; (try simp at hz5)) | (go_at_call 61; (with_reducible refine (holdOfR fl u A1 c1 _ (by omega) (H1.out.keep (by (repeat' (first | (with_reducible exact Below.refl _ _) | (with_reducible assumption) | (with_reducible refine Below.alloc ?_ ?_ _) | (with_reducible refine Below.setCell ?_ ?_ _) | (with_reducible refine Below.drew ?_) | (with_reducible refine below_drewN ?_ _) | (with_reducible refine below_via ?_ (by with_reducible assumption) ?_) | omega | (simp; done) | (simp; omega))))).rd (fun y hy => (HFG.out y hy).keep (by (repeat' (first | (with_reducible exact Below.refl _ _) | (with_reducible assumption) | (with_reducible refine Below.alloc ?_ ?_ _) | (with_reducible refine Below.setCell ?_ ?_ _) | (with_reducible refine Below.drew ?_) | (with_reducible refine below_drewN ?_ _) | (with_reducible refine below_via ?_ (by with_reducible assumption) ?_) | omega | (simp; done) | (simp; omega)))))).mono ?_); rintro e w6 ⟨A6, c6, rfl, hrs6, hb6⟩; have H6 := Lib.hid hrs6.rd; clear hrs6; obtain ⟨fc6, fg6, hc6, hf6, hz6⟩ := bget hb6; (try simp at hz6)) | (go_at_call 62; (with_reducible refine (refHoldVOf fl u A1 c1 _ (by omega) (H1.out.keep (by (repeat' (first | (with_reducible exact Below.refl _ _) | (with_reducible assumption) | (with_reducible refine Below.alloc ?_ ?_ _) | (with_reducible refine Below.setCell ?_ ?_ _) | (with_reducible refine Below.drew ?_) | (with_reducible refine below_drewN ?_ _) | (with_reducible refine below_via ?_ (by with_reducible assumption) ?_) | omega | (simp; done) | (simp; omega))))).rd (fun y hy => (HFG.out y hy).keep (by (repeat' (first | (with_reducible exact Below.refl _ _) | (with_reducible assumption) | (with_reducible refine Below.alloc ?_ ?_ _) | (with_reducible refine Below.setCell ?_ ?_ _) | (with_reducible refine Below.drew ?_) | (with_reducible refine below_drewN ?_ _) | (with_reducible refine below_via ?_ (by with_reducible assumption) ?_) | omega | (simp; done) | (simp; omega)))))).mono ?_); rintro e w7 ⟨A7, c7, rfl, hrs7, hb7⟩; have H7 := Lib.hid hrs7.rd; clear hrs7; obtain ⟨fc7, fg7, hc7, hf7, hz7⟩ := bget hb7; (try simp at hz7)) | (go_at_call 60; (with_reducible refine (ref18Same (ofK (fl.map lgHoldV) u) A6 A7 c6 c7 _ (by have h1 := HOL.out.1; omega) (H6.out.keep (by (repeat' (first | (with_reducible exact Below.refl _ _) | (with_reducible assumption) | (with_reducible refine Below.alloc ?_ ?_ _) | (with_reducible refine Below.setCell ?_ ?_ _) | (with_reducible refine Below.drew ?_) | (with_reducible refine below_drewN ?_ _) | (with_reducible refine below_via ?_ (by with_reducible assumption) ?_) | omega | (simp; done) | (simp; omega))))) (H7.out.keep (by (repeat' (first | (with_reducible exact Below.refl _ _) | (with_reducible assumption) | (with_reducible refine Below.alloc ?_ ?_ _) | (with_reducible refine Below.setCell ?_ ?_ _) | (with_reducible refine Below.drew ?_) | (with_reducible refine below_drewN ?_ _) | (with_reducible refine below_via ?_ (by with_reducible assumption) ?_) | omega | (simp; done) | (simp; omega)))))).mono ?_); rintro e w8 ⟨rfl, hb8⟩; obtain ⟨fc8, fg8, hc8, hf8, hz8⟩ := bget hb8; (try simp at hz8)) | (go_at_call 21; (with_reducible refine (C7.out _).mono ?_); rintro e w9 ⟨s9, A9, l9, c9, rfl, hB9, hl9, hb9⟩; have HB9 := Lib.hid hB9; clear hB9; obtain ⟨fc9, fg9, hc9, hf9, hz9⟩ := bget hb9; (try simp at hz9)) | (go_at_call 63; (with_reducible refine (ref26Total fl x.asset A1 c1 _ (by omega) H40.out HQ.out (H1.out.keep (by (repeat' (first | (with_reducible exact Below.refl _ _) | (with_reducible assumption) | (with_reducible refine Below.alloc ?_ ?_ _) | (with_reducible refine Below.setCell ?_ ?_ _) | (with_reducible refine Below.drew ?_) | (with_reducible refine below_drewN ?_ _) | (with_reducible refine below_via ?_ (by with_reducible assumption) ?_) | omega | (simp; done) | (simp; omega))))).rd (fun y hy => (HFG.out y hy).keep (by (repeat' (first | (with_reducible exact Below.refl _ _) | (with_reducible assumption) | (with_reducible refine Below.alloc ?_ ?_ _) | (with_reducible refine Below.setCell ?_ ?_ _) | (with_reducible refine Below.drew ?_) | (with_reducible refine below_drewN ?_ _) | (with_reducible refine below_via ?_ (by with_reducible assumption) ?_) | omega | (simp; done) | (simp; omega)))))).mono ?_); rw [HSM.out]; rintro e w10 ⟨s10, A10, l10, c10, rfl, hB10, hl10, hb10⟩; have HB10 := Lib.hid hB10; clear hB10; obtain ⟨fc10, fg10, hc10, hf10, hz10⟩ := bget hb10; (try simp at hz10)) | (go_at_call 20; (with_reducible refine (bigCmp sm sm s9 s10 l9 l10 A9 A10 c9 c10 2000 _ (by omega) (by omega) (by omega) (HB9.out.keep (by (repeat' (first | (with_reducible exact Below.refl _ _) | (with_reducible assumption) | (with_reducible refine Below.alloc ?_ ?_ _) | (with_reducible refine Below.setCell ?_ ?_ _) | (with_reducible refine Below.drew ?_) | (with_reducible refine below_drewN ?_ _) | (with_reducible refine below_via ?_ (by with_reducible assumption) ?_) | omega | (simp; done) | (simp; omega))))) (HB10.out.keep (by (repeat' (first | (with_reducible exact Below.refl _ _) | (with_reducible assumption) | (with_reducible refine Below.alloc ?_ ?_ _) | (with_reducible refine Below.setCell ?_ ?_ _) | (with_reducible refine Below.drew ?_) | (with_reducible refine below_drewN ?_ _) | (with_reducible refine below_via ?_ (by with_reducible assumption) ?_) | omega | (simp; done) | (simp; omega)))))).mono ?_); rw [ord_selfH]; rintro e w11 ⟨rfl, hb11⟩; obtain ⟨fc11, fg11, hc11, hf11, hz11⟩ := bget hb11; (try simp at hz11)) | fail)
    all_goals
      go_wp2_with (first | (go_at_call 64; (with_reducible refine (holdPut fl u x A1 c1 _ (by omega) HQ.out hx (H1.out.keep (by (repeat' (first | (with_reducible exact Below.refl _ _) | (with_reducible assumption) | (with_reducible refine Below.alloc ?_ ?_ _) | (with_reducible refine Below.setCell ?_ ?_ _) | (with_reducible refine Below.drew ?_) | (with_reducible refine below_drewN ?_ _) | (with_reducible refine below_via ?_ (by with_reducible assumption) ?_) | omega | (simp; done) | (simp; omega))))).rd (fun y hy => (HFG.out y hy).keep (by (repeat' (first | (with_reducible exact Below.refl _ _) | (with_reducible assumption) | (with_reducible refine Below.alloc ?_ ?_ _) | (with_reducible refine Below.setCell ?_ ?_ _) | (with_reducible refine Below.drew ?_) | (with_reducible refine below_drewN ?_ _) | (with_reducible refine below_via ?_ (by with_reducible assumption) ?_) | omega | (simp; done) | (simp; omega)))))).mono ?_); intro e w12 hp12; obtain ⟨ys12, A12, c12, rfl, hlg12, hrs12, hfm12, hgd12, hb12⟩ := hold_rs hp12; have LG12 := Lib.hid hlg12; have H12 := Lib.hid hrs12; have F12 := Lib.hid hfm12; have G12 := Lib.hid hgd12; clear hp12 hlg12 hrs12 hfm12 hgd12; obtain ⟨fc12, fg12, hc12, hf12, hz12⟩ := bget hb12; (try simp at hz12)) | (go_at_call 65; (with_reducible refine (ref26Put fl u x A1 c1 _ (by omega) HQ.out hx (H1.out.keep (by (repeat' (first | (with_reducible exact Below.refl _ _) | (with_reducible assumption) | (with_reducible refine Below.alloc ?_ ?_ _) | (with_reducible refine Below.setCell ?_ ?_ _) | (with_reducible refine Below.drew ?_) | (with_reducible refine below_drewN ?_ _) | (with_reducible refine below_via ?_ (by with_reducible assumption) ?_) | omega | (simp; done) | (simp; omega))))) F1.out (fun y hy => (HFG.out y hy).keep (by (repeat' (first | (with_reducible exact Below.refl _ _) | (with_reducible assumption) | (with_reducible refine Below.alloc ?_ ?_ _) | (with_reducible refine Below.setCell ?_ ?_ _) | (with_reducible refine Below.drew ?_) | (with_reducible refine below_drewN ?_ _) | (with_reducible refine below_via ?_ (by with_reducible assumption) ?_) | omega | (simp; done) | (simp; omega)))))).mono ?_); intro e w13 hp13; obtain ⟨ys13, A13, c13, rfl, hlg13, hrs13, hfm13, hgd13, hb13⟩ := hold_rs hp13; have LG13 := Lib.hid hlg13; have H13 := Lib.hid hrs13; have F13 := Lib.hid hfm13; have G13 := Lib.hid hgd13; clear hp13 hlg13 hrs13 hfm13 hgd13; obtain ⟨fc13, fg13, hc13, hf13, hz13⟩ := bget hb13; (try simp at hz13)) | (go_at_call 66; (with_reducible refine (holdTake fl u x A1 c1 _ (by omega) HQ.out hx (H1.out.keep (by (repeat' (first | (with_reducible exact Below.refl _ _) | (with_reducible assumption) | (with_reducible refine Below.alloc ?_ ?_ _) | (with_reducible refine Below.setCell ?_ ?_ _) | (with_reducible refine Below.drew ?_) | (with_reducible refine below_drewN ?_ _) | (with_reducible refine below_via ?_ (by with_reducible assumption) ?_) | omega | (simp; done) | (simp; omega))))).rd (fun y hy => (HFG.out y hy).keep (by (repeat' (first | (with_reducible exact Below.refl _ _) | (with_reducible assumption) | (with_reducible refine Below.alloc ?_ ?_ _) | (with_reducible refine Below.setCell ?_ ?_ _) | (with_reducible refine Below.drew ?_) | (with_reducible refine below_drewN ?_ _) | (with_reducible refine below_via ?_ (by with_reducible assumption) ?_) | omega | (simp; done) | (simp; omega)))))).mono ?_); intro e w14 hp14; obtain ⟨ys14, A14, c14, rfl, hlg14, hrs14, hfm14, hgd14, hb14⟩ := hold_rs hp14; have LG14 := Lib.hid hlg14; have H14 := Lib.hid hrs14; have F14 := Lib.hid hfm14; have G14 := Lib.hid hgd14; clear hp14 hlg14 hrs14 hfm14 hgd14; obtain ⟨fc14, fg14, hc14, hf14, hz14⟩ := bget hb14; (try simp at hz14)) | (go_at_call 67; (with_reducible refine (ref26Take fl u x A1 c1 _ (by omega) HQ.out hx (H1.out.keep (by (repeat' (first | (with_reducible exact Below.refl _ _) | (with_reducible assumption) | (with_reducible refine Below.alloc ?_ ?_ _) | (with_reducible refine Below.setCell ?_ ?_ _) | (with_reducible refine Below.drew ?_) | (with_reducible refine below_drewN ?_ _) | (with_reducible refine below_via ?_ (by with_reducible assumption) ?_) | omega | (simp; done) | (simp; omega))))) F1.out (fun y hy => (HFG.out y hy).keep (by (repeat' (first | (with_reducible exact Below.refl _ _) | (with_reducible assumption) | (with_reducible refine Below.alloc ?_ ?_ _) | (with_reducible refine Below.setCell ?_ ?_ _) | (with_reducible refine Below.drew ?_) | (with_reducible refine below_drewN ?_ _) | (with_reducible refine below_via ?_ (by with_reducible assumption) ?_) | omega | (simp; done) | (simp; omega)))))).mono ?_); intro e w15 hp15; obtain ⟨ys15, A15, c15, rfl, hlg15, hrs15, hfm15, hgd15, hb15⟩ := hold_rs hp15; have LG15 := Lib.hid hlg15; have H15 := Lib.hid hrs15; have F15 := Lib.hid hfm15; have G15 := Lib.hid hgd15; clear hp15 hlg15 hrs15 hfm15 hgd15; obtain ⟨fc15, fg15, hc15, hf15, hz15⟩ := bget hb15; (try simp at hz15)) | (go_at_call 68; (with_reducible refine (holdHSet fl u m A1 B c1 d _ (by omega) (by omega) (H1.out.keep (by (repeat' (first | (with_reducible exact Below.refl _ _) | (with_reducible assumption) | (with_reducible refine Below.alloc ?_ ?_ _) | (with_reducible refine Below.setCell ?_ ?_ _) | (with_reducible refine Below.drew ?_) | (with_reducible refine below_drewN ?_ _) | (with_reducible refine below_via ?_ (by with_reducible assumption) ?_) | omega | (simp; done) | (simp; omega))))).rd (fun y hy => (HFG.out y hy).keep (by (repeat' (first | (with_reducible exact Below.refl _ _) | (with_reducible assumption) | (with_reducible refine Below.alloc ?_ ?_ _) | (with_reducible refine Below.setCell ?_ ?_ _) | (with_reducible refine Below.drew ?_) | (with_reducible refine below_drewN ?_ _) | (with_reducible refine below_via ?_ (by with_reducible assumption) ?_) | omega | (simp; done) | (simp; omega))))) (HRM.out _ (by (repeat' (first | (with_reducible exact Below.refl _ _) | (with_reducible assumption) | (with_reducible refine Below.alloc ?_ ?_ _) | (with_reducible refine Below.setCell ?_ ?_ _) | (with_reducible refine Below.drew ?_) | (with_reducible refine below_drewN ?_ _) | (with_reducible refine below_via ?_ (by with_reducible assumption) ?_) | omega | (simp; done) | (simp; omega)))))).mono ?_); intro e w16 hp16; obtain ⟨ys16, A16, c16, rfl, hlg16, hrs16, hfm16, hgd16, hb16⟩ := hold_rs hp16; have LG16 := Lib.hid hlg16; have H16 := Lib.hid hrs16; have F16 := Lib.hid hfm16; have G16 := Lib.hid hgd16; clear hp16 hlg16 hrs16 hfm16 hgd16; obtain ⟨fc16, fg16, hc16, hf16, hz16⟩ := bget hb16; (try simp at hz16)) | (go_at_call 69; (with_reducible refine (ref26Set fl u m A1 B c1 d _ (by omega) (by omega) (H1.out.keep (by (repeat' (first | (with_reducible exact Below.refl _ _) | (with_reducible assumption) | (with_reducible refine Below.alloc ?_ ?_ _) | (with_reducible refine Below.setCell ?_ ?_ _) | (with_reducible refine Below.drew ?_) | (with_reducible refine below_drewN ?_ _) | (with_reducible refine below_via ?_ (by with_reducible assumption) ?_) | omega | (simp; done) | (simp; omega))))) F1.out (fun y hy => (HFG.out y hy).keep (by (repeat' (first | (with_reducible exact Below.refl _ _) | (with_reducible assumption) | (with_reducible refine Below.alloc ?_ ?_ _) | (with_reducible refine Below.setCell ?_ ?_ _) | (with_reducible refine Below.drew ?_) | (with_reducible refine below_drewN ?_ _) | (with_reducible refine below_via ?_ (by with_reducible assumption) ?_) | omega | (simp; done) | (simp; omega))))) (HRM.out _ (by (repeat' (first | (with_reducible exact Below.refl _ _) | (with_reducible assumption) | (with_reducible refine Below.alloc ?_ ?_ _) | (with_reducible refine Below.setCell ?_ ?_ _) | (with_reducible refine Below.drew ?_) | (with_reducible refine below_drewN ?_ _) | (with_reducible refine below_via ?_ (by with_reducible assumption) ?_) | omega | (simp; done) | (simp; omega)))))).mono ?_); intro e w17 hp17; obtain ⟨ys17, A17, c17, rfl, hlg17, hrs17, hfm17, hgd17, hb17⟩ := hold_rs hp17; have LG17 := Lib.hid hlg17; have H17 := Lib.hid hrs17; have F17 := Lib.hid hfm17; have G17 := Lib.hid hgd17; clear hp17 hlg17 hrs17 hfm17 hgd17; obtain ⟨fc17, fg17, hc17, hf17, hz17⟩ := bget hb17; (try simp at hz17)) | (go_at_call 33; (with_reducible refine (refHoldVSame ys12 ys13 A12 A13 c12 c13 _ (LG12.out.trans LG13.out.symm) (by have h1 := congrArg List.length LG12.out; rw [List.length_map] at h1; omega) (H12.out.keep (by (repeat' (first | (with_reducible exact Below.refl _ _) | (with_reducible assumption) | (with_reducible refine Below.alloc ?_ ?_ _) | (with_reducible refine Below.setCell ?_ ?_ _) | (with_reducible refine Below.drew ?_) | (with_reducible refine below_drewN ?_ _) | (with_reducible refine below_via ?_ (by with_reducible assumption) ?_) | omega | (simp; done) | (simp; omega))))).rd (H13.out.keep (by (repeat' (first | (with_reducible exact Below.refl _ _) | (with_reducible assumption) | (with_reducible refine Below.alloc ?_ ?_ _) | (with_reducible refine Below.setCell ?_ ?_ _) | (with_reducible refine Below.drew ?_) | (with_reducible refine below_drewN ?_ _) | (with_reducible refine below_via ?_ (by with_reducible assumption) ?_) | omega | (simp; done) | (simp; omega))))).rd (fun y hy => (G12.out y hy).keep (by (repeat' (first | (with_reducible exact Below.refl _ _) | (with_reducible assumption) | (with_reducible refine Below.alloc ?_ ?_ _) | (with_reducible refine Below.setCell ?_ ?_ _) | (with_reducible refine Below.drew ?_) | (with_reducible refine below_drewN ?_ _) | (with_reducible refine below_via ?_ (by with_reducible assumption) ?_) | omega | (simp; done) | (simp; omega))))) (fun y hy => (G13.out y hy).keep (by (repeat' (first | (with_reducible exact Below.refl _ _) | (with_reducible assumption) | (with_reducible refine Below.alloc ?_ ?_ _) | (with_reducible refine Below.setCell ?_ ?_ _) | (with_reducible refine Below.drew ?_) | (with_reducible refine below_drewN ?_ _) | (with_reducible refine below_via ?_ (by with_reducible assumption) ?_) | omega | (simp; done) | (simp; omega)))))).mono ?_); rintro e w18 ⟨rfl, hb18⟩; obtain ⟨fc18, fg18, hc18, hf18, hz18⟩ := bget hb18; (try simp at hz18)) | (go_at_call 33; (with_reducible refine (refHoldVSame ys14 ys15 A14 A15 c14 c15 _ (LG14.out.trans LG15.out.symm) (by have h1 := congrArg List.length LG14.out; rw [List.length_map] at h1; omega) (H14.out.keep (by (repeat' (first | (with_reducible exact Below.refl _ _) | (with_reducible assumption) | (with_reducible refine Below.alloc ?_ ?_ _) | (with_reducible refine Below.setCell ?_ ?_ _) | (with_reducible refine Below.drew ?_) | (with_reducible refine below_drewN ?_ _) | (with_reducible refine below_via ?_ (by with_reducible assumption) ?_) | omega | (simp; done) | (simp; omega))))).rd (H15.out.keep (by (repeat' (first | (with_reducible exact Below.refl _ _) | (with_reducible assumption) | (with_reducible refine Below.alloc ?_ ?_ _) | (with_reducible refine Below.setCell ?_ ?_ _) | (with_reducible refine Below.drew ?_) | (with_reducible refine below_drewN ?_ _) | (with_reducible refine below_via ?_ (by with_reducible assumption) ?_) | omega | (simp; done) | (simp; omega))))).rd (fun y hy => (G14.out y hy).keep (by (repeat' (first | (with_reducible exact Below.refl _ _) | (with_reducible assumption) | (with_reducible refine Below.alloc ?_ ?_ _) | (with_reducible refine Below.setCell ?_ ?_ _) | (with_reducible refine Below.drew ?_) | (with_reducible refine below_drewN ?_ _) | (with_reducible refine below_via ?_ (by with_reducible assumption) ?_) | omega | (simp; done) | (simp; omega))))) (fun y hy => (G15.out y hy).keep (by (repeat' (first | (with_reducible exact Below.refl _ _) | (with_reducible assumption) | (with_reducible refine Below.alloc ?_ ?_ _) | (with_reducible refine Below.setCell ?_ ?_ _) | (with_reducible refine Below.drew ?_) | (with_reducible refine below_drewN ?_ _) | (with_reducible refine below_via ?_ (by with_reducible assumption) ?_) | omega | (simp; done) | (simp; omega)))))).mono ?_); rintro e w19 ⟨rfl, hb19⟩; obtain ⟨fc19, fg19, hc19, hf19, hz19⟩ := bget hb19; (try simp at hz19)) | (go_at_call 33; (with_reducible refine (refHoldVSame ys16 ys17 A16 A17 c16 c17 _ (LG16.out.trans LG17.out.symm) (by have h1 := congrArg List.length LG16.out; rw [List.length_map] at h1; omega) (H16.out.keep (by (repeat' (first | (with_reducible exact Below.refl _ _) | (with_reducible assumption) | (with_reducible refine Below.alloc ?_ ?_ _) | (with_reducible refine Below.setCell ?_ ?_ _) | (with_reducible refine Below.drew ?_) | (with_reducible refine below_drewN ?_ _) | (with_reducible refine below_via ?_ (by with_reducible assumption) ?_) | omega | (simp; done) | (simp; omega))))).rd (H17.out.keep (by (repeat' (first | (with_reducible exact Below.refl _ _) | (with_reducible assumption) | (with_reducible refine Below.alloc ?_ ?_ _) | (with_reducible refine Below.setCell ?_ ?_ _) | (with_reducible refine Below.drew ?_) | (with_reducible refine below_drewN ?_ _) | (with_reducible refine below_via ?_ (by with_reducible assumption) ?_) | omega | (simp; done) | (simp; omega))))).rd (fun y hy => (G16.out y hy).keep (by (repeat' (first | (with_reducible exact Below.refl _ _) | (with_reducible assumption) | (with_reducible refine Below.alloc ?_ ?_ _) | (with_reducible refine Below.setCell ?_ ?_ _) | (with_reducible refine Below.drew ?_) | (with_reducible refine below_drewN ?_ _) | (with_reducible refine below_via ?_ (by with_reducible assumption) ?_) | omega | (simp; done) | (simp; omega))))) (fun y hy => (G17.out y hy).keep (by (repeat' (first | (with_reducible exact Below.refl _ _) | (with_reducible assumption) | (with_reducible refine Below.alloc ?_ ?_ _) | (with_reducible refine Below.setCell ?_ ?_ _) | (with_reducible refine Below.drew ?_) | (with_reducible refine below_drewN ?_ _) | (with_reducible refine below_via ?_ (by with_reducible assumption) ?_) | omega | (simp; done) | (simp; omega)))))).mono ?_); rintro e w20 ⟨rfl, hb20⟩; obtain ⟨fc20, fg20, hc20, hf20, hz20⟩ := bget hb20; (try simp at hz20)) | (go_at_call 34; (with_reducible refine (law26lives _).mono ?_); rintro e w21 ⟨rfl, hb21⟩; obtain ⟨fc21, fg21, hc21, hf21, hz21⟩ := bget hb21; (try simp at hz21)) | fail)
      go_ret
      exact ⟨rfl, by (repeat' (first | (with_reducible exact Below.refl _ _) | (with_reducible assumption) | (with_reducible refine Below.alloc ?_ ?_ _) | (with_reducible refine Below.setCell ?_ ?_ _) | (with_reducible refine Below.drew ?_) | (with_reducible refine below_drewN ?_ _) | (with_reducible refine below_via ?_ (by with_reducible assumption) ?_) | omega | (simp; done) | (simp; omega)))⟩
theorem holdPutsW (l0 : List HoldV) (u : Un) (x : Lot) (m0 : List Lot) (A B : Option Addr) (c d : Nat) (w : World) (hl : l0.length ≤ maxLen) (hx : In64 x.qty) (hr : Rd w A 3 (l0.map encHoldV)) (hg : ∀ x ∈ l0, Rs w 3 (x.lots.val.map encLot) x.lots.A x.lots.c) (h64 : ∀ x ∈ l0, ∀ z ∈ x.lots.val, In64 z.qty) (hrm : Rs w 3 (m0.map encLot) B d) :
    Calls Try.prog 10 #[.slice A l0.length c, .agg #[.int .i64 u.acc, .int .i64 u.cli], .agg #[.int .i64 x.asset, .int .i64 x.tag, .int .i64 x.qty], .slice B m0.length d] w fun e w' => e = .returned (.bool true) ∧ Below w.heap.size w w' := by
  have hf := few_h hg h64
  have hm20 : Rs w 3 ((m0.take 20).map encLot) B d := by
    have h := hrm.take 20
    rw [← List.map_take] at h
    exact h
  exact holdPutsAt l0 ((l0.take 10).map fewHoldV) u x m0 (m0.take 20) A B c d w hf.len (by rw [List.length_take]; omega) hf.all40 hf.lq hx hf.good (fun W h => hm20.keep h)
    (fun W h => law26Few l0 A c W hl (hr.keep h) (fun x hx => (hg x hx).keep h))
    (fun W h => law18Few m0 B d W (hrm.keep h))
end Go.Proofs.Ytiidplinmempcaa
