/- Digits in tens. Plain. -/
import Derived.Lib.ItoaNum
namespace Go.Proofs.Ytpjehhkmdndcmaa
/-- The digits of m as bytes, the lowest first. -/
def dgs : Nat → Nat → List Int
  | 0, _ => []
  | f + 1, m => (48 + m % 10 : Nat) :: (if m / 10 = 0 then [] else dgs f (m / 10))
/-- What is still to come, behind o. -/
def left (o : List Int) (f m : Nat) : List Int := if o = [] ∨ m ≠ 0 then dgs f m else []
theorem left_start (m : Nat) : [] ++ left [] 40 m = dgs 40 m := by simp [left]
theorem left_step {o : List Int} {f m : Nat} (hf : f + o.length = 40) (hm : m < 10 ^ f) (hgo : o = [] ∨ m ≠ 0) :
    ∃ g, f = g + 1 ∧ o ++ left o f m = (o ++ [((48 + m % 10 : Nat) : Int)]) ++ left (o ++ [((48 + m % 10 : Nat) : Int)]) g (m / 10) ∧ m / 10 < 10 ^ g := by
  cases f with
  | zero =>
    exfalso
    rcases hgo with h | h
    · subst h; simp at hf
    · simp at hm; omega
  | succ g =>
    refine ⟨g, rfl, ?_, ?_⟩
    · unfold left
      rw [if_pos hgo]
      simp only [dgs, List.append_assoc, List.cons_append, List.nil_append]
      by_cases h : m / 10 = 0
      · simp [h]
      · simp [h]
    · rw [Nat.pow_succ] at hm
      exact Nat.div_lt_of_lt_mul (by omega)
theorem left_end {o : List Int} {f m : Nat} (hgo : ¬ (o = [] ∨ m ≠ 0)) : o ++ left o f m = o := by unfold left; rw [if_neg hgo, List.append_nil]
theorem dgs_byte : ∀ (f m : Nat), ∀ b ∈ dgs f m, 0 ≤ b ∧ b ≤ 255
  | 0, _, b, hb => by simp [dgs] at hb
  | f + 1, m, b, hb => by
    simp only [dgs, List.mem_cons] at hb
    rcases hb with h | h
    · subst h; omega
    · by_cases e : m / 10 = 0
      · simp [e] at h
      · rw [if_neg e] at h; exact dgs_byte f _ b h
theorem dgs_len : ∀ (f m : Nat), (dgs f m).length ≤ f
  | 0, _ => by simp [dgs]
  | f + 1, m => by
    simp only [dgs, List.length_cons]
    by_cases e : m / 10 = 0
    · simp [e]
    · rw [if_neg e]; have := dgs_len f (m / 10); omega
/-- The text of n, the last byte first. -/
def back (n : Int) : List Int := dgs 40 n.natAbs ++ (if n < 0 then [45] else [])
theorem back_byte (n : Int) : ∀ b ∈ back n, 0 ≤ b ∧ b ≤ 255 := by
  intro b hb
  unfold back at hb
  rw [List.mem_append] at hb
  rcases hb with h | h
  · exact dgs_byte _ _ _ h
  · by_cases e : n < 0
    · rw [if_pos e] at h; simp at h; subst h; omega
    · rw [if_neg e] at h; simp at h
theorem back_len (n : Int) : (back n).length ≤ 41 := by
  unfold back
  have := dgs_len 40 n.natAbs
  rw [List.length_append]
  split <;> simp <;> omega
/-- Bytes as a string. -/
def str (l : List Int) : ByteArray := ⟨(l.map fun b => UInt8.ofNat b.toNat).toArray⟩
def textB (n : Int) : ByteArray := str (back n).reverse
theorem str_append (a b : List Int) : str a ++ str b = str (a ++ b) := by
  apply ByteArray.ext
  simp [str, ByteArray.data_append]
theorem str_cons (a : Int) (b : List Int) : str [a] ++ str b = str (a :: b) := str_append [a] b
theorem u8_back {b : Int} (h0 : 0 ≤ b) (h1 : b ≤ 255) : ((UInt8.ofNat b.toNat).toNat : Int) = b := by
  rw [UInt8.toNat_ofNat']; omega
/-- i rounds of turning a list round: the ends are turned, the middle is not. -/
def turned (l : List Int) (i : Nat) : List Int := (List.range l.length).map fun x => if x < i ∨ l.length - 1 - i < x then l.getD (l.length - 1 - x) 0 else l.getD x 0
theorem turned_len (l : List Int) (i : Nat) : (turned l i).length = l.length := by simp [turned]
theorem turned_at (l : List Int) (i x : Nat) (h : x < l.length) : (turned l i)[x]? = some (if x < i ∨ l.length - 1 - i < x then l.getD (l.length - 1 - x) 0 else l.getD x 0) := by
  simp [turned, h]
theorem turned_zero (l : List Int) : turned l 0 = l := by
  apply List.ext_getElem?
  intro x
  by_cases h : x < l.length
  · rw [turned_at l 0 x h, if_neg (by omega)]
    simp [h]
  · rw [List.getElem?_eq_none (by rw [turned_len]; omega), List.getElem?_eq_none (by omega)]
theorem turned_end (l : List Int) (i : Nat) (h : l.length ≤ 2 * i + 1) : turned l i = l.reverse := by
  apply List.ext_getElem?
  intro x
  by_cases hx : x < l.length
  · rw [turned_at l i x hx, List.getElem?_reverse hx]
    split
    · simp [show l.length - 1 - x < l.length from by omega]
    · rw [show l.length - 1 - x = x from by omega]; simp [hx]
  · rw [List.getElem?_eq_none (by rw [turned_len]; omega), List.getElem?_eq_none (by simp; omega)]
theorem turned_step (l : List Int) (i : Nat) (h : 2 * i + 1 < l.length) : turned l (i + 1) = ((turned l i).set i (l.getD (l.length - 1 - i) 0)).set (l.length - 1 - i) (l.getD i 0) := by
  apply List.ext_getElem?
  intro x
  by_cases hx : x < l.length
  · rw [turned_at l (i + 1) x hx, List.getElem?_set, List.getElem?_set, List.length_set, turned_len, turned_at l i x hx]
    by_cases e1 : l.length - 1 - i = x
    · rw [if_pos e1, if_pos (by omega), if_pos (by omega), show l.length - 1 - x = i from by omega]
    · rw [if_neg e1]
      by_cases e2 : i = x
      · rw [if_pos e2, if_pos (by omega), if_pos (by omega), e2]
      · rw [if_neg e2]
        congr 1
        by_cases e3 : x < i ∨ l.length - 1 - i < x
        · rw [if_pos e3, if_pos (by omega)]
        · rw [if_neg e3, if_neg (by omega)]
  · rw [List.getElem?_eq_none (by rw [turned_len]; omega), List.getElem?_eq_none (by rw [List.length_set, List.length_set, turned_len]; omega)]
theorem turned_get (l : List Int) (i : Nat) (h : 2 * i + 1 < l.length) : (turned l i)[i]? = some (l.getD i 0) ∧ (turned l i)[l.length - 1 - i]? = some (l.getD (l.length - 1 - i) 0) := by
  rw [turned_at l i i (by omega), turned_at l i _ (by omega), if_neg (by omega), if_neg (by omega)]
  exact ⟨rfl, rfl⟩
theorem textB_12 : textB (-12) = ⟨#[45, 49, 50]⟩ := by decide +kernel
end Go.Proofs.Ytpjehhkmdndcmaa
