/- Assets: the type. -/
import Derived.Test.YtpjehhkmdndcmaaOwn
import Derived.Test.YtpjehhkmdndcmaaNum
namespace Go.Proofs.Ytpjehhkmdndcmaa
open Go.RowKit
structure Asset where
  id : Int
  price : Int
  hair : Int
  deriving DecidableEq
def encAsset (x : Asset) : List Value := [.int .i64 x.id, .int .i64 x.price, .int .i64 x.hair]
def okAsset (x : Asset) : Prop := In64 x.id ∧ In64 x.price ∧ In64 x.hair
theorem rowsAsset (l : List Asset) : ∀ r ∈ l.map encAsset, r.length = 3 ∧ ∀ u ∈ r, u.oneCell' = true := by
  intro r hr
  obtain ⟨m, _, rfl⟩ := List.mem_map.1 hr
  refine ⟨rfl, ?_⟩
  simp only [encAsset, List.mem_cons, List.not_mem_nil, or_false, forall_eq_or_imp, forall_eq]
  exact ⟨rfl, rfl, rfl⟩
theorem encAsset_inj {x y : Asset} (h : encAsset x = encAsset y) : x = y := by
  unfold encAsset at h
  simp only [List.cons.injEq, Value.int.injEq, and_true, true_and] at h
  obtain ⟨h0, h1, h2⟩ := h
  obtain ⟨xid, xprice, xhair⟩ := x
  obtain ⟨yid, yprice, yhair⟩ := y
  simp only at h0 h1 h2
  subst h0 h1 h2
  rfl
theorem neqAsset {x y : Asset} (h : x ≠ y) : ((x.id == y.id) = false) ∨ ((x.price == y.price) = false) ∨ ((x.hair == y.hair) = false) := by
  cases h0 : (x.id == y.id)
  · simp
  cases h1 : (x.price == y.price)
  · simp
  cases h2 : (x.hair == y.hair)
  · simp
  · exfalso
    apply h
    obtain ⟨xid, xprice, xhair⟩ := x
    obtain ⟨yid, yprice, yhair⟩ := y
    simp_all
/-- Whether an asset may be. -/
def okA (x : Asset) : Prop := 1 ≤ x.id ∧ x.id ≤ 4 ∧ 0 ≤ x.price ∧ x.price ≤ 2147483647 ∧ 0 ≤ x.hair ∧ x.hair ≤ 10000
instance (x : Asset) : Decidable (okA x) := by unfold okA; infer_instance
/-- What counts of so many. -/
def countA (x : Asset) (q : Int) : Int := q * x.price * (10000 - x.hair) / 10000
/-- Parts counted one by one count as much as the whole, or one less. -/
theorem floor_parts (m a b d : Int) (hd : 0 < d) : a * m / d + b * m / d ≤ (a + b) * m / d ∧ (a + b) * m / d - a * m / d - b * m / d ≤ 1 := by
  have e1 := Int.mul_ediv_add_emod (a * m) d
  have e2 := Int.mul_ediv_add_emod (b * m) d
  have e3 := Int.mul_ediv_add_emod ((a + b) * m) d
  have r1 := Int.emod_nonneg (a * m) (show d ≠ 0 by omega)
  have r2 := Int.emod_nonneg (b * m) (show d ≠ 0 by omega)
  have r3 := Int.emod_nonneg ((a + b) * m) (show d ≠ 0 by omega)
  have s1 := Int.emod_lt_of_pos (a * m) hd
  have s2 := Int.emod_lt_of_pos (b * m) hd
  have s3 := Int.emod_lt_of_pos ((a + b) * m) hd
  have hs : (a + b) * m = a * m + b * m := Int.add_mul a b m
  generalize a * m / d = p at *
  generalize b * m / d = q at *
  generalize (a + b) * m / d = t at *
  have h1 : d * (t - p - q) < d * 2 := by rw [Int.mul_sub, Int.mul_sub]; omega
  have h2 : d * (-1) < d * (t - p - q) := by rw [Int.mul_sub, Int.mul_sub]; omega
  have h3 := Int.lt_of_mul_lt_mul_left h1 (by omega)
  have h4 := Int.lt_of_mul_lt_mul_left h2 (by omega)
  omega
theorem count_le {x : Asset} (h : okA x) {q : Int} (hq : 0 ≤ q) : 0 ≤ countA x q ∧ countA x q ≤ q * x.price := by
  obtain ⟨_, _, h1, _, h2, h3⟩ := h
  unfold countA
  have hw : 0 ≤ q * x.price := Int.mul_nonneg hq h1
  have hk : q * x.price * (10000 - x.hair) ≤ q * x.price * 10000 := Int.mul_le_mul_of_nonneg_left (by omega) hw
  have hk0 : 0 ≤ q * x.price * (10000 - x.hair) := Int.mul_nonneg hw (by omega)
  generalize q * x.price * (10000 - x.hair) = t at *
  generalize q * x.price = v at *
  omega
theorem count_mono {x : Asset} (h : okA x) {q r : Int} (hqr : q ≤ r) : countA x q ≤ countA x r := by
  obtain ⟨_, _, h1, _, h2, h3⟩ := h
  unfold countA
  have hk : q * x.price ≤ r * x.price := Int.mul_le_mul_of_nonneg_right hqr h1
  have hk2 : q * x.price * (10000 - x.hair) ≤ r * x.price * (10000 - x.hair) := Int.mul_le_mul_of_nonneg_right hk (by omega)
  generalize q * x.price * (10000 - x.hair) = t at *
  generalize r * x.price * (10000 - x.hair) = u at *
  omega
theorem count_parts (x : Asset) (a b : Int) : countA x a + countA x b ≤ countA x (a + b) ∧ countA x (a + b) - countA x a - countA x b ≤ 1 := by
  have h := floor_parts (x.price * (10000 - x.hair)) a b 10000 (by omega)
  unfold countA
  rw [Int.mul_assoc, Int.mul_assoc, Int.mul_assoc]
  exact h
/-- The least whose worth is not below. -/
theorem up_worth {a p : Int} (hp : 0 < p) : a ≤ (if 0 < a % p then a / p + 1 else a / p) * p ∧ (if 0 < a % p then a / p + 1 else a / p) * p - p < a := by
  have e := Int.mul_ediv_add_emod a p
  have r0 := Int.emod_nonneg a (show p ≠ 0 by omega)
  have r1 := Int.emod_lt_of_pos a hp
  rw [Int.mul_comm] at e
  split
  · rw [Int.add_mul]; omega
  · omega
end Go.Proofs.Ytpjehhkmdndcmaa
