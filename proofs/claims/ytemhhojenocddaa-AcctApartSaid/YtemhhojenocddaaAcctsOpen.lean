/- Rows of accounts handed in. -/
import Derived.Test.YtemhhojenocddaaAcctOpen
namespace Go.Proofs.Ytemhhojenocddaa
open Go.ChangeShapes Go.WideShapes Go.ChangeAt Go.RowKit Go.Joins
set_option maxRecDepth 100000 in
theorem accts_open {H : Type} {enc : TypeId × Value → H} {W : World} {spare : Nat → Bool} {held : Bool} {base : Nat} {r : Reach} {v : Value} {d : DataW H} {p : List MemPlace}
    (hv : Value.okWide Try.prog W r base 42 v) (h : DataW.Trod enc Try.prog W 0 spare held 42 v d p) :
    ∃ (l : List AcctV) (A : Option Addr) (c : Nat), v = .slice A l.length c ∧ l.length ≤ maxLen ∧ Rd W A 4 (l.map encAcctV) ∧ ∀ x ∈ l, GoodA W x := by
  obtain ⟨a0, len0, cap0, rfl⟩ := okWide_slice Try.underlying42 hv
  obtain ⟨fuel, hf⟩ := h
  obtain ⟨ls, rows, A, c, h1, h2, h3⟩ := slice_rel (R := fun r (x : AcctV) => r = encAcctV x ∧ GoodA W x) Try.underlying42 (k := 4) (by kernel_rfl) (fun cs n y hlen hy => by
    obtain ⟨x, rfl, hrs⟩ := Acct_cells cs n y hlen hy
    exact ⟨x, ⟨rfl, hrs⟩, rfl⟩) (by omega) hf
  simp [Value.cells] at h1
  obtain ⟨rfl, rfl, rfl⟩ := h1
  have hrows : rows = ls.map encAcctV := by
    apply List.ext_getElem?
    intro i
    rw [List.getElem?_map]
    rcases Nat.lt_or_ge i ls.length with hi | hi
    · obtain ⟨r, hr, hq, _⟩ := h2.get hi
      rw [hr, List.getElem?_eq_getElem hi, hq]; rfl
    · rw [List.getElem?_eq_none hi, List.getElem?_eq_none (by rw [h2.len]; omega)]; rfl
  have hcap := h3.cap
  have hroom := h3.room
  rw [h2.len] at hcap
  refine ⟨ls, _, _, rfl, by omega, by rw [← hrows]; exact h3.rd, fun x hx => ?_⟩
  obtain ⟨i, hi, rfl⟩ := List.mem_iff_getElem.1 hx
  obtain ⟨r, _, _, hg⟩ := h2.get hi
  exact hg
end Go.Proofs.Ytemhhojenocddaa
