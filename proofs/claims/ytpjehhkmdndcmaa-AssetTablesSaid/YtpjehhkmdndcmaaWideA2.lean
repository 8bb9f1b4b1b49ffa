/- wide.Add of two numbers in a row built on the spot. -/
import Derived.Test.YtpjehhkmdndcmaaWide6
namespace Go.Proofs.Ytpjehhkmdndcmaa
open Go.RowKit
theorem rd_wide2 {w : World} {g : Nat} {x y : Int} (hg : g < w.heap.size) (h0 : w.cell? ⟨g, 0, none⟩ = some (.int .i64 (whi x))) (h1 : w.cell? ⟨g, 1, none⟩ = some (.int .u64 (wlo x))) (h2 : w.cell? ⟨g, 2, none⟩ = some (.int .i64 (whi y))) (h3 : w.cell? ⟨g, 3, none⟩ = some (.int .u64 (wlo y))) : Rd w (some ⟨g, 0, none⟩) 2 ([x, y].map encW) := by
  intro i r hr
  match i, hr with
  | 0, hr =>
    simp at hr
    subst hr
    refine ⟨g, 0, rfl, hg, fun j v hv => ?_⟩
    match j, hv with
    | 0, hv => simp [encW] at hv; subst hv; simpa using h0
    | 1, hv => simp [encW] at hv; subst hv; simpa using h1
  | 1, hr =>
    simp at hr
    subst hr
    refine ⟨g, 0, rfl, hg, fun j v hv => ?_⟩
    match j, hv with
    | 0, hv => simp [encW] at hv; subst hv; simpa using h2
    | 1, hv => simp [encW] at hv; subst hv; simpa using h3
theorem wideAdd2 (x y s : Int) (g : Nat) (w : World) (hx : In128 x) (hy : In128 y) (hs : x + y = s) (hs1 : In128 s) (hg : g < w.heap.size) (h0 : w.cell? ⟨g, 0, none⟩ = some (.int .i64 (whi x))) (h1 : w.cell? ⟨g, 1, none⟩ = some (.int .u64 (wlo x))) (h2 : w.cell? ⟨g, 2, none⟩ = some (.int .i64 (whi y))) (h3 : w.cell? ⟨g, 3, none⟩ = some (.int .u64 (wlo y))) :
    Calls Try.prog 99 #[.slice (some ⟨g, 0, none⟩) 2 2] w fun e w' => e = .returned (.tuple #[(.agg #[.int .i64 (whi (s)), .int .u64 (wlo (s))]), .int .i64 0]) ∧ Below w.heap.size w w' := by
  have hsum : [x, y].sum = s := by simp [hs]
  have h := wideAddYes [x, y] (some ⟨g, 0, none⟩) 2 w (by simp) (by simp [hx, hy]) (rd_wide2 hg h0 h1 h2 h3) (by rw [hsum]; exact hs1)
  rw [hsum] at h
  exact h
end Go.Proofs.Ytpjehhkmdndcmaa
