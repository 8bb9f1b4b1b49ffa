/- Joined. -/
import Derived.Test.YtalgfpegaobacaaGreatDoorQz24
import Derived.Test.YtalgfpegaobacaaGreatDoorQz28
import Derived.Deep.CutBlock
namespace Go.Proofs.YtalgfpegaobacaaGreatDoor
set_option linter.all false
set_option maxHeartbeats 64000000
set_option maxRecDepth 100000
open Go.RowKit
open Lib (hid)
/- Layer 36's law ReportOnce: its walk. -/
theorem isF_pair : ∀ {l : List Leg} {a : Int} (_ : isF a l = true), l.Pairwise (fun x y => x.inst ≠ y.inst) ∧ ∀ x ∈ l, a < x.inst
 | [], _, _ => ⟨List.Pairwise.nil, by simp⟩
 | x :: t, a, h => by
  simp only [isF, Bool.and_eq_true, decide_eq_true_eq] at h
  have ih := isF_pair h.2
  refine ⟨List.pairwise_cons.2 ⟨fun y hy e => ?_, ih.1⟩, fun y hy => ?_⟩
  ·have := ih.2 y hy; omega
  ·rcases List.mem_cons.1 hy with rfl | hy
   ·exact h.1.1.1
   ·have := ih.2 y hy; omega
theorem ofK_pair {α : Type} {ok : List α → Bool} {P : α → α → Prop} {l : List (Row α)} (h : isK ok l = true) (hp : ∀ r, ok r = true → r.Pairwise P) (u : Un) : (ofK l u).Pairwise P := by
 rcases ofK_ok h u with h1 | h1
 ·rw [h1]; exact List.Pairwise.nil
 ·exact hp _ h1
theorem LedOk.led {s : StV} (h : LedOk s) : LedgF (repL s) where
 bk := fun u => ofK_pair (show isK isV (s.bk.val.map lgPosV) = true from h.bk) (fun r hr => (isF_pair hr).1) u
 sale := fun u => ofK_pair (show isK isV (s.sale.val.map lgPosV) = true from h.sale) (fun r hr => (isF_pair hr).1) u
 ho := fun u => ofK_pair (show isK isL (s.ho.val.map lgHoldV) = true from h.ho) (fun r hr => (isL_sort hr).1.imp (fun {x y} hxy e => by
  rw [ltL_iff] at hxy
  omega)) u
 mem := h.mem.all.1
 acs := List.pairwise_map.2 h.acs.all.1
 ok := fun a ha => by
  obtain ⟨x, hx, rfl⟩ := List.mem_map.1 ha
  have := h.acs.all.2 x hx
  simp only [Bool.and_eq_true] at this
  exact of_decide_eq_true this.1
 there := fun a ha => by
  obtain ⟨x, hx, rfl⟩ := List.mem_map.1 ha
  have := h.acs.all.2 x hx
  simp only [Bool.and_eq_true] at this
  have h2 := this.2
  unfold findMb at h2
  cases hf : s.mem.val.find? (fun m => m.id == x.member) with
  | none => rw [hf] at h2; cases h2
  | some m => exact ⟨m, List.mem_of_find?_eq_some hf, (show m.id = x.member by simpa using List.find?_some hf)⟩
theorem LedOk.oka {s : StV} (h : LedOk s) : ∀ a ∈ s.ats.val, okA a := fun a ha => of_decide_eq_true (h.ats.all.2 a ha)
end Go.Proofs.YtalgfpegaobacaaGreatDoor
