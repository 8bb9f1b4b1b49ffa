/- Joined: Vec4. -/
import Derived.Test.YtiidplinmempcaaJz4
import Derived.Outline
/- Contracts of vec.Gross, With, Same. -/
namespace Go.Proofs.Ytiidplinmempcaa
open Go.RowKit
def absL (l : List Leg) : List Int := l.map fun x => iabs x.qty
def absF (l : List Leg) : Bool := l.all fun x => in64 (iabs x.qty)
def grossC (l : List Leg) : Int := if isV l then (if absF l then (if in64 (absL l).sum then 0 else 7) else 7) else 3
def grossN (l : List Leg) : Int := if isV l then (if absF l then (if in64 (absL l).sum then (absL l).sum else 0) else 0) else 0
theorem rss_two {α : Type} {k : Nat} {enc : α → List Value} {W : World} {g : Nat} {v1 v2 : Value} {l1 l2 : List α} (h1 : IsSl k enc W v1 l1) (h2 : IsSl k enc W v2 l2) (hg : g < W.heap.size) (c1 : W.cell? ⟨g, 0, none⟩ = some v1) (c2 : W.cell? ⟨g, 1, none⟩ = some v2) : RsS k enc W [l1, l2] (some ⟨g, 0, none⟩) 2 := by
  refine ⟨⟨[v1, v2], ⟨rfl, fun i a b ha hb => ?_⟩, ⟨fun i r hr => ⟨g, 0, rfl, hg, fun j v hv => ?_⟩, by simp, by unfold maxLen; omega, fun e => by cases e⟩⟩⟩
  · match i with
    | 0 => simp at ha hb; subst ha hb; exact h1
    | 1 => simp at ha hb; subst ha hb; exact h2
    | i + 2 => simp at ha
  · match i with
    | 0 =>
      simp [enc1] at hr; subst hr
      match j with
      | 0 => simp at hv; subst hv; simpa using c1
      | j + 1 => simp at hv
    | 1 =>
      simp [enc1] at hr; subst hr
      match j with
      | 0 => simp at hv; subst hv; simpa using c2
      | j + 1 => simp at hv
    | i + 2 => simp at hr
theorem vecAdd2 (l1 l2 : List Leg) (g : Nat) (w : World) (v1 v2 : Value) (h1 : l1.length ≤ 1099511627776) (h2 : l2.length ≤ 1099511627776) (q1 : Legs64 l1) (q2 : Legs64 l2) (r1 : IsSl 2 encLeg w v1 l1) (r2 : IsSl 2 encLeg w v2 l2) (hg : g < w.heap.size) (c1 : w.cell? ⟨g, 0, none⟩ = some v1) (c2 : w.cell? ⟨g, 1, none⟩ = some v2) :
    Calls Try.prog 96 #[.slice (some ⟨g, 0, none⟩) 2 2] w (LegsPost w (addC [l1, l2]) (addL [l1, l2])) :=
  vecAdd [l1, l2] (some ⟨g, 0, none⟩) 2 w ⟨by simp, by simp [h1, h2]⟩ (by simp [q1, q2]) (rss_two r1 r2 hg c1 c2)
theorem isl_one {w : World} (g : Nat) (x : Leg) (hg : g < w.heap.size) (c0 : w.cell? ⟨g, 0, none⟩ = some (.int .i64 x.inst)) (c1 : w.cell? ⟨g, 1, none⟩ = some (.int .i64 x.qty)) : IsSl 2 encLeg w (.slice (some ⟨g, 0, none⟩) 1 1) [x] := by
  refine ⟨some ⟨g, 0, none⟩, 1, rfl, ⟨fun i r hr => ⟨g, 0, rfl, hg, fun j v hv => ?_⟩, by simp, by unfold maxLen; omega, fun e => by cases e⟩⟩
  match i with
  | 0 =>
    simp [encLeg] at hr; subst hr
    match j with
    | 0 => simp at hv; subst hv; simpa using c0
    | 1 => simp at hv; subst hv; simpa using c1
    | j + 2 => simp at hv
  | i + 1 => simp at hr
def withLs (l : List Leg) (x : Leg) : List (List Leg) := if x.qty = 0 then [l, []] else [l, [x]]
def withC (l : List Leg) (x : Leg) : Int := if x.qty = 0 ∧ (x.inst < 1 ∨ 8 < x.inst) then 3 else addC (withLs l x)
def withL (l : List Leg) (x : Leg) : List Leg := if x.qty = 0 ∧ (x.inst < 1 ∨ 8 < x.inst) then [] else addL (withLs l x)
end Go.Proofs.Ytiidplinmempcaa
