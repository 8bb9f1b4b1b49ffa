/- Joined: HoN. -/
import Derived.Test.YtiidplinmempcaaJa13
/- Layer 26's laws: HoldKeeps (DRAFT, not built). -/
namespace Go.Proofs.Ytiidplinmempcaa
open Go.RowKit
theorem tot_same {l ys : List HoldV} {i : Int} (h : sumK (fun r => sumL r i) (ys.map lgHoldV) = sumK (fun r => sumL r i) (l.map lgHoldV)) : (totsH i ys).sum = (totsH i l).sum := by
  rw [totsH_sum, totsH_sum]; exact h
theorem LQ.move {L : List (Row Lot)} (h : LQ L) (a b : Un) : LQ (mhL L a b) := by
  unfold mhL
  split
  · have h1 := h.of a
    exact (h.with a (now := []) (by simp) (fun y hy => by simp at hy)).with b h1.1 h1.2
  · intro r hr; simp at hr
theorem put_in {l : List Lot} {x : Lot} (hin : ∀ y ∈ l, In64 y.qty) (hx : In64 x.qty) (h : putLC l x = 0) : ∀ y ∈ putLL l x, In64 y.qty := by
  obtain ⟨h1, h2⟩ := put_zero h
  have hp := (put_ref h1 h2 hx).1
  rw [h] at hp
  have h64 : in64 (getL l x.asset x.tag + x.qty) = true := by
    cases hh : in64 (getL l x.asset x.tag + x.qty)
    · rw [hh] at hp; simp at hp
    · rfl
  intro y hy
  rw [(put_made hx h).2.2] at hy
  rcases setG_mem hy with ⟨rfl, _⟩ | hy
  · exact in64_iff.1 h64
  · exact hin y hy
theorem pt_zero {L : List (Row Lot)} {u : Un} {x : Lot} (h : ptC L u x = 0) : putLC (ofK L u) x = 0 := by
  unfold ptC at h
  cases hj : isK isL L
  · rw [hj] at h; simp at h
  · rw [hj, if_pos rfl] at h; exact h
theorem LQ.pass {L : List (Row Lot)} (hq : LQ L) {a b : Un} {x : Lot} {t : Int} (hx : In64 x.qty) : LQ (paL L a b x t) := by
  unfold paL
  split
  · unfold ptL
    split
    · rename_i h
      have h1 := pt_zero h
      have h2 := (hq.tak a x).of b
      have h3 := (isL_sort (put_made (x := withT x t) hx h1).1).2.2
      exact (hq.tak a x).with b (by omega) (put_in h2.2 hx h1)
    · intro r hr; simp at hr
  · intro r hr; simp at hr
end Go.Proofs.Ytiidplinmempcaa
