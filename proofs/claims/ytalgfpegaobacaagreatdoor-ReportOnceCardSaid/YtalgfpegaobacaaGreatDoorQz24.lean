/- Joined. -/
import Derived.Test.YtalgfpegaobacaaGreatDoorQz23
namespace Go.Proofs.YtalgfpegaobacaaGreatDoor
set_option linter.all false
set_option maxHeartbeats 64000000
set_option maxRecDepth 100000
open Go.RowKit
open Lib (hid)
/- The law's few (36): contract. -/
theorem FewSt.late {w0 w X : World} {base : Nat} {s : StV} (h : FewSt w0 base w s) (hl : Late base w X) : FewSt w0 base X s :=
 { h with om := h.om.late hl (Nat.le_refl _), oi := h.oi.late hl (Nat.le_refl _), oa := h.oa.late hl (Nat.le_refl _), oc := h.oc.late hl (Nat.le_refl _), og := h.og.late hl (Nat.le_refl _), ov := h.ov.late hl (Nat.le_refl _), ob := h.ob.late hl (Nat.le_refl _), os := h.os.late hl (Nat.le_refl _), oh := h.oh.late hl (Nat.le_refl _) }
theorem FewSt.mono {w0 w : World} {base b : Nat} {s : StV} (h : FewSt w0 base w s) (hb : b ≤ base) : FewSt w0 b w s :=
 { h with om := h.om.mono hb, oi := h.oi.mono hb, oa := h.oa.mono hb, oc := h.oc.mono hb, og := h.og.mono hb, ov := h.ov.mono hb, ob := h.ob.mono hb, os := h.os.mono hb, oh := h.oh.mono hb }
theorem Late.trans {base : Nat} {w X Y : World} (h : Late base w X) (k : Late base X Y) : Late base w Y :=
 ⟨Nat.le_trans h.size k.size, fun b h1 h2 => (k.block b h1 (Nat.lt_of_lt_of_le h2 h.size)).trans (h.block b h1 h2)⟩
theorem Late.from {base : Nat} {w X Y : World} (h : Late base w Y) (hb : Below w.heap.size w X) (k : Late base X Y) : Late base X Y := k
def FewR (t : StV) (gs base : Nat) (LM : List Mb) (LI : List InstV) (LT : List Asset) (LC : List AcctV) : Nat → Value → World → Prop
 | 1, v, _ => v = .slice t.mem.A t.mem.val.length t.mem.c
 | 2, v, W => ∃ A c, v = .slice A LM.length c ∧ Own W base 49 4 v (LM.map encMb)
 | 4, v, _ => v = .slice t.ins.A t.ins.val.length t.ins.c
 | 5, v, W => ∃ A c, v = .slice A LI.length c ∧ Own W base 58 5 v (LI.map encInstV)
 | 7, v, _ => v = .slice t.ats.A t.ats.val.length t.ats.c
 | 8, v, W => ∃ A c, v = .slice A LT.length c ∧ Own W base 51 3 v (LT.map encAsset)
 | 10, v, _ => v = .slice t.acs.A t.acs.val.length t.acs.c
 | 11, v, W => ∃ A c, v = .slice A LC.length c ∧ Own W base 54 4 v (LC.map encAcctV)
 | 12, v, _ => v = .pointer (some ⟨gs, 1, none⟩)
 | 14, v, _ => v = .pointer (some ⟨gs, 2, none⟩)
 | 16, v, _ => v = .pointer (some ⟨gs, 3, none⟩)
 | 18, v, _ => v = .pointer (some ⟨gs, 4, none⟩)
 | _, _, _ => True
theorem FewR.keep {t : StV} {gs base : Nat} {LM : List Mb} {LI : List InstV} {LT : List Asset} {LC : List AcctV} (i : Nat) (v : Value) (w w' : World) (h : FewR t gs base LM LI LT LC i v w) (hb : Below w.heap.size w w') : FewR t gs base LM LI LT LC i v w' := by
 unfold FewR at h ⊢
 split at h
 ·exact h
 ·obtain ⟨A, c, e, ho⟩ := h; exact ⟨A, c, e, ho.keep hb⟩
 ·exact h
 ·obtain ⟨A, c, e, ho⟩ := h; exact ⟨A, c, e, ho.keep hb⟩
 ·exact h
 ·obtain ⟨A, c, e, ho⟩ := h; exact ⟨A, c, e, ho.keep hb⟩
 ·exact h
 ·obtain ⟨A, c, e, ho⟩ := h; exact ⟨A, c, e, ho.keep hb⟩
 ·exact h
 ·exact h
 ·exact h
 ·exact h
 ·trivial
end Go.Proofs.YtalgfpegaobacaaGreatDoor
