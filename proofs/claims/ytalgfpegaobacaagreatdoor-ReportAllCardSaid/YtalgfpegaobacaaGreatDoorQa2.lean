/- Joined. -/
import Derived.Test.YtalgfpegaobacaaGreatDoorQz3
namespace Go.Proofs.YtalgfpegaobacaaGreatDoor
set_option linter.all false
open Go.RowKit
section
variable {w : World} {base E k : Nat} {g n c : Nat} {rows : List (List Value)}
end
theorem rd_dropR {w : World} {b o : Nat} {k : Nat} {rows : List (List Value)} (h : Rd w (some ⟨b, o, none⟩) k rows) (n : Nat) : Rd w (some ⟨b, o + n * k, none⟩) k (rows.drop n) := by
 intro i r hr
 rw [List.getElem?_drop] at hr
 obtain ⟨b', o', e, hb, hc⟩ := h _ r hr
 injection e with e
 injection e with e1 e2 _
 subst e1 e2
 exact ⟨b, o + n * k, rfl, hb, fun j v hv => by rw [show o + n * k + i * k + j = o + (n + i) * k + j from by rw [Nat.add_mul]; omega]; exact hc j v hv⟩
theorem while_cut {α : Type} {p : α → Bool} : ∀ {l : List α} {k : Nat} (_ : ∀ j (_ : j < l.length), j < k → p l[j] = true) (_ : k ≤ l.length) (_ : ∀ h : k < l.length, p l[k] = false), l.takeWhile p = l.take k ∧ l.dropWhile p = l.drop k
 | [], k, _, hk, _ => by simp at hk; subst hk; simp
 | a :: l, 0, _, _, h => by have := h (by simp); simp at this; simp [this]
 | a :: l, k + 1, h, hk, hn => by
  have h0 := h 0 (by simp) (by omega)
  simp at h0
  have := while_cut (p := p) (l := l) (k := k) (fun j hj hjk => by have := h (j + 1) (by simp; omega) (by omega); simpa using this) (by simpa using hk) (fun hk' => by have := hn (by simp; omega); simpa using this)
  simp [h0, this.1, this.2]
end Go.Proofs.YtalgfpegaobacaaGreatDoor
