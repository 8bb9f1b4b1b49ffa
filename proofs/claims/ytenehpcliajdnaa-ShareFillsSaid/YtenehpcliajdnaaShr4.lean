/- Shares: slices.SortFunc at quotas: the same ones, who is ahead first. -/
import Derived.Test.YtenehpcliajdnaaShr3
import Derived.Test.YtenehpcliajdnaaShr1
namespace Go.Proofs.Ytenehpcliajdnaa
open Go.RowKit
theorem sort_only {α : Type} [Inhabited α] (enc : α → List Value) (k : Nat) (w : World) (g o n : Nat) (d : Array α) (os : Array Obj) : Only g w (Go.Proofs.sortWorldK enc k w g o n d os) := by
  refine ⟨rfl, rfl, rfl, ?_, fun i hi hne => ?_⟩
  · show w.heap.size ≤ (w.heap.modify g _ ++ os).size
    simp
  · show (w.heap.modify g _ ++ os)[i]? = w.heap[i]?
    rw [Array.getElem?_append_left (by simpa using hi), Array.getElem?_modify, if_neg (fun h => hne h.symm)]
theorem own_holds {w : World} {base E g c : Nat} {L : List Quo} (h : Own w base E 3 (.slice (some ⟨g, 0, none⟩) L.length c) (L.map encQuo)) : Go.Sort.HoldsK encQuo 3 w g 0 L.toArray := by
  obtain ⟨cur, hblk⟩ := h.blk rfl
  intro j hj
  rw [Go.Sort.size_flatK] at hj
  simp only [List.size_toArray] at hj
  have hq : j / 3 < L.length := by omega
  obtain ⟨b', o', e', hb', hcc⟩ := (h.rd).1 (j / 3) (encQuo L[j / 3]) (by simp [hq])
  injection e' with e'
  injection e' with e1 e2 _
  subst e1 e2
  refine ⟨?_, hblk.frozen _⟩
  have hr : j % 3 < (encQuo L[j / 3]).length := by unfold encQuo; simp; omega
  have := hcc (j % 3) _ (List.getElem?_eq_getElem hr)
  rw [Go.Sort.get_flatK _ _ _ _ (by simpa using hj), show 0 + j = 0 + j / 3 * 3 + j % 3 from by omega, this]
  congr 1
  show _ = id ((encQuo L.toArray[j / 3]!)[j % 3]!)
  rw [getElem!_pos L.toArray (j / 3) (by simpa using hq)]
  simp only [List.getElem_toArray, id]
  rw [getElem!_pos (encQuo L[j / 3]) (j % 3) hr]
set_option maxHeartbeats 2000000 in
theorem sortQuo (L : List Quo) (g c base E : Nat) (w : World) (hl : L.length ≤ 1000000) (hown : Own w base E 3 (.slice (some ⟨g, 0, none⟩) L.length c) (L.map encQuo)) :
    Calls Try.prog 63 #[.slice (some ⟨g, 0, none⟩) L.length c, .func (Fn.func 64) #[] #[]] w fun e w' => e = .returned (.tuple #[]) ∧ ∃ M : List Quo, M.Perm L ∧ M.Pairwise (fun x y => aheadQ y x = false) ∧ Rd w' (some ⟨g, 0, none⟩) 3 (M.map encQuo) ∧ Only g w w' := by
  have hgl := (hown.block g rfl).2
  have hH := own_holds hown
  have eg : ∀ args w, (callFunc 64 args).run Try.prog w = .ok (.enter 64 args) w := enters_of Try.func64 (by kernel_rfl) rfl
  have hcon := Go.Proofs.AnyQ.slices_SortFunc Try.sortQuo 3 Try.isAgg101 Try.sizeOf101 encQuo (fun _ => rfl) (fun x v hv => by simp [encQuo] at hv; rcases hv with rfl | rfl | rfl <;> rfl) cfQ cfQ_swo 64 #[] g 0 c L.toArray w eg (shrLays g 0 L.toArray.size w) hH hgl (by simp; omega)
  change Calls Try.prog 63 _ _ _ at hcon
  simp only [List.size_toArray] at hcon
  refine hcon.mono ?_
  rintro e w' ⟨rfl, d', n, os, hp, hs, rfl⟩
  obtain ⟨hp1, _, hp3⟩ := hp
  simp only [List.size_toArray] at hp1
  have hpe : d'.toList.Perm L := by
    rw [show L.length = d'.size from hp1.symm] at hp3
    rw [Array.extract_size] at hp3
    have h2 : (L.toArray.extract 0 d'.size).toList = L := by
      rw [hp1, show L.length = L.toArray.size from by simp, Array.extract_size]
    rw [h2] at hp3
    exact hp3
  have hH2 : Go.Sort.HoldsK encQuo 3 (Go.Proofs.sortWorldK encQuo 3 w g 0 n d' os) g 0 d' := by
    unfold Go.Proofs.sortWorldK
    refine Go.Sort.holdsK_grow encQuo 3 _ os g 0 d' ?_ (Go.Sort.holdsK_putRowK encQuo 3 _ g 0 L.toArray d' (Go.Sort.holdsK_ahead encQuo 3 w n g 0 _ hH) (by simp [hp1]))
    show g < (w.heap.modify g _).size
    simpa using hgl
  have hsz := (sort_only encQuo 3 w g 0 n d' os).size
  refine ⟨rfl, d'.toList, hpe, ?_, ?_, sort_only encQuo 3 w g 0 n d' os⟩
  · rw [List.pairwise_iff_getElem]
    intro i j hi hj hij
    have := hs i j (Nat.zero_le _) hij (by simpa [hp1] using hj)
    rw [cfQ_lt] at this
    simp only [Array.length_toList] at hi hj
    rw [getElem!_pos d' j hj, getElem!_pos d' i hi] at this
    simpa using this
  · intro i r hr
    obtain ⟨x, hx, rfl⟩ : ∃ x, d'.toList[i]? = some x ∧ r = encQuo x := by
      rw [List.getElem?_map] at hr
      cases hx : d'.toList[i]? with
      | none => rw [hx] at hr; simp at hr
      | some x => rw [hx] at hr; simp at hr; exact ⟨x, rfl, hr.symm⟩
    obtain ⟨hi, hxe⟩ := List.getElem?_eq_some_iff.1 hx
    simp only [Array.length_toList] at hi
    refine ⟨g, 0, rfl, by omega, fun j v hv => ?_⟩
    obtain ⟨hj, hve⟩ := List.getElem?_eq_some_iff.1 hv
    have hj3 : j < 3 := by unfold encQuo at hj; simpa using hj
    have := (hH2.cell hi hj3).1
    rw [this]
    congr 1
    rw [getElem!_pos d' i hi, show d'[i] = x from by simpa using hxe, getElem!_pos (encQuo x) j hj]
    exact hve
end Go.Proofs.Ytenehpcliajdnaa
