/-
  'novationlaw13.InstTables' answers true for every row of instruments, every instrument and every two numbers, and its arguments read on as they did.
  Conditions: none beyond the row's own.
-/
import Derived.Test.YtpjehhkmdndcmaaJz14
import Derived.Test.YtpjehhkmdndcmaaRows
namespace Go.Proofs.Ytpjehhkmdndcmaa
open Go.ChangeShapes Go.WideShapes Go.ChangeAt Go.RowKit Go.Joins
set_option maxRecDepth 100000 in
theorem insts_open {H : Type} {enc : TypeId × Value → H} {W : World} {spare : Nat → Bool} {held : Bool} {base : Nat} {r : Reach} {v : Value} {d : DataW H} {p : List MemPlace}
    (hv : Value.okWide Try.prog W r base 57 v) (h : DataW.Trod enc Try.prog W 0 spare held 57 v d p) :
    ∃ (l : List InstV) (A : Option Addr) (c : Nat), v = .slice A l.length c ∧ l.length ≤ maxLen ∧ Rd W A 5 (l.map encInstV) ∧ ∀ x ∈ l, GoodI W x := by
  obtain ⟨a0, len0, cap0, rfl⟩ := okWide_slice Try.underlying57 hv
  obtain ⟨fuel, hf⟩ := h
  obtain ⟨ls, rows, A, c, h1, h2, h3⟩ := slice_rel (R := fun r (x : InstV) => r = encInstV x ∧ GoodI W x) Try.underlying57 (k := 5) (by kernel_rfl) (fun cs n y hlen hy => by
    obtain ⟨x, B, e, _, rfl, hrs⟩ := Inst_cells cs n y hlen hy
    exact ⟨⟨x.id, x.mult, x.price, x.next, ⟨B, e, x.moves⟩⟩, ⟨rfl, hrs⟩, rfl⟩) (by omega) hf
  simp [Value.cells] at h1
  obtain ⟨rfl, rfl, rfl⟩ := h1
  have hrows : rows = ls.map encInstV := by
    apply List.ext_getElem?
    intro i
    rw [List.getElem?_map]
    rcases Nat.lt_or_ge i ls.length with hi | hi
    · obtain ⟨r, hr, hq, _⟩ := h2.get hi
      rw [hr, List.getElem?_eq_getElem hi, hq]; rfl
    · rw [List.getElem?_eq_none hi, List.getElem?_eq_none (by rw [h2.len]; omega)]; rfl
  have hcap := h3.cap
  have hroom := h3.room
  rw [h2.len] at hcap
  refine ⟨ls, _, _, rfl, by omega, by rw [← hrows]; exact h3.rd, fun x hx => ?_⟩
  obtain ⟨i, hi, rfl⟩ := List.mem_iff_getElem.1 hx
  obtain ⟨r, _, _, hg⟩ := h2.get hi
  exact hg
set_option maxRecDepth 100000 in
theorem instTables_lifted (os : Os) (started : os.Started) (H : Type) (enc : TypeId × Value → H) :
    ReturnsInHanded {} Try.checked os 9 .any (Rows.instTablesSpec.pre6 enc Try.prog Try.f9 Rows.instTablesRow.domain false) (Rows.instTablesSpec.post enc Try.prog Try.f9 false true false false) := by
  refine returnsInHanded_of_change (C := Try.checked) Try.own started (by kernel_rfl) Try.func9
    (ChangeSpec.witness6 (enc := enc) (C := Try.checked) false ⟨#[], #[.slice none 0 0, .agg #[.int .i64 0, .int .i64 0, .int .i64 0, .int .i64 0, .slice none 0 0], .int .i64 0, .int .i64 0], []⟩ 8 (by kernel_rfl) (by kernel_rfl) (by kernel_rfl) (by kernel_rfl)) ?_
  intro W base args ds gs before hval0 hW hcnd _
  have hval : ∀ (j : Nat) t v, Try.f9.params[j]? = some t → args[j]? = some v → Value.okWide Try.prog W .any base t v := hval0
  have hW' := hW
  obtain ⟨p, q, hA0, hV, rfl, hfz, hnd⟩ := hW
  have hA : DataW.TrodAll enc Try.prog W 0 (fun _ => true) true Try.f9.params.toList args.toList ds p := hA0
  rw [Try.params9] at hA hval
  obtain ⟨rfl, rfl⟩ := trodVars_none hV
  clear hA0 hval0
  obtain ⟨v0, v1, v2, v3, d0, d1, d2, d3, p0, p1, p2, p3, rfl, rfl, rfl, h0, h1, h2, h3⟩ := trodAll_four hA
  obtain ⟨l, A, c, rfl, hlm, hrd, hg⟩ := insts_open (hval 0 57 v0 rfl rfl) h0
  obtain ⟨x, B, e, hx, rfl, hrs⟩ := Inst_open (hval 1 24 v1 rfl rfl) h1
  obtain ⟨id, rfl, rfl, rfl, wid⟩ := open_int (k := .i64) (by kernel_rfl) (hval 2 3 v2 rfl rfl) h2
  obtain ⟨q, rfl, rfl, rfl, wq⟩ := open_int Try.underlying2 (hval 3 2 v3 rfl rfl) h3
  refine (instTables l ⟨x.id, x.mult, x.price, x.next, ⟨B, e, x.moves⟩⟩ id q A c W hlm hrd hg hrs).mono fun e W' ⟨he, hb⟩ => ?_
  subst he
  exact ⟨_, rfl, law_ends hW' rfl (by rw [Try.params9]; decide +kernel) rfl rfl rfl rfl hb⟩
theorem instTables_holds : Rows.InstTablesSaid :=
  OpenClaim.holds_of_wide 9 Try.f9 rfl rfl rfl rfl rfl rfl rfl ⟨rfl, rfl, rfl, rfl, rfl⟩ rfl rfl rfl rfl rfl (by kernel_rfl) Try.func9 (by kernel_rfl)
    (of_decide_eq_true (by kernel_rfl)) (by unfold Func.isWrapper; first | (rw [if_pos (by decide +kernel)]; kernel_rfl) | (rw [if_neg (by decide +kernel)]; exact ⟨rfl, rfl⟩))
    (fun os started H enc _ => instTables_lifted os started H enc)
end Go.Proofs.Ytpjehhkmdndcmaa
