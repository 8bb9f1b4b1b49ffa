/-
  'novationlaw18.LotsDraws' answers true for every row of lots, every asset, every number and every rows of lots, and its arguments read on as they did.
  Conditions: none beyond the row's own.
-/
import Derived.Test.YtemhhojenocddaaLotL3
import Derived.Test.YtemhhojenocddaaLotsOpen
import Derived.Test.YtemhhojenocddaaFrame
import Derived.Test.YtemhhojenocddaaRows
namespace Go.Proofs.Ytemhhojenocddaa
open Go.ChangeShapes Go.WideShapes Go.ChangeAt Go.RowKit Go.Joins
set_option maxRecDepth 100000 in
theorem lotsDraws_lifted (os : Os) (started : os.Started) (H : Type) (enc : TypeId × Value → H) :
    ReturnsInHanded {} Try.checked os 7 .any (Rows.lotsDrawsSpec.pre6 enc Try.prog Try.f7 Rows.lotsDrawsRow.domain false) (Rows.lotsDrawsSpec.post enc Try.prog Try.f7 false true false false) := by
  refine returnsInHanded_of_change (C := Try.checked) Try.own started (by kernel_rfl) Try.func7
    (ChangeSpec.witness6 (enc := enc) (C := Try.checked) false ⟨#[], #[.slice none 0 0, .int .i64 0, .int .i64 0, .slice none 0 0], []⟩ 8 (by kernel_rfl) (by kernel_rfl) (by kernel_rfl) (by kernel_rfl)) ?_
  intro W base args ds gs before hval0 hW hcnd _
  have hval : ∀ (j : Nat) t v, Try.f7.params[j]? = some t → args[j]? = some v → Value.okWide Try.prog W .any base t v := hval0
  have hW' := hW
  obtain ⟨p, q, hA0, hV, rfl, hfz, hnd⟩ := hW
  have hA : DataW.TrodAll enc Try.prog W 0 (fun _ => true) true Try.f7.params.toList args.toList ds p := hA0
  rw [Try.params7] at hA hval
  obtain ⟨rfl, rfl⟩ := trodVars_none hV
  clear hA0 hval0
  obtain ⟨v0, v1, v2, v3, d0, d1, d2, d3, p0, p1, p2, p3, rfl, rfl, rfl, h0, h1, h2, h3⟩ := trodAll_four hA
  obtain ⟨l, A, c, rfl, _, hok, hrs⟩ := lots_open (hval 0 56 v0 rfl rfl) h0
  obtain ⟨a, rfl, rfl, rfl, wa⟩ := open_int (k := .i64) (by kernel_rfl) (hval 1 3 v1 rfl rfl) h1
  obtain ⟨q, rfl, rfl, rfl, wq⟩ := open_int Try.underlying2 (hval 2 2 v2 rfl rfl) h2
  obtain ⟨ls, B, d, rfl, hlk, hls, hlm⟩ := lotss_open (hval 3 78 v3 rfl rfl) h3
  refine (lotsDraws l ls a q A c B d W (fun y hy => (hok y hy).2.2) (in64_of_wf wq) (fun m hm y hy => ((hlk m hm).1 y hy).2.2) hlm hrs hls).mono fun e W' ⟨he, hb⟩ => ?_
  subst he
  exact ⟨_, rfl, law_ends hW' rfl (by rw [Try.params7]; decide +kernel) rfl rfl rfl rfl hb⟩
theorem lotsDraws_holds : Rows.LotsDrawsSaid :=
  OpenClaim.holds_of_wide 7 Try.f7 rfl rfl rfl rfl rfl rfl rfl ⟨rfl, rfl, rfl, rfl, rfl⟩ rfl rfl rfl rfl rfl (by kernel_rfl) Try.func7 (by kernel_rfl)
    (of_decide_eq_true (by kernel_rfl)) (by unfold Func.isWrapper; first | (rw [if_pos (by decide +kernel)]; kernel_rfl) | (rw [if_neg (by decide +kernel)]; exact ⟨rfl, rfl⟩))
    (fun os started H enc _ => lotsDraws_lifted os started H enc)
end Go.Proofs.Ytemhhojenocddaa
