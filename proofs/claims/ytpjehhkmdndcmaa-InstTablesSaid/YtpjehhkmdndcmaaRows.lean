/-
  No cell of these rows narrows 'for every input' (looked for: loops, veiled, ifaces, maps, wideKeys, modest, calm, conditions, laid).
  DERIVED. THE GIVEN ROWS OF THIS SEAT. 8 by the template 'for every input the law returns true; each argument reads behind the call as it read before'; 0 by the template 'total and deterministic' (their statements: YtpjehhkmdndcmaaTotals.lean).
  GIVEN WITH THE SEED: the statements are not yours to turn. If you find one false, say at which input.
  Laid BY PROGRAM, IN A SANDBOX (cutbox-rows.mjs): the forced cells as the released guide's own fill.sh prints them over the translation b903db63b41c94f3… (all of the seat's roots in one cut). By AI agents, Wed Nov 11 2026. No macro, syntax, notation, axiom, sorry.
-/
import Derived.Test.YtpjehhkmdndcmaaChecked
import GoSem.Claim
import GoSem.ClaimJoined
import GoSem.ClaimMapViews
import Derived.JoinedTies
import Derived.KernelRfl
namespace Go.Proofs.Ytpjehhkmdndcmaa
/- THE CELL 'sum', in the pinned program and in every row, IS THE sha256 OF THE DUMP (.gsa) THAT YtpjehhkmdndcmaaProg.lean LOADS. Nothing in Lean hashes anything: it is a label: what it is worth is what the hold of that sum in a sandbox is worth. -/
noncomputable def Try.pinned : Pinned := { name := "ytpjehhkmdndcmaa", sum := "b903db63b41c94f3a701765ebb33c550cbffc43188c546c15af47aa256bbc4e0", checked := Try.checked }
namespace Rows
def none {H : Type} : Left H := { results := [], args := [] }

/-- 'novationlaw13.InstGains': WHATEVER THE INPUT: true; the input reads as it did. -/
def instGainsSpec : ChangeSpec := { name := "instGains", fn := fun _ => fun
  | [d1, d2, d3, d4, d5] => { results := [.lit (.bool true)], args := [d1, d2, d3, d4, d5] }
  | _ => none }
def instGainsRow : OpenClaim := { program := "ytpjehhkmdndcmaa", sum := "b903db63b41c94f3a701765ebb33c550cbffc43188c546c15af47aa256bbc4e0", func := "novation/novationlaw13.InstGains", spec := "instGains", inPlace := ["math/bits.Sub64", "math/bits.Add64"], unfollowed := true, recurses := true, named := ["math/bits.divideError", "math/bits.overflowError"], apart := false }
def InstGainsSaid : Prop := instGainsRow.holds Try.pinned (OpenSpec.ofChange instGainsSpec)

/-- ITS FALSE NEIGHBOUR: 'it returns false'. Refute it at one input. -/
def instGainsWrong : ChangeSpec := { name := "instGains", fn := fun _ => fun
  | [d1, d2, d3, d4, d5] => { results := [.lit (.bool false)], args := [d1, d2, d3, d4, d5] }
  | _ => none }
def InstGainsWrongFalsely : Prop := instGainsRow.holds Try.pinned (OpenSpec.ofChange instGainsWrong)

/-- 'novationlaw13.InstTurns': WHATEVER THE INPUT: true; the input reads as it did. -/
def instTurnsSpec : ChangeSpec := { name := "instTurns", fn := fun _ => fun
  | [d1, d2, d3, d4] => { results := [.lit (.bool true)], args := [d1, d2, d3, d4] }
  | _ => none }
def instTurnsRow : OpenClaim := { program := "ytpjehhkmdndcmaa", sum := "b903db63b41c94f3a701765ebb33c550cbffc43188c546c15af47aa256bbc4e0", func := "novation/novationlaw13.InstTurns", spec := "instTurns", inPlace := ["math/bits.Sub64", "math/bits.Add64"], unfollowed := true, recurses := true, named := ["math/bits.divideError", "math/bits.overflowError"], apart := false }
def InstTurnsSaid : Prop := instTurnsRow.holds Try.pinned (OpenSpec.ofChange instTurnsSpec)

/-- ITS FALSE NEIGHBOUR: 'it returns false'. Refute it at one input. -/
def instTurnsWrong : ChangeSpec := { name := "instTurns", fn := fun _ => fun
  | [d1, d2, d3, d4] => { results := [.lit (.bool false)], args := [d1, d2, d3, d4] }
  | _ => none }
def InstTurnsWrongFalsely : Prop := instTurnsRow.holds Try.pinned (OpenSpec.ofChange instTurnsWrong)

/-- 'novationlaw13.InstParts': WHATEVER THE INPUT: true; the input reads as it did. -/
def instPartsSpec : ChangeSpec := { name := "instParts", fn := fun _ => fun
  | [d1, d2, d3, d4, d5, d6] => { results := [.lit (.bool true)], args := [d1, d2, d3, d4, d5, d6] }
  | _ => none }
def instPartsRow : OpenClaim := { program := "ytpjehhkmdndcmaa", sum := "b903db63b41c94f3a701765ebb33c550cbffc43188c546c15af47aa256bbc4e0", func := "novation/novationlaw13.InstParts", spec := "instParts", inPlace := ["math/bits.Sub64", "math/bits.Add64"], unfollowed := true, recurses := true, named := ["math/bits.divideError", "math/bits.overflowError"], apart := false }
def InstPartsSaid : Prop := instPartsRow.holds Try.pinned (OpenSpec.ofChange instPartsSpec)

/-- ITS FALSE NEIGHBOUR: 'it returns false'. Refute it at one input. -/
def instPartsWrong : ChangeSpec := { name := "instParts", fn := fun _ => fun
  | [d1, d2, d3, d4, d5, d6] => { results := [.lit (.bool false)], args := [d1, d2, d3, d4, d5, d6] }
  | _ => none }
def InstPartsWrongFalsely : Prop := instPartsRow.holds Try.pinned (OpenSpec.ofChange instPartsWrong)

/-- 'novationlaw12.AssetWorths': WHATEVER THE INPUT: true; the input reads as it did. -/
def assetWorthsSpec : ChangeSpec := { name := "assetWorths", fn := fun _ => fun
  | [d1, d2, d3] => { results := [.lit (.bool true)], args := [d1, d2, d3] }
  | _ => none }
def assetWorthsRow : OpenClaim := { program := "ytpjehhkmdndcmaa", sum := "b903db63b41c94f3a701765ebb33c550cbffc43188c546c15af47aa256bbc4e0", func := "novation/novationlaw12.AssetWorths", spec := "assetWorths", inPlace := ["math/bits.Sub64", "math/bits.Add64"], named := ["math/bits.divideError", "math/bits.overflowError"], apart := false }
def AssetWorthsSaid : Prop := assetWorthsRow.holds Try.pinned (OpenSpec.ofChange assetWorthsSpec)

/-- ITS FALSE NEIGHBOUR: 'it returns false'. Refute it at one input. -/
def assetWorthsWrong : ChangeSpec := { name := "assetWorths", fn := fun _ => fun
  | [d1, d2, d3] => { results := [.lit (.bool false)], args := [d1, d2, d3] }
  | _ => none }
def AssetWorthsWrongFalsely : Prop := assetWorthsRow.holds Try.pinned (OpenSpec.ofChange assetWorthsWrong)

/-- 'novationlaw12.AssetCounts': WHATEVER THE INPUT: true; the input reads as it did. -/
def assetCountsSpec : ChangeSpec := { name := "assetCounts", fn := fun _ => fun
  | [d1, d2, d3, d4] => { results := [.lit (.bool true)], args := [d1, d2, d3, d4] }
  | _ => none }
def assetCountsRow : OpenClaim := { program := "ytpjehhkmdndcmaa", sum := "b903db63b41c94f3a701765ebb33c550cbffc43188c546c15af47aa256bbc4e0", func := "novation/novationlaw12.AssetCounts", spec := "assetCounts", inPlace := ["math/bits.Sub64", "math/bits.Add64"], named := ["math/bits.divideError", "math/bits.overflowError"], apart := false }
def AssetCountsSaid : Prop := assetCountsRow.holds Try.pinned (OpenSpec.ofChange assetCountsSpec)

/-- ITS FALSE NEIGHBOUR: 'it returns false'. Refute it at one input. -/
def assetCountsWrong : ChangeSpec := { name := "assetCounts", fn := fun _ => fun
  | [d1, d2, d3, d4] => { results := [.lit (.bool false)], args := [d1, d2, d3, d4] }
  | _ => none }
def AssetCountsWrongFalsely : Prop := assetCountsRow.holds Try.pinned (OpenSpec.ofChange assetCountsWrong)

/-- 'novationlaw12.AssetSplits': WHATEVER THE INPUT: true; the input reads as it did. -/
def assetSplitsSpec : ChangeSpec := { name := "assetSplits", fn := fun _ => fun
  | [d1, d2, d3] => { results := [.lit (.bool true)], args := [d1, d2, d3] }
  | _ => none }
def assetSplitsRow : OpenClaim := { program := "ytpjehhkmdndcmaa", sum := "b903db63b41c94f3a701765ebb33c550cbffc43188c546c15af47aa256bbc4e0", func := "novation/novationlaw12.AssetSplits", spec := "assetSplits", inPlace := ["math/bits.Sub64", "math/bits.Add64"], named := ["math/bits.divideError", "math/bits.overflowError"], apart := false }
def AssetSplitsSaid : Prop := assetSplitsRow.holds Try.pinned (OpenSpec.ofChange assetSplitsSpec)

/-- ITS FALSE NEIGHBOUR: 'it returns false'. Refute it at one input. -/
def assetSplitsWrong : ChangeSpec := { name := "assetSplits", fn := fun _ => fun
  | [d1, d2, d3] => { results := [.lit (.bool false)], args := [d1, d2, d3] }
  | _ => none }
def AssetSplitsWrongFalsely : Prop := assetSplitsRow.holds Try.pinned (OpenSpec.ofChange assetSplitsWrong)

/-- 'novationlaw13.InstTables': WHATEVER THE INPUT: true; the input reads as it did. -/
def instTablesSpec : ChangeSpec := { name := "instTables", fn := fun _ => fun
  | [d1, d2, d3, d4] => { results := [.lit (.bool true)], args := [d1, d2, d3, d4] }
  | _ => none }
def instTablesRow : OpenClaim := { program := "ytpjehhkmdndcmaa", sum := "b903db63b41c94f3a701765ebb33c550cbffc43188c546c15af47aa256bbc4e0", func := "novation/novationlaw13.InstTables", spec := "instTables", inPlace := ["slices.overlaps[novation/api.Inst]", "math/bits.Sub64", "math/bits.Add64"], unfollowed := true, recurses := true, named := ["math/bits.divideError", "math/bits.overflowError"], apart := false }
def InstTablesSaid : Prop := instTablesRow.holds Try.pinned (OpenSpec.ofChange instTablesSpec)

/-- ITS FALSE NEIGHBOUR: 'it returns false'. Refute it at one input. -/
def instTablesWrong : ChangeSpec := { name := "instTables", fn := fun _ => fun
  | [d1, d2, d3, d4] => { results := [.lit (.bool false)], args := [d1, d2, d3, d4] }
  | _ => none }
def InstTablesWrongFalsely : Prop := instTablesRow.holds Try.pinned (OpenSpec.ofChange instTablesWrong)

/-- 'novationlaw12.AssetTables': WHATEVER THE INPUT: true; the input reads as it did. -/
def assetTablesSpec : ChangeSpec := { name := "assetTables", fn := fun _ => fun
  | [d1, d2, d3, d4] => { results := [.lit (.bool true)], args := [d1, d2, d3, d4] }
  | _ => none }
def assetTablesRow : OpenClaim := { program := "ytpjehhkmdndcmaa", sum := "b903db63b41c94f3a701765ebb33c550cbffc43188c546c15af47aa256bbc4e0", func := "novation/novationlaw12.AssetTables", spec := "assetTables", inPlace := ["slices.overlaps[novation/api.Asset]", "math/bits.Sub64", "math/bits.Add64"], unfollowed := true, recurses := true, named := ["math/bits.divideError", "math/bits.overflowError"], apart := false }
def AssetTablesSaid : Prop := assetTablesRow.holds Try.pinned (OpenSpec.ofChange assetTablesSpec)

/-- ITS FALSE NEIGHBOUR: 'it returns false'. Refute it at one input. -/
def assetTablesWrong : ChangeSpec := { name := "assetTables", fn := fun _ => fun
  | [d1, d2, d3, d4] => { results := [.lit (.bool false)], args := [d1, d2, d3, d4] }
  | _ => none }
def AssetTablesWrongFalsely : Prop := assetTablesRow.holds Try.pinned (OpenSpec.ofChange assetTablesWrong)

/- THE SECOND FORM. 'bulk': how many values and letters a reading holds, each counted each time it is reached (what is shared counts as often as it is met; a slice's spare places count too). A statement '..UptoSaid' is the law's where the arguments, and the package variables that the reading takes, are together of bulk at most 1048576: NARROWER than '..Said'. Prove '..Said' where nothing that the law and all that it calls make is longer than what came in: it says more and counts as full. Else prove '..UptoSaid'. A law counts once. -/
mutual
def uptoBulk {H : Type} : DataW H → Nat
  | .lit (.string bytes) => bytes.length + 1
  | .lit _ => 1
  | .nil => 1
  | .ptr d => uptoBulk d + 1
  | .slice elems spare => uptoBulkAll elems + uptoBulkAll spare + 1
  | .agg parts => uptoBulkAll parts + 1
  | .iface _ d => uptoBulk d + 1
  | .map entries => uptoBulkEntries entries + 1
  | .held _ => 1
def uptoBulkAll {H : Type} : List (DataW H) → Nat
  | [] => 0
  | d :: r => uptoBulk d + uptoBulkAll r
def uptoBulkEntries {H : Type} : List (Lit × DataW H) → Nat
  | [] => 0
  | x :: r => uptoBulkEntry x + uptoBulkEntries r
def uptoBulkEntry {H : Type} : Lit × DataW H → Nat
  | (.string bytes, d) => bytes.length + uptoBulk d + 1
  | (_, d) => uptoBulk d + 1
 end
def uptoSmall : (H : Type) → List (DataW H) → Bool := fun _ ds => decide (uptoBulkAll ds ≤ 1048576)
def OpenSpec.upto (s : _root_.Go.ChangeSpec) : _root_.Go.OpenSpec := { _root_.Go.OpenSpec.ofChange s with cond := some uptoSmall }

/-- 'novationlaw13.InstGains', WHERE WHAT IT READS IS OF BULK AT MOST 1048576: true; the input reads as it did. -/
def instGainsUptoRow : OpenClaim := { program := "ytpjehhkmdndcmaa", sum := "b903db63b41c94f3a701765ebb33c550cbffc43188c546c15af47aa256bbc4e0", func := "novation/novationlaw13.InstGains", spec := "instGains", inPlace := ["math/bits.Sub64", "math/bits.Add64"], unfollowed := true, recurses := true, named := ["math/bits.divideError", "math/bits.overflowError"], apart := false, narrowed := true }
def InstGainsUptoSaid : Prop := instGainsUptoRow.holds Try.pinned (OpenSpec.upto instGainsSpec)

/-- 'novationlaw13.InstTurns', WHERE WHAT IT READS IS OF BULK AT MOST 1048576: true; the input reads as it did. -/
def instTurnsUptoRow : OpenClaim := { program := "ytpjehhkmdndcmaa", sum := "b903db63b41c94f3a701765ebb33c550cbffc43188c546c15af47aa256bbc4e0", func := "novation/novationlaw13.InstTurns", spec := "instTurns", inPlace := ["math/bits.Sub64", "math/bits.Add64"], unfollowed := true, recurses := true, named := ["math/bits.divideError", "math/bits.overflowError"], apart := false, narrowed := true }
def InstTurnsUptoSaid : Prop := instTurnsUptoRow.holds Try.pinned (OpenSpec.upto instTurnsSpec)

/-- 'novationlaw13.InstParts', WHERE WHAT IT READS IS OF BULK AT MOST 1048576: true; the input reads as it did. -/
def instPartsUptoRow : OpenClaim := { program := "ytpjehhkmdndcmaa", sum := "b903db63b41c94f3a701765ebb33c550cbffc43188c546c15af47aa256bbc4e0", func := "novation/novationlaw13.InstParts", spec := "instParts", inPlace := ["math/bits.Sub64", "math/bits.Add64"], unfollowed := true, recurses := true, named := ["math/bits.divideError", "math/bits.overflowError"], apart := false, narrowed := true }
def InstPartsUptoSaid : Prop := instPartsUptoRow.holds Try.pinned (OpenSpec.upto instPartsSpec)

/-- 'novationlaw12.AssetWorths', WHERE WHAT IT READS IS OF BULK AT MOST 1048576: true; the input reads as it did. -/
def assetWorthsUptoRow : OpenClaim := { program := "ytpjehhkmdndcmaa", sum := "b903db63b41c94f3a701765ebb33c550cbffc43188c546c15af47aa256bbc4e0", func := "novation/novationlaw12.AssetWorths", spec := "assetWorths", inPlace := ["math/bits.Sub64", "math/bits.Add64"], named := ["math/bits.divideError", "math/bits.overflowError"], apart := false, narrowed := true }
def AssetWorthsUptoSaid : Prop := assetWorthsUptoRow.holds Try.pinned (OpenSpec.upto assetWorthsSpec)

/-- 'novationlaw12.AssetCounts', WHERE WHAT IT READS IS OF BULK AT MOST 1048576: true; the input reads as it did. -/
def assetCountsUptoRow : OpenClaim := { program := "ytpjehhkmdndcmaa", sum := "b903db63b41c94f3a701765ebb33c550cbffc43188c546c15af47aa256bbc4e0", func := "novation/novationlaw12.AssetCounts", spec := "assetCounts", inPlace := ["math/bits.Sub64", "math/bits.Add64"], named := ["math/bits.divideError", "math/bits.overflowError"], apart := false, narrowed := true }
def AssetCountsUptoSaid : Prop := assetCountsUptoRow.holds Try.pinned (OpenSpec.upto assetCountsSpec)

/-- 'novationlaw12.AssetSplits', WHERE WHAT IT READS IS OF BULK AT MOST 1048576: true; the input reads as it did. -/
def assetSplitsUptoRow : OpenClaim := { program := "ytpjehhkmdndcmaa", sum := "b903db63b41c94f3a701765ebb33c550cbffc43188c546c15af47aa256bbc4e0", func := "novation/novationlaw12.AssetSplits", spec := "assetSplits", inPlace := ["math/bits.Sub64", "math/bits.Add64"], named := ["math/bits.divideError", "math/bits.overflowError"], apart := false, narrowed := true }
def AssetSplitsUptoSaid : Prop := assetSplitsUptoRow.holds Try.pinned (OpenSpec.upto assetSplitsSpec)

/-- 'novationlaw13.InstTables', WHERE WHAT IT READS IS OF BULK AT MOST 1048576: true; the input reads as it did. -/
def instTablesUptoRow : OpenClaim := { program := "ytpjehhkmdndcmaa", sum := "b903db63b41c94f3a701765ebb33c550cbffc43188c546c15af47aa256bbc4e0", func := "novation/novationlaw13.InstTables", spec := "instTables", inPlace := ["slices.overlaps[novation/api.Inst]", "math/bits.Sub64", "math/bits.Add64"], unfollowed := true, recurses := true, named := ["math/bits.divideError", "math/bits.overflowError"], apart := false, narrowed := true }
def InstTablesUptoSaid : Prop := instTablesUptoRow.holds Try.pinned (OpenSpec.upto instTablesSpec)

/-- 'novationlaw12.AssetTables', WHERE WHAT IT READS IS OF BULK AT MOST 1048576: true; the input reads as it did. -/
def assetTablesUptoRow : OpenClaim := { program := "ytpjehhkmdndcmaa", sum := "b903db63b41c94f3a701765ebb33c550cbffc43188c546c15af47aa256bbc4e0", func := "novation/novationlaw12.AssetTables", spec := "assetTables", inPlace := ["slices.overlaps[novation/api.Asset]", "math/bits.Sub64", "math/bits.Add64"], unfollowed := true, recurses := true, named := ["math/bits.divideError", "math/bits.overflowError"], apart := false, narrowed := true }
def AssetTablesUptoSaid : Prop := assetTablesUptoRow.holds Try.pinned (OpenSpec.upto assetTablesSpec)

end Rows
end Go.Proofs.Ytpjehhkmdndcmaa
