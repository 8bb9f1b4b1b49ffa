/-
  No cell of these rows narrows 'for every input' (looked for: loops, veiled, ifaces, maps, wideKeys, modest, calm, conditions, laid).
  DERIVED. THE GIVEN ROWS OF THIS SEAT. 7 by the template 'for every input the law returns true; each argument reads behind the call as it read before'; 0 by the template 'total and deterministic' (their statements: YtemhhojenocddaaTotals.lean).
  GIVEN WITH THE SEED: the statements are not yours to turn. If you find one false, say at which input.
  Laid BY PROGRAM, IN A SANDBOX (cutbox-rows.mjs): the forced cells as the released guide's own fill.sh prints them over the translation 9b38fcd7612511de… (all of the seat's roots in one cut). By AI agents, Wed Nov 11 2026. No macro, syntax, notation, axiom, sorry.
-/
import Derived.Test.YtemhhojenocddaaChecked
import GoSem.Claim
import GoSem.ClaimJoined
import GoSem.ClaimMapViews
import Derived.JoinedTies
import Derived.KernelRfl
namespace Go.Proofs.Ytemhhojenocddaa
/- THE CELL 'sum', in the pinned program and in every row, IS THE sha256 OF THE DUMP (.gsa) THAT YtemhhojenocddaaProg.lean LOADS. Nothing in Lean hashes anything: it is a label: what it is worth is what the hold of that sum in a sandbox is worth. -/
noncomputable def Try.pinned : Pinned := { name := "ytemhhojenocddaa", sum := "9b38fcd7612511deb3c3dcc5982d57a7d911d60faeef085bf45c6b600ebe75cb", checked := Try.checked }
namespace Rows
def none {H : Type} : Left H := { results := [], args := [] }

/-- 'novationlaw15.AcctBinds': WHATEVER THE INPUT: true; the input reads as it did. -/
def acctBindsSpec : ChangeSpec := { name := "acctBinds", fn := fun _ => fun
  | [d1, d2, d3] => { results := [.lit (.bool true)], args := [d1, d2, d3] }
  | _ => none }
def acctBindsRow : OpenClaim := { program := "ytemhhojenocddaa", sum := "9b38fcd7612511deb3c3dcc5982d57a7d911d60faeef085bf45c6b600ebe75cb", func := "novation/novationlaw15.AcctBinds", spec := "acctBinds", inPlace := ["slices.overlaps[int]"], apart := false }
def AcctBindsSaid : Prop := acctBindsRow.holds Try.pinned (OpenSpec.ofChange acctBindsSpec)

/-- ITS FALSE NEIGHBOUR: 'it returns false'. Refute it at one input. -/
def acctBindsWrong : ChangeSpec := { name := "acctBinds", fn := fun _ => fun
  | [d1, d2, d3] => { results := [.lit (.bool false)], args := [d1, d2, d3] }
  | _ => none }
def AcctBindsWrongFalsely : Prop := acctBindsRow.holds Try.pinned (OpenSpec.ofChange acctBindsWrong)

/-- 'novationlaw15.AcctApart': WHATEVER THE INPUT: true; the input reads as it did. -/
def acctApartSpec : ChangeSpec := { name := "acctApart", fn := fun _ => fun
  | [d1, d2] => { results := [.lit (.bool true)], args := [d1, d2] }
  | _ => none }
def acctApartRow : OpenClaim := { program := "ytemhhojenocddaa", sum := "9b38fcd7612511deb3c3dcc5982d57a7d911d60faeef085bf45c6b600ebe75cb", func := "novation/novationlaw15.AcctApart", spec := "acctApart", inPlace := ["slices.overlaps[int]"], apart := false }
def AcctApartSaid : Prop := acctApartRow.holds Try.pinned (OpenSpec.ofChange acctApartSpec)

/-- ITS FALSE NEIGHBOUR: 'it returns false'. Refute it at one input. -/
def acctApartWrong : ChangeSpec := { name := "acctApart", fn := fun _ => fun
  | [d1, d2] => { results := [.lit (.bool false)], args := [d1, d2] }
  | _ => none }
def AcctApartWrongFalsely : Prop := acctApartRow.holds Try.pinned (OpenSpec.ofChange acctApartWrong)

/-- 'novationlaw15.AcctTables': WHATEVER THE INPUT: true; the input reads as it did. -/
def acctTablesSpec : ChangeSpec := { name := "acctTables", fn := fun _ => fun
  | [d1, d2, d3, d4, d5] => { results := [.lit (.bool true)], args := [d1, d2, d3, d4, d5] }
  | _ => none }
def acctTablesRow : OpenClaim := { program := "ytemhhojenocddaa", sum := "9b38fcd7612511deb3c3dcc5982d57a7d911d60faeef085bf45c6b600ebe75cb", func := "novation/novationlaw15.AcctTables", spec := "acctTables", inPlace := ["slices.overlaps[novation/api.Account]", "slices.overlaps[int]"], unfollowed := true, recurses := true, apart := false }
def AcctTablesSaid : Prop := acctTablesRow.holds Try.pinned (OpenSpec.ofChange acctTablesSpec)

/-- ITS FALSE NEIGHBOUR: 'it returns false'. Refute it at one input. -/
def acctTablesWrong : ChangeSpec := { name := "acctTables", fn := fun _ => fun
  | [d1, d2, d3, d4, d5] => { results := [.lit (.bool false)], args := [d1, d2, d3, d4, d5] }
  | _ => none }
def AcctTablesWrongFalsely : Prop := acctTablesRow.holds Try.pinned (OpenSpec.ofChange acctTablesWrong)

/-- 'novationlaw18.LotsPuts': WHATEVER THE INPUT: true; the input reads as it did. -/
def lotsPutsSpec : ChangeSpec := { name := "lotsPuts", fn := fun _ => fun
  | [d1, d2] => { results := [.lit (.bool true)], args := [d1, d2] }
  | _ => none }
def lotsPutsRow : OpenClaim := { program := "ytemhhojenocddaa", sum := "9b38fcd7612511deb3c3dcc5982d57a7d911d60faeef085bf45c6b600ebe75cb", func := "novation/novationlaw18.LotsPuts", spec := "lotsPuts", inPlace := ["math/bits.Add64", "slices.overlaps[novation/api.Lot]"], unfollowed := true, recurses := true, apart := false }
def LotsPutsSaid : Prop := lotsPutsRow.holds Try.pinned (OpenSpec.ofChange lotsPutsSpec)

/-- ITS FALSE NEIGHBOUR: 'it returns false'. Refute it at one input. -/
def lotsPutsWrong : ChangeSpec := { name := "lotsPuts", fn := fun _ => fun
  | [d1, d2] => { results := [.lit (.bool false)], args := [d1, d2] }
  | _ => none }
def LotsPutsWrongFalsely : Prop := lotsPutsRow.holds Try.pinned (OpenSpec.ofChange lotsPutsWrong)

/-- 'novationlaw18.LotsDraws': WHATEVER THE INPUT: true; the input reads as it did. -/
def lotsDrawsSpec : ChangeSpec := { name := "lotsDraws", fn := fun _ => fun
  | [d1, d2, d3, d4] => { results := [.lit (.bool true)], args := [d1, d2, d3, d4] }
  | _ => none }
def lotsDrawsRow : OpenClaim := { program := "ytemhhojenocddaa", sum := "9b38fcd7612511deb3c3dcc5982d57a7d911d60faeef085bf45c6b600ebe75cb", func := "novation/novationlaw18.LotsDraws", spec := "lotsDraws", inPlace := ["math/bits.Add64", "slices.overlaps[novation/api.Lot]"], unfollowed := true, recurses := true, apart := false }
def LotsDrawsSaid : Prop := lotsDrawsRow.holds Try.pinned (OpenSpec.ofChange lotsDrawsSpec)

/-- ITS FALSE NEIGHBOUR: 'it returns false'. Refute it at one input. -/
def lotsDrawsWrong : ChangeSpec := { name := "lotsDraws", fn := fun _ => fun
  | [d1, d2, d3, d4] => { results := [.lit (.bool false)], args := [d1, d2, d3, d4] }
  | _ => none }
def LotsDrawsWrongFalsely : Prop := lotsDrawsRow.holds Try.pinned (OpenSpec.ofChange lotsDrawsWrong)

/-- 'novationlaw18.LotsJoins': WHATEVER THE INPUT: true; the input reads as it did. -/
def lotsJoinsSpec : ChangeSpec := { name := "lotsJoins", fn := fun _ => fun
  | [d1, d2] => { results := [.lit (.bool true)], args := [d1, d2] }
  | _ => none }
def lotsJoinsRow : OpenClaim := { program := "ytemhhojenocddaa", sum := "9b38fcd7612511deb3c3dcc5982d57a7d911d60faeef085bf45c6b600ebe75cb", func := "novation/novationlaw18.LotsJoins", spec := "lotsJoins", inPlace := ["slices.overlaps[novation/api.Lot]", "math/bits.Add64"], unfollowed := true, recurses := true, apart := false }
def LotsJoinsSaid : Prop := lotsJoinsRow.holds Try.pinned (OpenSpec.ofChange lotsJoinsSpec)

/-- ITS FALSE NEIGHBOUR: 'it returns false'. Refute it at one input. -/
def lotsJoinsWrong : ChangeSpec := { name := "lotsJoins", fn := fun _ => fun
  | [d1, d2] => { results := [.lit (.bool false)], args := [d1, d2] }
  | _ => none }
def LotsJoinsWrongFalsely : Prop := lotsJoinsRow.holds Try.pinned (OpenSpec.ofChange lotsJoinsWrong)

/-- 'novationlaw18.LotsBack': WHATEVER THE INPUT: true; the input reads as it did. -/
def lotsBackSpec : ChangeSpec := { name := "lotsBack", fn := fun _ => fun
  | [d1, d2, d3] => { results := [.lit (.bool true)], args := [d1, d2, d3] }
  | _ => none }
def lotsBackRow : OpenClaim := { program := "ytemhhojenocddaa", sum := "9b38fcd7612511deb3c3dcc5982d57a7d911d60faeef085bf45c6b600ebe75cb", func := "novation/novationlaw18.LotsBack", spec := "lotsBack", inPlace := ["slices.overlaps[novation/api.Lot]", "math/bits.Add64"], unfollowed := true, recurses := true, apart := false }
def LotsBackSaid : Prop := lotsBackRow.holds Try.pinned (OpenSpec.ofChange lotsBackSpec)

/-- ITS FALSE NEIGHBOUR: 'it returns false'. Refute it at one input. -/
def lotsBackWrong : ChangeSpec := { name := "lotsBack", fn := fun _ => fun
  | [d1, d2, d3] => { results := [.lit (.bool false)], args := [d1, d2, d3] }
  | _ => none }
def LotsBackWrongFalsely : Prop := lotsBackRow.holds Try.pinned (OpenSpec.ofChange lotsBackWrong)

/- THE SECOND FORM. 'bulk': how many values and letters a reading holds, each counted each time it is reached (what is shared counts as often as it is met; a slice's spare places count too). A statement '..UptoSaid' is the law's where the arguments, and the package variables that the reading takes, are together of bulk at most 1048576: NARROWER than '..Said'. Prove '..Said' where nothing that the law and all that it calls make is longer than what came in: it says more and counts as full. Else prove '..UptoSaid'. A law counts once. -/
mutual
def uptoBulk {H : Type} : DataW H → Nat
  | .lit (.string bytes) => bytes.length + 1
  | .lit _ => 1
  | .nil => 1
  | .ptr d => uptoBulk d + 1
  | .slice elems spare => uptoBulkAll elems + uptoBulkAll spare + 1
  | .agg parts => uptoBulkAll parts + 1
  | .iface _ d => uptoBulk d + 1
  | .map entries => uptoBulkEntries entries + 1
  | .held _ => 1
def uptoBulkAll {H : Type} : List (DataW H) → Nat
  | [] => 0
  | d :: r => uptoBulk d + uptoBulkAll r
def uptoBulkEntries {H : Type} : List (Lit × DataW H) → Nat
  | [] => 0
  | x :: r => uptoBulkEntry x + uptoBulkEntries r
def uptoBulkEntry {H : Type} : Lit × DataW H → Nat
  | (.string bytes, d) => bytes.length + uptoBulk d + 1
  | (_, d) => uptoBulk d + 1
 end
def uptoSmall : (H : Type) → List (DataW H) → Bool := fun _ ds => decide (uptoBulkAll ds ≤ 1048576)
def OpenSpec.upto (s : _root_.Go.ChangeSpec) : _root_.Go.OpenSpec := { _root_.Go.OpenSpec.ofChange s with cond := some uptoSmall }

/-- 'novationlaw15.AcctBinds', WHERE WHAT IT READS IS OF BULK AT MOST 1048576: true; the input reads as it did. -/
def acctBindsUptoRow : OpenClaim := { program := "ytemhhojenocddaa", sum := "9b38fcd7612511deb3c3dcc5982d57a7d911d60faeef085bf45c6b600ebe75cb", func := "novation/novationlaw15.AcctBinds", spec := "acctBinds", inPlace := ["slices.overlaps[int]"], apart := false, narrowed := true }
def AcctBindsUptoSaid : Prop := acctBindsUptoRow.holds Try.pinned (OpenSpec.upto acctBindsSpec)

/-- 'novationlaw15.AcctApart', WHERE WHAT IT READS IS OF BULK AT MOST 1048576: true; the input reads as it did. -/
def acctApartUptoRow : OpenClaim := { program := "ytemhhojenocddaa", sum := "9b38fcd7612511deb3c3dcc5982d57a7d911d60faeef085bf45c6b600ebe75cb", func := "novation/novationlaw15.AcctApart", spec := "acctApart", inPlace := ["slices.overlaps[int]"], apart := false, narrowed := true }
def AcctApartUptoSaid : Prop := acctApartUptoRow.holds Try.pinned (OpenSpec.upto acctApartSpec)

/-- 'novationlaw15.AcctTables', WHERE WHAT IT READS IS OF BULK AT MOST 1048576: true; the input reads as it did. -/
def acctTablesUptoRow : OpenClaim := { program := "ytemhhojenocddaa", sum := "9b38fcd7612511deb3c3dcc5982d57a7d911d60faeef085bf45c6b600ebe75cb", func := "novation/novationlaw15.AcctTables", spec := "acctTables", inPlace := ["slices.overlaps[novation/api.Account]", "slices.overlaps[int]"], unfollowed := true, recurses := true, apart := false, narrowed := true }
def AcctTablesUptoSaid : Prop := acctTablesUptoRow.holds Try.pinned (OpenSpec.upto acctTablesSpec)

/-- 'novationlaw18.LotsPuts', WHERE WHAT IT READS IS OF BULK AT MOST 1048576: true; the input reads as it did. -/
def lotsPutsUptoRow : OpenClaim := { program := "ytemhhojenocddaa", sum := "9b38fcd7612511deb3c3dcc5982d57a7d911d60faeef085bf45c6b600ebe75cb", func := "novation/novationlaw18.LotsPuts", spec := "lotsPuts", inPlace := ["math/bits.Add64", "slices.overlaps[novation/api.Lot]"], unfollowed := true, recurses := true, apart := false, narrowed := true }
def LotsPutsUptoSaid : Prop := lotsPutsUptoRow.holds Try.pinned (OpenSpec.upto lotsPutsSpec)

/-- 'novationlaw18.LotsDraws', WHERE WHAT IT READS IS OF BULK AT MOST 1048576: true; the input reads as it did. -/
def lotsDrawsUptoRow : OpenClaim := { program := "ytemhhojenocddaa", sum := "9b38fcd7612511deb3c3dcc5982d57a7d911d60faeef085bf45c6b600ebe75cb", func := "novation/novationlaw18.LotsDraws", spec := "lotsDraws", inPlace := ["math/bits.Add64", "slices.overlaps[novation/api.Lot]"], unfollowed := true, recurses := true, apart := false, narrowed := true }
def LotsDrawsUptoSaid : Prop := lotsDrawsUptoRow.holds Try.pinned (OpenSpec.upto lotsDrawsSpec)

/-- 'novationlaw18.LotsJoins', WHERE WHAT IT READS IS OF BULK AT MOST 1048576: true; the input reads as it did. -/
def lotsJoinsUptoRow : OpenClaim := { program := "ytemhhojenocddaa", sum := "9b38fcd7612511deb3c3dcc5982d57a7d911d60faeef085bf45c6b600ebe75cb", func := "novation/novationlaw18.LotsJoins", spec := "lotsJoins", inPlace := ["slices.overlaps[novation/api.Lot]", "math/bits.Add64"], unfollowed := true, recurses := true, apart := false, narrowed := true }
def LotsJoinsUptoSaid : Prop := lotsJoinsUptoRow.holds Try.pinned (OpenSpec.upto lotsJoinsSpec)

/-- 'novationlaw18.LotsBack', WHERE WHAT IT READS IS OF BULK AT MOST 1048576: true; the input reads as it did. -/
def lotsBackUptoRow : OpenClaim := { program := "ytemhhojenocddaa", sum := "9b38fcd7612511deb3c3dcc5982d57a7d911d60faeef085bf45c6b600ebe75cb", func := "novation/novationlaw18.LotsBack", spec := "lotsBack", inPlace := ["slices.overlaps[novation/api.Lot]", "math/bits.Add64"], unfollowed := true, recurses := true, apart := false, narrowed := true }
def LotsBackUptoSaid : Prop := lotsBackUptoRow.holds Try.pinned (OpenSpec.upto lotsBackSpec)

end Rows
end Go.Proofs.Ytemhhojenocddaa
