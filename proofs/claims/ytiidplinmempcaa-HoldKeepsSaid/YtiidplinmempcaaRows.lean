/-
  No cell of these rows narrows 'for every input' (looked for: loops, veiled, ifaces, maps, wideKeys, modest, calm, conditions, laid).
  DERIVED. THE GIVEN ROWS OF THIS SEAT. 9 by the template 'for every input the law returns true; each argument reads behind the call as it read before'; 0 by the template 'total and deterministic' (their statements: YtiidplinmempcaaTotals.lean).
  GIVEN WITH THE SEED: the statements are not yours to turn. If you find one false, say at which input.
  Laid BY PROGRAM, IN A SANDBOX (cutbox-rows.mjs): the forced cells as the released guide's own fill.sh prints them over the translation e7aeba7f8fed95c9… (all of the seat's roots in one cut). By AI agents, Wed Nov 11 2026. No macro, syntax, notation, axiom, sorry.
-/
import Derived.Test.YtiidplinmempcaaChecked
import GoSem.Claim
import GoSem.ClaimJoined
import GoSem.ClaimMapViews
import Derived.JoinedTies
import Derived.KernelRfl
namespace Go.Proofs.Ytiidplinmempcaa
/- THE CELL 'sum', in the pinned program and in every row, IS THE sha256 OF THE DUMP (.gsa) THAT YtiidplinmempcaaProg.lean LOADS. Nothing in Lean hashes anything: it is a label: what it is worth is what the hold of that sum in a sandbox is worth. -/
noncomputable def Try.pinned : Pinned := { name := "ytiidplinmempcaa", sum := "e7aeba7f8fed95c9c7d8372d55761f7a24429d7e32408acb5e03af14b9ed5539", checked := Try.checked }
namespace Rows
def none {H : Type} : Left H := { results := [], args := [] }

/-- 'novationlaw24.GridLosses': WHATEVER THE INPUT: true; the input reads as it did. -/
def gridLossesSpec : ChangeSpec := { name := "gridLosses", fn := fun _ => fun
  | [d1, d2, d3] => { results := [.lit (.bool true)], args := [d1, d2, d3] }
  | _ => none }
def gridLossesRow : OpenClaim := { program := "ytiidplinmempcaa", sum := "e7aeba7f8fed95c9c7d8372d55761f7a24429d7e32408acb5e03af14b9ed5539", func := "novation/novationlaw24.GridLosses", spec := "gridLosses", inPlace := ["math/bits.Sub64", "math/bits.Add64"], unfollowed := true, recurses := true, apart := false }
def GridLossesSaid : Prop := gridLossesRow.holds Try.pinned (OpenSpec.ofChange gridLossesSpec)

/-- ITS FALSE NEIGHBOUR: 'it returns false'. Refute it at one input. -/
def gridLossesWrong : ChangeSpec := { name := "gridLosses", fn := fun _ => fun
  | [d1, d2, d3] => { results := [.lit (.bool false)], args := [d1, d2, d3] }
  | _ => none }
def GridLossesWrongFalsely : Prop := gridLossesRow.holds Try.pinned (OpenSpec.ofChange gridLossesWrong)

/-- 'novationlaw24.GridNets': WHATEVER THE INPUT: true; the input reads as it did. -/
def gridNetsSpec : ChangeSpec := { name := "gridNets", fn := fun _ => fun
  | [d1, d2, d3] => { results := [.lit (.bool true)], args := [d1, d2, d3] }
  | _ => none }
def gridNetsRow : OpenClaim := { program := "ytiidplinmempcaa", sum := "e7aeba7f8fed95c9c7d8372d55761f7a24429d7e32408acb5e03af14b9ed5539", func := "novation/novationlaw24.GridNets", spec := "gridNets", inPlace := ["math/bits.Sub64", "math/bits.Add64"], unfollowed := true, recurses := true, apart := false }
def GridNetsSaid : Prop := gridNetsRow.holds Try.pinned (OpenSpec.ofChange gridNetsSpec)

/-- ITS FALSE NEIGHBOUR: 'it returns false'. Refute it at one input. -/
def gridNetsWrong : ChangeSpec := { name := "gridNets", fn := fun _ => fun
  | [d1, d2, d3] => { results := [.lit (.bool false)], args := [d1, d2, d3] }
  | _ => none }
def GridNetsWrongFalsely : Prop := gridNetsRow.holds Try.pinned (OpenSpec.ofChange gridNetsWrong)

/-- 'novationlaw24.GridTwice': WHATEVER THE INPUT: true; the input reads as it did. -/
def gridTwiceSpec : ChangeSpec := { name := "gridTwice", fn := fun _ => fun
  | [d1, d2] => { results := [.lit (.bool true)], args := [d1, d2] }
  | _ => none }
def gridTwiceRow : OpenClaim := { program := "ytiidplinmempcaa", sum := "e7aeba7f8fed95c9c7d8372d55761f7a24429d7e32408acb5e03af14b9ed5539", func := "novation/novationlaw24.GridTwice", spec := "gridTwice", inPlace := ["math/bits.Sub64", "math/bits.Add64"], unfollowed := true, recurses := true, apart := false }
def GridTwiceSaid : Prop := gridTwiceRow.holds Try.pinned (OpenSpec.ofChange gridTwiceSpec)

/-- ITS FALSE NEIGHBOUR: 'it returns false'. Refute it at one input. -/
def gridTwiceWrong : ChangeSpec := { name := "gridTwice", fn := fun _ => fun
  | [d1, d2] => { results := [.lit (.bool false)], args := [d1, d2] }
  | _ => none }
def GridTwiceWrongFalsely : Prop := gridTwiceRow.holds Try.pinned (OpenSpec.ofChange gridTwiceWrong)

/-- 'novationlaw26.HoldMoves': WHATEVER THE INPUT: true; the input reads as it did. -/
def holdMovesSpec : ChangeSpec := { name := "holdMoves", fn := fun _ => fun
  | [d1, d2, d3, d4, d5] => { results := [.lit (.bool true)], args := [d1, d2, d3, d4, d5] }
  | _ => none }
def holdMovesRow : OpenClaim := { program := "ytiidplinmempcaa", sum := "e7aeba7f8fed95c9c7d8372d55761f7a24429d7e32408acb5e03af14b9ed5539", func := "novation/novationlaw26.HoldMoves", spec := "holdMoves", inPlace := ["slices.overlaps[novation/api.Lot]", "math/bits.Add64"], unfollowed := true, recurses := true, apart := false }
def HoldMovesSaid : Prop := holdMovesRow.holds Try.pinned (OpenSpec.ofChange holdMovesSpec)

/-- ITS FALSE NEIGHBOUR: 'it returns false'. Refute it at one input. -/
def holdMovesWrong : ChangeSpec := { name := "holdMoves", fn := fun _ => fun
  | [d1, d2, d3, d4, d5] => { results := [.lit (.bool false)], args := [d1, d2, d3, d4, d5] }
  | _ => none }
def HoldMovesWrongFalsely : Prop := holdMovesRow.holds Try.pinned (OpenSpec.ofChange holdMovesWrong)

/-- 'novationlaw19.BookShifts': WHATEVER THE INPUT: true; the input reads as it did. -/
def bookShiftsSpec : ChangeSpec := { name := "bookShifts", fn := fun _ => fun
  | [d1, d2, d3, d4] => { results := [.lit (.bool true)], args := [d1, d2, d3, d4] }
  | _ => none }
def bookShiftsRow : OpenClaim := { program := "ytiidplinmempcaa", sum := "e7aeba7f8fed95c9c7d8372d55761f7a24429d7e32408acb5e03af14b9ed5539", func := "novation/novationlaw19.BookShifts", spec := "bookShifts", inPlace := ["math/bits.Add64", "slices.overlaps[novation/api.Pos]"], unfollowed := true, recurses := true, apart := false }
def BookShiftsSaid : Prop := bookShiftsRow.holds Try.pinned (OpenSpec.ofChange bookShiftsSpec)

/-- ITS FALSE NEIGHBOUR: 'it returns false'. Refute it at one input. -/
def bookShiftsWrong : ChangeSpec := { name := "bookShifts", fn := fun _ => fun
  | [d1, d2, d3, d4] => { results := [.lit (.bool false)], args := [d1, d2, d3, d4] }
  | _ => none }
def BookShiftsWrongFalsely : Prop := bookShiftsRow.holds Try.pinned (OpenSpec.ofChange bookShiftsWrong)

/-- 'novationlaw19.BookMoves': WHATEVER THE INPUT: true; the input reads as it did. -/
def bookMovesSpec : ChangeSpec := { name := "bookMoves", fn := fun _ => fun
  | [d1, d2, d3, d4, d5] => { results := [.lit (.bool true)], args := [d1, d2, d3, d4, d5] }
  | _ => none }
def bookMovesRow : OpenClaim := { program := "ytiidplinmempcaa", sum := "e7aeba7f8fed95c9c7d8372d55761f7a24429d7e32408acb5e03af14b9ed5539", func := "novation/novationlaw19.BookMoves", spec := "bookMoves", inPlace := ["math/bits.Add64", "slices.overlaps[novation/api.Pos]"], unfollowed := true, recurses := true, apart := false }
def BookMovesSaid : Prop := bookMovesRow.holds Try.pinned (OpenSpec.ofChange bookMovesSpec)

/-- ITS FALSE NEIGHBOUR: 'it returns false'. Refute it at one input. -/
def bookMovesWrong : ChangeSpec := { name := "bookMoves", fn := fun _ => fun
  | [d1, d2, d3, d4, d5] => { results := [.lit (.bool false)], args := [d1, d2, d3, d4, d5] }
  | _ => none }
def BookMovesWrongFalsely : Prop := bookMovesRow.holds Try.pinned (OpenSpec.ofChange bookMovesWrong)

/-- 'novationlaw25.NeedParts': WHATEVER THE INPUT: true; the input reads as it did. -/
def needPartsSpec : ChangeSpec := { name := "needParts", fn := fun _ => fun
  | [d] => { results := [.lit (.bool true)], args := [d] }
  | _ => none }
def needPartsRow : OpenClaim := { program := "ytiidplinmempcaa", sum := "e7aeba7f8fed95c9c7d8372d55761f7a24429d7e32408acb5e03af14b9ed5539", func := "novation/novationlaw25.NeedParts", spec := "needParts", inPlace := ["math/bits.Add64", "math/bits.Sub64"], unfollowed := true, recurses := true, apart := false }
def NeedPartsSaid : Prop := needPartsRow.holds Try.pinned (OpenSpec.ofChange needPartsSpec)

/-- ITS FALSE NEIGHBOUR: 'it returns false'. Refute it at one input. -/
def needPartsWrong : ChangeSpec := { name := "needParts", fn := fun _ => fun
  | [d] => { results := [.lit (.bool false)], args := [d] }
  | _ => none }
def NeedPartsWrongFalsely : Prop := needPartsRow.holds Try.pinned (OpenSpec.ofChange needPartsWrong)

/-- 'novationlaw26.HoldPuts': WHATEVER THE INPUT: true; the input reads as it did. -/
def holdPutsSpec : ChangeSpec := { name := "holdPuts", fn := fun _ => fun
  | [d1, d2, d3, d4] => { results := [.lit (.bool true)], args := [d1, d2, d3, d4] }
  | _ => none }
def holdPutsRow : OpenClaim := { program := "ytiidplinmempcaa", sum := "e7aeba7f8fed95c9c7d8372d55761f7a24429d7e32408acb5e03af14b9ed5539", func := "novation/novationlaw26.HoldPuts", spec := "holdPuts", inPlace := ["math/bits.Add64", "slices.overlaps[novation/api.Lot]"], unfollowed := true, recurses := true, apart := false }
def HoldPutsSaid : Prop := holdPutsRow.holds Try.pinned (OpenSpec.ofChange holdPutsSpec)

/-- ITS FALSE NEIGHBOUR: 'it returns false'. Refute it at one input. -/
def holdPutsWrong : ChangeSpec := { name := "holdPuts", fn := fun _ => fun
  | [d1, d2, d3, d4] => { results := [.lit (.bool false)], args := [d1, d2, d3, d4] }
  | _ => none }
def HoldPutsWrongFalsely : Prop := holdPutsRow.holds Try.pinned (OpenSpec.ofChange holdPutsWrong)

/-- 'novationlaw26.HoldKeeps': WHATEVER THE INPUT: true; the input reads as it did. -/
def holdKeepsSpec : ChangeSpec := { name := "holdKeeps", fn := fun _ => fun
  | [d1, d2, d3, d4, d5, d6] => { results := [.lit (.bool true)], args := [d1, d2, d3, d4, d5, d6] }
  | _ => none }
def holdKeepsRow : OpenClaim := { program := "ytiidplinmempcaa", sum := "e7aeba7f8fed95c9c7d8372d55761f7a24429d7e32408acb5e03af14b9ed5539", func := "novation/novationlaw26.HoldKeeps", spec := "holdKeeps", inPlace := ["slices.overlaps[novation/api.Lot]", "math/bits.Add64"], unfollowed := true, recurses := true, apart := false }
def HoldKeepsSaid : Prop := holdKeepsRow.holds Try.pinned (OpenSpec.ofChange holdKeepsSpec)

/-- ITS FALSE NEIGHBOUR: 'it returns false'. Refute it at one input. -/
def holdKeepsWrong : ChangeSpec := { name := "holdKeeps", fn := fun _ => fun
  | [d1, d2, d3, d4, d5, d6] => { results := [.lit (.bool false)], args := [d1, d2, d3, d4, d5, d6] }
  | _ => none }
def HoldKeepsWrongFalsely : Prop := holdKeepsRow.holds Try.pinned (OpenSpec.ofChange holdKeepsWrong)

/- THE SECOND FORM. 'bulk': how many values and letters a reading holds, each counted each time it is reached (what is shared counts as often as it is met; a slice's spare places count too). A statement '..UptoSaid' is the law's where the arguments, and the package variables that the reading takes, are together of bulk at most 1048576: NARROWER than '..Said'. Prove '..Said' where nothing that the law and all that it calls make is longer than what came in: it says more and counts as full. Else prove '..UptoSaid'. A law counts once. -/
mutual
def uptoBulk {H : Type} : DataW H → Nat
  | .lit (.string bytes) => bytes.length + 1
  | .lit _ => 1
  | .nil => 1
  | .ptr d => uptoBulk d + 1
  | .slice elems spare => uptoBulkAll elems + uptoBulkAll spare + 1
  | .agg parts => uptoBulkAll parts + 1
  | .iface _ d => uptoBulk d + 1
  | .map entries => uptoBulkEntries entries + 1
  | .held _ => 1
def uptoBulkAll {H : Type} : List (DataW H) → Nat
  | [] => 0
  | d :: r => uptoBulk d + uptoBulkAll r
def uptoBulkEntries {H : Type} : List (Lit × DataW H) → Nat
  | [] => 0
  | x :: r => uptoBulkEntry x + uptoBulkEntries r
def uptoBulkEntry {H : Type} : Lit × DataW H → Nat
  | (.string bytes, d) => bytes.length + uptoBulk d + 1
  | (_, d) => uptoBulk d + 1
 end
def uptoSmall : (H : Type) → List (DataW H) → Bool := fun _ ds => decide (uptoBulkAll ds ≤ 1048576)
def OpenSpec.upto (s : _root_.Go.ChangeSpec) : _root_.Go.OpenSpec := { _root_.Go.OpenSpec.ofChange s with cond := some uptoSmall }

/-- 'novationlaw24.GridLosses', WHERE WHAT IT READS IS OF BULK AT MOST 1048576: true; the input reads as it did. -/
def gridLossesUptoRow : OpenClaim := { program := "ytiidplinmempcaa", sum := "e7aeba7f8fed95c9c7d8372d55761f7a24429d7e32408acb5e03af14b9ed5539", func := "novation/novationlaw24.GridLosses", spec := "gridLosses", inPlace := ["math/bits.Sub64", "math/bits.Add64"], unfollowed := true, recurses := true, apart := false, narrowed := true }
def GridLossesUptoSaid : Prop := gridLossesUptoRow.holds Try.pinned (OpenSpec.upto gridLossesSpec)

/-- 'novationlaw24.GridNets', WHERE WHAT IT READS IS OF BULK AT MOST 1048576: true; the input reads as it did. -/
def gridNetsUptoRow : OpenClaim := { program := "ytiidplinmempcaa", sum := "e7aeba7f8fed95c9c7d8372d55761f7a24429d7e32408acb5e03af14b9ed5539", func := "novation/novationlaw24.GridNets", spec := "gridNets", inPlace := ["math/bits.Sub64", "math/bits.Add64"], unfollowed := true, recurses := true, apart := false, narrowed := true }
def GridNetsUptoSaid : Prop := gridNetsUptoRow.holds Try.pinned (OpenSpec.upto gridNetsSpec)

/-- 'novationlaw24.GridTwice', WHERE WHAT IT READS IS OF BULK AT MOST 1048576: true; the input reads as it did. -/
def gridTwiceUptoRow : OpenClaim := { program := "ytiidplinmempcaa", sum := "e7aeba7f8fed95c9c7d8372d55761f7a24429d7e32408acb5e03af14b9ed5539", func := "novation/novationlaw24.GridTwice", spec := "gridTwice", inPlace := ["math/bits.Sub64", "math/bits.Add64"], unfollowed := true, recurses := true, apart := false, narrowed := true }
def GridTwiceUptoSaid : Prop := gridTwiceUptoRow.holds Try.pinned (OpenSpec.upto gridTwiceSpec)

/-- 'novationlaw26.HoldMoves', WHERE WHAT IT READS IS OF BULK AT MOST 1048576: true; the input reads as it did. -/
def holdMovesUptoRow : OpenClaim := { program := "ytiidplinmempcaa", sum := "e7aeba7f8fed95c9c7d8372d55761f7a24429d7e32408acb5e03af14b9ed5539", func := "novation/novationlaw26.HoldMoves", spec := "holdMoves", inPlace := ["slices.overlaps[novation/api.Lot]", "math/bits.Add64"], unfollowed := true, recurses := true, apart := false, narrowed := true }
def HoldMovesUptoSaid : Prop := holdMovesUptoRow.holds Try.pinned (OpenSpec.upto holdMovesSpec)

/-- 'novationlaw19.BookShifts', WHERE WHAT IT READS IS OF BULK AT MOST 1048576: true; the input reads as it did. -/
def bookShiftsUptoRow : OpenClaim := { program := "ytiidplinmempcaa", sum := "e7aeba7f8fed95c9c7d8372d55761f7a24429d7e32408acb5e03af14b9ed5539", func := "novation/novationlaw19.BookShifts", spec := "bookShifts", inPlace := ["math/bits.Add64", "slices.overlaps[novation/api.Pos]"], unfollowed := true, recurses := true, apart := false, narrowed := true }
def BookShiftsUptoSaid : Prop := bookShiftsUptoRow.holds Try.pinned (OpenSpec.upto bookShiftsSpec)

/-- 'novationlaw19.BookMoves', WHERE WHAT IT READS IS OF BULK AT MOST 1048576: true; the input reads as it did. -/
def bookMovesUptoRow : OpenClaim := { program := "ytiidplinmempcaa", sum := "e7aeba7f8fed95c9c7d8372d55761f7a24429d7e32408acb5e03af14b9ed5539", func := "novation/novationlaw19.BookMoves", spec := "bookMoves", inPlace := ["math/bits.Add64", "slices.overlaps[novation/api.Pos]"], unfollowed := true, recurses := true, apart := false, narrowed := true }
def BookMovesUptoSaid : Prop := bookMovesUptoRow.holds Try.pinned (OpenSpec.upto bookMovesSpec)

/-- 'novationlaw25.NeedParts', WHERE WHAT IT READS IS OF BULK AT MOST 1048576: true; the input reads as it did. -/
def needPartsUptoRow : OpenClaim := { program := "ytiidplinmempcaa", sum := "e7aeba7f8fed95c9c7d8372d55761f7a24429d7e32408acb5e03af14b9ed5539", func := "novation/novationlaw25.NeedParts", spec := "needParts", inPlace := ["math/bits.Add64", "math/bits.Sub64"], unfollowed := true, recurses := true, apart := false, narrowed := true }
def NeedPartsUptoSaid : Prop := needPartsUptoRow.holds Try.pinned (OpenSpec.upto needPartsSpec)

/-- 'novationlaw26.HoldPuts', WHERE WHAT IT READS IS OF BULK AT MOST 1048576: true; the input reads as it did. -/
def holdPutsUptoRow : OpenClaim := { program := "ytiidplinmempcaa", sum := "e7aeba7f8fed95c9c7d8372d55761f7a24429d7e32408acb5e03af14b9ed5539", func := "novation/novationlaw26.HoldPuts", spec := "holdPuts", inPlace := ["math/bits.Add64", "slices.overlaps[novation/api.Lot]"], unfollowed := true, recurses := true, apart := false, narrowed := true }
def HoldPutsUptoSaid : Prop := holdPutsUptoRow.holds Try.pinned (OpenSpec.upto holdPutsSpec)

/-- 'novationlaw26.HoldKeeps', WHERE WHAT IT READS IS OF BULK AT MOST 1048576: true; the input reads as it did. -/
def holdKeepsUptoRow : OpenClaim := { program := "ytiidplinmempcaa", sum := "e7aeba7f8fed95c9c7d8372d55761f7a24429d7e32408acb5e03af14b9ed5539", func := "novation/novationlaw26.HoldKeeps", spec := "holdKeeps", inPlace := ["slices.overlaps[novation/api.Lot]", "math/bits.Add64"], unfollowed := true, recurses := true, apart := false, narrowed := true }
def HoldKeepsUptoSaid : Prop := holdKeepsUptoRow.holds Try.pinned (OpenSpec.upto holdKeepsSpec)

end Rows
end Go.Proofs.Ytiidplinmempcaa
