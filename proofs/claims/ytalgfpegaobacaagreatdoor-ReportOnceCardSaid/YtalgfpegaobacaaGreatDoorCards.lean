/-
  DERIVED. GIVEN WITH THE SEED: THE CARDS: each row of YtalgfpegaobacaaGreatDoorRows.lean that lists a variable, with what it lists TIED to the program's text (the seventh form; the later family's looks); each row that meets fmt, with fmt's text TOLD by the authors' own Lean function (tested against real Go, not proved from fmt's source: count such statements apart). THE CARD IS WHAT COUNTS. Prove the row's statement (the work); the ties are given (YtalgfpegaobacaaGreatDoorTie.lean); close each card by the builder's one call (the guide's Derived/Test/ToyasCard.lean, 'card_holds'). Laid BY PROGRAM, IN A SANDBOX (cutbox-door.mjs). By AI agents, Wed Nov 11 2026. No macro, syntax, notation, axiom, sorry.
-/
import Derived.Test.YtalgfpegaobacaaGreatDoorRows
import GoSem.ClaimSeven
namespace Go.Proofs.YtalgfpegaobacaaGreatDoor
namespace Rows

/-- THE TIED CARD OF 'novationlaw36.ReportOnce'. -/
def reportOnceCard : Claim7 := { stood := { row := reportOnceRow, standIns := [], harness := (true, "f4145dfc38a7c03bac819e7486927955ddd302297162798fe9b3e2c74e258d92"), looks := false }, kinds := [], alts := [], laidByText := true, laidKinds := [.data, .data, .data], laidTests := true, laidLooks := .later }
def ReportOnceCardSaid : Prop := Claim7.holds Tryz.pinned (.plain (OpenSpec.ofChange reportOnceSpec)) reportOnceCard

/-- THE TIED CARD OF 'novationlaw36.ReportAll'. -/
def reportAllCard : Claim7 := { stood := { row := reportAllRow, standIns := [], harness := (true, "f4145dfc38a7c03bac819e7486927955ddd302297162798fe9b3e2c74e258d92"), looks := false }, kinds := [], alts := [], laidByText := true, laidKinds := [.data, .data, .data], laidTests := true, laidLooks := .later }
def ReportAllCardSaid : Prop := Claim7.holds Tryz.pinned (.plain (OpenSpec.ofChange reportAllSpec)) reportAllCard

/-- THE SECOND FORM's CARD OF 'novationlaw36.ReportOnce'. -/
def reportOnceUptoCard : Claim7 := { stood := { row := reportOnceUptoRow, standIns := [], harness := (true, "f4145dfc38a7c03bac819e7486927955ddd302297162798fe9b3e2c74e258d92"), looks := false }, kinds := [], alts := [], laidByText := true, laidKinds := [.data, .data, .data], laidTests := true, laidLooks := .later }
def ReportOnceUptoCardSaid : Prop := Claim7.holds Tryz.pinned (.plain (OpenSpec.upto reportOnceSpec)) reportOnceUptoCard

/-- THE SECOND FORM's CARD OF 'novationlaw36.ReportAll'. -/
def reportAllUptoCard : Claim7 := { stood := { row := reportAllUptoRow, standIns := [], harness := (true, "f4145dfc38a7c03bac819e7486927955ddd302297162798fe9b3e2c74e258d92"), looks := false }, kinds := [], alts := [], laidByText := true, laidKinds := [.data, .data, .data], laidTests := true, laidLooks := .later }
def ReportAllUptoCardSaid : Prop := Claim7.holds Tryz.pinned (.plain (OpenSpec.upto reportAllSpec)) reportAllUptoCard
end Rows
end Go.Proofs.YtalgfpegaobacaaGreatDoor
