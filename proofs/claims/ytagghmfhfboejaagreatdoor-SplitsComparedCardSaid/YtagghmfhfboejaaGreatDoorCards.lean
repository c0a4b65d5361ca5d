/-
  DERIVED. GIVEN WITH THE SEED: THE CARDS: each row of YtagghmfhfboejaaGreatDoorRows.lean that lists a variable, with what it lists TIED to the program's text (the seventh form; the later family's looks); each row that meets fmt, with fmt's text TOLD by the authors' own Lean function (tested against real Go, not proved from fmt's source: count such statements apart). THE CARD IS WHAT COUNTS. Prove the row's statement (the work); the ties are given (YtagghmfhfboejaaGreatDoorTie.lean); close each card by the builder's one call (the guide's Derived/Test/ToyasCard.lean, 'card_holds'). Laid BY PROGRAM, IN A SANDBOX (cutbox-door.mjs). By AI agents, Wed Nov 11 2026. No macro, syntax, notation, axiom, sorry.
-/
import Derived.Test.YtagghmfhfboejaaGreatDoorRows
import GoSem.ClaimSeven
namespace Go.Proofs.YtagghmfhfboejaaGreatDoor
namespace Rows

/-- THE TIED CARD OF 'splitlaw1.HistoriesChecked'. -/
def historiesCheckedCard : Claim7 := { stood := { row := historiesCheckedRow, standIns := [], harness := (true, "32f1f5abd6d5c59d3892a5404575f8b6ddb891478890d59bd4039372d1d94c9b"), looks := true }, kinds := [], alts := [], laidByText := true, laidKinds := [.data, .pinned], laidTests := true, laidLooks := .later }
def HistoriesCheckedCardSaid : Prop := Claim7.holds Tryz.pinned (.plain (OpenSpec.ofChange historiesCheckedSpec)) historiesCheckedCard

/-- THE TIED CARD OF 'splitlaw1.SplitsCompared'. -/
def splitsComparedCard : Claim7 := { stood := { row := splitsComparedRow, standIns := [], harness := (true, "32f1f5abd6d5c59d3892a5404575f8b6ddb891478890d59bd4039372d1d94c9b"), looks := true }, kinds := [], alts := [], laidByText := true, laidKinds := [.data, .pinned], laidTests := true, laidLooks := .later }
def SplitsComparedCardSaid : Prop := Claim7.holds Tryz.pinned (.plain (OpenSpec.ofChange splitsComparedSpec)) splitsComparedCard

/-- THE TIED CARD OF 'splitkeep1.SumIsLeast'. -/
def sumIsLeastCard : Claim7 := { stood := { row := sumIsLeastRow, standIns := [], harness := (true, "32f1f5abd6d5c59d3892a5404575f8b6ddb891478890d59bd4039372d1d94c9b"), looks := true }, kinds := [], alts := [], laidByText := true, laidKinds := [.data, .pinned], laidTests := true, laidLooks := .later }
def SumIsLeastCardSaid : Prop := Claim7.holds Tryz.pinned (.plain (OpenSpec.ofChange sumIsLeastSpec)) sumIsLeastCard

/-- THE TIED CARD OF 'splitkeep1.DeltasAddUp'. -/
def deltasAddUpCard : Claim7 := { stood := { row := deltasAddUpRow, standIns := [], harness := (true, "32f1f5abd6d5c59d3892a5404575f8b6ddb891478890d59bd4039372d1d94c9b"), looks := true }, kinds := [], alts := [], laidByText := true, laidKinds := [.data, .pinned], laidTests := true, laidLooks := .later }
def DeltasAddUpCardSaid : Prop := Claim7.holds Tryz.pinned (.plain (OpenSpec.ofChange deltasAddUpSpec)) deltasAddUpCard

/-- THE SECOND FORM's CARD OF 'splitlaw1.HistoriesChecked'. -/
def historiesCheckedUptoCard : Claim7 := { stood := { row := historiesCheckedUptoRow, standIns := [], harness := (true, "32f1f5abd6d5c59d3892a5404575f8b6ddb891478890d59bd4039372d1d94c9b"), looks := true }, kinds := [], alts := [], laidByText := true, laidKinds := [.data, .pinned], laidTests := true, laidLooks := .later }
def HistoriesCheckedUptoCardSaid : Prop := Claim7.holds Tryz.pinned (.plain (OpenSpec.upto historiesCheckedSpec)) historiesCheckedUptoCard

/-- THE SECOND FORM's CARD OF 'splitlaw1.SplitsCompared'. -/
def splitsComparedUptoCard : Claim7 := { stood := { row := splitsComparedUptoRow, standIns := [], harness := (true, "32f1f5abd6d5c59d3892a5404575f8b6ddb891478890d59bd4039372d1d94c9b"), looks := true }, kinds := [], alts := [], laidByText := true, laidKinds := [.data, .pinned], laidTests := true, laidLooks := .later }
def SplitsComparedUptoCardSaid : Prop := Claim7.holds Tryz.pinned (.plain (OpenSpec.upto splitsComparedSpec)) splitsComparedUptoCard

/-- THE SECOND FORM's CARD OF 'splitkeep1.SumIsLeast'. -/
def sumIsLeastUptoCard : Claim7 := { stood := { row := sumIsLeastUptoRow, standIns := [], harness := (true, "32f1f5abd6d5c59d3892a5404575f8b6ddb891478890d59bd4039372d1d94c9b"), looks := true }, kinds := [], alts := [], laidByText := true, laidKinds := [.data, .pinned], laidTests := true, laidLooks := .later }
def SumIsLeastUptoCardSaid : Prop := Claim7.holds Tryz.pinned (.plain (OpenSpec.upto sumIsLeastSpec)) sumIsLeastUptoCard

/-- THE SECOND FORM's CARD OF 'splitkeep1.DeltasAddUp'. -/
def deltasAddUpUptoCard : Claim7 := { stood := { row := deltasAddUpUptoRow, standIns := [], harness := (true, "32f1f5abd6d5c59d3892a5404575f8b6ddb891478890d59bd4039372d1d94c9b"), looks := true }, kinds := [], alts := [], laidByText := true, laidKinds := [.data, .pinned], laidTests := true, laidLooks := .later }
def DeltasAddUpUptoCardSaid : Prop := Claim7.holds Tryz.pinned (.plain (OpenSpec.upto deltasAddUpSpec)) deltasAddUpUptoCard
end Rows
end Go.Proofs.YtagghmfhfboejaaGreatDoor
