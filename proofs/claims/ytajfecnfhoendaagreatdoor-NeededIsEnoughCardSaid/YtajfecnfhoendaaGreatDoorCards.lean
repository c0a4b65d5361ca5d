/-
  DERIVED. GIVEN WITH THE SEED: THE CARDS: each row of YtajfecnfhoendaaGreatDoorRows.lean that lists a variable, with what it lists TIED to the program's text (the seventh form; the later family's looks); each row that meets fmt, with fmt's text TOLD by the authors' own Lean function (tested against real Go, not proved from fmt's source: count such statements apart). THE CARD IS WHAT COUNTS. Prove the row's statement (the work); the ties are given (YtajfecnfhoendaaGreatDoorTie.lean); close each card by the builder's one call (the guide's Derived/Test/ToyasCard.lean, 'card_holds'). Laid BY PROGRAM, IN A SANDBOX (cutbox-door.mjs). By AI agents, Wed Nov 11 2026. No macro, syntax, notation, axiom, sorry.
-/
import Derived.Test.YtajfecnfhoendaaGreatDoorRows
import GoSem.ClaimSeven
namespace Go.Proofs.YtajfecnfhoendaaGreatDoor
namespace Rows

/-- THE TIED CARD OF 'splitkeep1.NeededIsEnough'. -/
def neededIsEnoughCard : Claim7 := { stood := { row := neededIsEnoughRow, standIns := [], harness := (true, "bfbe6428ac6433c72d7b06580b66f8bc643938ed0627f3d9c28f59f540f1e5f9"), looks := true }, kinds := [], alts := [], laidByText := true, laidKinds := [.data, .pinned], laidTests := true, laidLooks := .later }
def NeededIsEnoughCardSaid : Prop := Claim7.holds Tryz.pinned (.plain (OpenSpec.ofChange neededIsEnoughSpec)) neededIsEnoughCard

/-- THE TIED CARD OF 'splitkeep1.InputsStay'. -/
def inputsStayCard : Claim7 := { stood := { row := inputsStayRow, standIns := [], harness := (true, "bfbe6428ac6433c72d7b06580b66f8bc643938ed0627f3d9c28f59f540f1e5f9"), looks := true }, kinds := [], alts := [], laidByText := true, laidKinds := [.data, .pinned], laidTests := true, laidLooks := .later }
def InputsStayCardSaid : Prop := Claim7.holds Tryz.pinned (.plain (OpenSpec.ofChange inputsStaySpec)) inputsStayCard

/-- THE SECOND FORM's CARD OF 'splitkeep1.NeededIsEnough'. -/
def neededIsEnoughUptoCard : Claim7 := { stood := { row := neededIsEnoughUptoRow, standIns := [], harness := (true, "bfbe6428ac6433c72d7b06580b66f8bc643938ed0627f3d9c28f59f540f1e5f9"), looks := true }, kinds := [], alts := [], laidByText := true, laidKinds := [.data, .pinned], laidTests := true, laidLooks := .later }
def NeededIsEnoughUptoCardSaid : Prop := Claim7.holds Tryz.pinned (.plain (OpenSpec.upto neededIsEnoughSpec)) neededIsEnoughUptoCard

/-- THE SECOND FORM's CARD OF 'splitkeep1.InputsStay'. -/
def inputsStayUptoCard : Claim7 := { stood := { row := inputsStayUptoRow, standIns := [], harness := (true, "bfbe6428ac6433c72d7b06580b66f8bc643938ed0627f3d9c28f59f540f1e5f9"), looks := true }, kinds := [], alts := [], laidByText := true, laidKinds := [.data, .pinned], laidTests := true, laidLooks := .later }
def InputsStayUptoCardSaid : Prop := Claim7.holds Tryz.pinned (.plain (OpenSpec.upto inputsStaySpec)) inputsStayUptoCard
end Rows
end Go.Proofs.YtajfecnfhoendaaGreatDoor
