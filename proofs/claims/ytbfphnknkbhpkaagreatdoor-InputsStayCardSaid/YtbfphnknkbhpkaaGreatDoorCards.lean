/-
  DERIVED. GIVEN WITH THE SEED: THE CARDS: each row of YtbfphnknkbhpkaaGreatDoorRows.lean that lists a variable, with what it lists TIED to the program's text (the seventh form; the later family's looks); each row that meets fmt, with fmt's text TOLD by the authors' own Lean function (tested against real Go, not proved from fmt's source: count such statements apart). THE CARD IS WHAT COUNTS. Prove the row's statement (the work); the ties are given (YtbfphnknkbhpkaaGreatDoorTie.lean); close each card by the builder's one call (the guide's Derived/Test/ToyasCard.lean, 'card_holds'). Laid BY PROGRAM, IN A SANDBOX (cutbox-door.mjs). By AI agents, Wed Nov 11 2026. No macro, syntax, notation, axiom, sorry.
-/
import Derived.Test.YtbfphnknkbhpkaaGreatDoorRows
import GoSem.ClaimSeven
namespace Go.Proofs.YtbfphnknkbhpkaaGreatDoor
namespace Rows

/-- THE TIED CARD OF 'splitkeep1.InputsStay'. -/
def inputsStayCard : Claim7 := { stood := { row := inputsStayRow, standIns := [], harness := (true, "999824c52221bb9a0432d2218f5f988665f02d01cb1314246acbf62c33292f8d"), looks := true }, kinds := [], alts := [], laidByText := true, laidKinds := [.data, .pinned], laidTests := true, laidLooks := .later }
def InputsStayCardSaid : Prop := Claim7.holds Tryz.pinned (.plain (OpenSpec.ofChange inputsStaySpec)) inputsStayCard

/-- THE TIED CARD OF 'splitkeep1.VideosStay'. -/
def videosStayCard : Claim7 := { stood := { row := videosStayRow, standIns := [], harness := (true, "999824c52221bb9a0432d2218f5f988665f02d01cb1314246acbf62c33292f8d"), looks := true }, kinds := [], alts := [], laidByText := true, laidKinds := [.data, .pinned], laidTests := true, laidLooks := .later }
def VideosStayCardSaid : Prop := Claim7.holds Tryz.pinned (.plain (OpenSpec.ofChange videosStaySpec)) videosStayCard

/-- THE SECOND FORM's CARD OF 'splitkeep1.InputsStay'. -/
def inputsStayUptoCard : Claim7 := { stood := { row := inputsStayUptoRow, standIns := [], harness := (true, "999824c52221bb9a0432d2218f5f988665f02d01cb1314246acbf62c33292f8d"), looks := true }, kinds := [], alts := [], laidByText := true, laidKinds := [.data, .pinned], laidTests := true, laidLooks := .later }
def InputsStayUptoCardSaid : Prop := Claim7.holds Tryz.pinned (.plain (OpenSpec.upto inputsStaySpec)) inputsStayUptoCard

/-- THE SECOND FORM's CARD OF 'splitkeep1.VideosStay'. -/
def videosStayUptoCard : Claim7 := { stood := { row := videosStayUptoRow, standIns := [], harness := (true, "999824c52221bb9a0432d2218f5f988665f02d01cb1314246acbf62c33292f8d"), looks := true }, kinds := [], alts := [], laidByText := true, laidKinds := [.data, .pinned], laidTests := true, laidLooks := .later }
def VideosStayUptoCardSaid : Prop := Claim7.holds Tryz.pinned (.plain (OpenSpec.upto videosStaySpec)) videosStayUptoCard
end Rows
end Go.Proofs.YtbfphnknkbhpkaaGreatDoor
