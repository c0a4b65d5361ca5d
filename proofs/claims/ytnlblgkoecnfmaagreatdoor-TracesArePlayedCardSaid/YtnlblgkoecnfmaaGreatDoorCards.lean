/-
  DERIVED. GIVEN WITH THE SEED: THE CARDS: each row of YtnlblgkoecnfmaaGreatDoorRows.lean that lists a variable, with what it lists TIED to the program's text (the seventh form; the later family's looks); each row that meets fmt, with fmt's text TOLD by the authors' own Lean function (tested against real Go, not proved from fmt's source: count such statements apart). THE CARD IS WHAT COUNTS. Prove the row's statement (the work); the ties are given (YtnlblgkoecnfmaaGreatDoorTie.lean); close each card by the builder's one call (the guide's Derived/Test/ToyasCard.lean, 'card_holds'). Laid BY PROGRAM, IN A SANDBOX (cutbox-door.mjs). By AI agents, Wed Nov 11 2026. No macro, syntax, notation, axiom, sorry.
-/
import Derived.Test.YtnlblgkoecnfmaaGreatDoorRows
import GoSem.ClaimSeven
namespace Go.Proofs.YtnlblgkoecnfmaaGreatDoor
namespace Rows

/-- THE TIED CARD OF 'splitlaw1.GamesSolved'. -/
def gamesSolvedCard : Claim7 := { stood := { row := gamesSolvedRow, standIns := [], harness := (true, "0092b49275a17ae5c5dda5b839cef07609928a6915ecb861f75f9e43164768b7"), looks := true }, kinds := [], alts := [], laidByText := true, laidKinds := [.data, .data, .data, .data, .pinned], laidTests := true, laidLooks := .later }
def GamesSolvedCardSaid : Prop := Claim7.holds Tryz.pinned (.plain (OpenSpec.ofChange gamesSolvedSpec)) gamesSolvedCard

/-- THE TIED CARD OF 'splitkeep1.TracesArePlayed'. -/
def tracesArePlayedCard : Claim7 := { stood := { row := tracesArePlayedRow, standIns := [], harness := (true, "0092b49275a17ae5c5dda5b839cef07609928a6915ecb861f75f9e43164768b7"), looks := true }, kinds := [], alts := [], laidByText := true, laidKinds := [.data, .pinned], laidTests := true, laidLooks := .later }
def TracesArePlayedCardSaid : Prop := Claim7.holds Tryz.pinned (.plain (OpenSpec.ofChange tracesArePlayedSpec)) tracesArePlayedCard

/-- THE TIED CARD OF 'splitkeep1.FastestIsFastest'. -/
def fastestIsFastestCard : Claim7 := { stood := { row := fastestIsFastestRow, standIns := [], harness := (true, "0092b49275a17ae5c5dda5b839cef07609928a6915ecb861f75f9e43164768b7"), looks := true }, kinds := [], alts := [], laidByText := true, laidKinds := [.data, .pinned], laidTests := true, laidLooks := .later }
def FastestIsFastestCardSaid : Prop := Claim7.holds Tryz.pinned (.plain (OpenSpec.ofChange fastestIsFastestSpec)) fastestIsFastestCard

/-- THE SECOND FORM's CARD OF 'splitlaw1.GamesSolved'. -/
def gamesSolvedUptoCard : Claim7 := { stood := { row := gamesSolvedUptoRow, standIns := [], harness := (true, "0092b49275a17ae5c5dda5b839cef07609928a6915ecb861f75f9e43164768b7"), looks := true }, kinds := [], alts := [], laidByText := true, laidKinds := [.data, .data, .data, .data, .pinned], laidTests := true, laidLooks := .later }
def GamesSolvedUptoCardSaid : Prop := Claim7.holds Tryz.pinned (.plain (OpenSpec.upto gamesSolvedSpec)) gamesSolvedUptoCard

/-- THE SECOND FORM's CARD OF 'splitkeep1.TracesArePlayed'. -/
def tracesArePlayedUptoCard : Claim7 := { stood := { row := tracesArePlayedUptoRow, standIns := [], harness := (true, "0092b49275a17ae5c5dda5b839cef07609928a6915ecb861f75f9e43164768b7"), looks := true }, kinds := [], alts := [], laidByText := true, laidKinds := [.data, .pinned], laidTests := true, laidLooks := .later }
def TracesArePlayedUptoCardSaid : Prop := Claim7.holds Tryz.pinned (.plain (OpenSpec.upto tracesArePlayedSpec)) tracesArePlayedUptoCard

/-- THE SECOND FORM's CARD OF 'splitkeep1.FastestIsFastest'. -/
def fastestIsFastestUptoCard : Claim7 := { stood := { row := fastestIsFastestUptoRow, standIns := [], harness := (true, "0092b49275a17ae5c5dda5b839cef07609928a6915ecb861f75f9e43164768b7"), looks := true }, kinds := [], alts := [], laidByText := true, laidKinds := [.data, .pinned], laidTests := true, laidLooks := .later }
def FastestIsFastestUptoCardSaid : Prop := Claim7.holds Tryz.pinned (.plain (OpenSpec.upto fastestIsFastestSpec)) fastestIsFastestUptoCard
end Rows
end Go.Proofs.YtnlblgkoecnfmaaGreatDoor
