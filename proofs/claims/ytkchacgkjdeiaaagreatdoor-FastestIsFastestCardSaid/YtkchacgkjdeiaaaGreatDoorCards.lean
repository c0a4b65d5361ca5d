/-
  DERIVED. GIVEN WITH THE SEED: THE CARDS: each row of YtkchacgkjdeiaaaGreatDoorRows.lean that lists a variable, with what it lists TIED to the program's text (the seventh form; the later family's looks); each row that meets fmt, with fmt's text TOLD by the authors' own Lean function (tested against real Go, not proved from fmt's source: count such statements apart). THE CARD IS WHAT COUNTS. Prove the row's statement (the work); the ties are given (YtkchacgkjdeiaaaGreatDoorTie.lean); close each card by the builder's one call (the guide's Derived/Test/ToyasCard.lean, 'card_holds'). Laid BY PROGRAM, IN A SANDBOX (cutbox-door.mjs). By AI agents, Wed Nov 11 2026. No macro, syntax, notation, axiom, sorry.
-/
import Derived.Test.YtkchacgkjdeiaaaGreatDoorRows
import GoSem.ClaimSeven
namespace Go.Proofs.YtkchacgkjdeiaaaGreatDoor
namespace Rows

/-- THE TIED CARD OF 'splitlaw1.GamesSolved'. -/
def gamesSolvedCard : Claim7 := { stood := { row := gamesSolvedRow, standIns := [], harness := (true, "1a8ccb34f43554acf9cec83f458a20ca69ba2acf46b927532b1102e31dfb0cea"), looks := true }, kinds := [], alts := [], laidByText := true, laidKinds := [.data, .data, .data, .data, .pinned], laidTests := true, laidLooks := .later }
def GamesSolvedCardSaid : Prop := Claim7.holds Tryz.pinned (.plain (OpenSpec.ofChange gamesSolvedSpec)) gamesSolvedCard

/-- THE TIED CARD OF 'splitkeep1.FastestIsFastest'. -/
def fastestIsFastestCard : Claim7 := { stood := { row := fastestIsFastestRow, standIns := [], harness := (true, "1a8ccb34f43554acf9cec83f458a20ca69ba2acf46b927532b1102e31dfb0cea"), looks := true }, kinds := [], alts := [], laidByText := true, laidKinds := [.data, .pinned], laidTests := true, laidLooks := .later }
def FastestIsFastestCardSaid : Prop := Claim7.holds Tryz.pinned (.plain (OpenSpec.ofChange fastestIsFastestSpec)) fastestIsFastestCard

/-- THE SECOND FORM's CARD OF 'splitlaw1.GamesSolved'. -/
def gamesSolvedUptoCard : Claim7 := { stood := { row := gamesSolvedUptoRow, standIns := [], harness := (true, "1a8ccb34f43554acf9cec83f458a20ca69ba2acf46b927532b1102e31dfb0cea"), looks := true }, kinds := [], alts := [], laidByText := true, laidKinds := [.data, .data, .data, .data, .pinned], laidTests := true, laidLooks := .later }
def GamesSolvedUptoCardSaid : Prop := Claim7.holds Tryz.pinned (.plain (OpenSpec.upto gamesSolvedSpec)) gamesSolvedUptoCard

/-- THE SECOND FORM's CARD OF 'splitkeep1.FastestIsFastest'. -/
def fastestIsFastestUptoCard : Claim7 := { stood := { row := fastestIsFastestUptoRow, standIns := [], harness := (true, "1a8ccb34f43554acf9cec83f458a20ca69ba2acf46b927532b1102e31dfb0cea"), looks := true }, kinds := [], alts := [], laidByText := true, laidKinds := [.data, .pinned], laidTests := true, laidLooks := .later }
def FastestIsFastestUptoCardSaid : Prop := Claim7.holds Tryz.pinned (.plain (OpenSpec.upto fastestIsFastestSpec)) fastestIsFastestUptoCard
end Rows
end Go.Proofs.YtkchacgkjdeiaaaGreatDoor
