/-
  DERIVED. GIVEN WITH THE SEED: THE CARDS: each row of YtlinbaojkmcbeaaGreatDoorRows.lean that lists a variable, with what it lists TIED to the program's text (the seventh form; the later family's looks); each row that meets fmt, with fmt's text TOLD by the authors' own Lean function (tested against real Go, not proved from fmt's source: count such statements apart). THE CARD IS WHAT COUNTS. Prove the row's statement (the work); the ties are given (YtlinbaojkmcbeaaGreatDoorTie.lean); close each card by the builder's one call (the guide's Derived/Test/ToyasCard.lean, 'card_holds'). Laid BY PROGRAM, IN A SANDBOX (cutbox-door.mjs). By AI agents, Wed Nov 11 2026. No macro, syntax, notation, axiom, sorry.
-/
import Derived.Test.YtlinbaojkmcbeaaGreatDoorRows
import GoSem.ClaimSeven
namespace Go.Proofs.YtlinbaojkmcbeaaGreatDoor
namespace Rows

/-- THE TIED CARD OF 'splitlaw1.VideoTexts'. -/
def videoTextsCard : Claim7 := { stood := { row := videoTextsRow, standIns := [], harness := (true, "30a5ceb87342ee2d9db81bfd9818ddfc91a1f5049297f3a9d2f5f582a58b29a5"), looks := true }, kinds := [], alts := [], laidByText := true, laidKinds := [.data, .data, .data, .data, .sentinel, .sentinel, .pinned], laidTests := true, laidLooks := .later }
def VideoTextsCardSaid : Prop := Claim7.holds Tryz.pinned (.plain (OpenSpec.ofChange videoTextsSpec)) videoTextsCard

/-- THE TIED CARD OF 'splitkeep1.VideosComeBack'. -/
def videosComeBackCard : Claim7 := { stood := { row := videosComeBackRow, standIns := [], harness := (true, "30a5ceb87342ee2d9db81bfd9818ddfc91a1f5049297f3a9d2f5f582a58b29a5"), looks := true }, kinds := [], alts := [], laidByText := true, laidKinds := [.data, .data, .data, .data, .sentinel, .sentinel, .pinned], laidTests := true, laidLooks := .later }
def VideosComeBackCardSaid : Prop := Claim7.holds Tryz.pinned (.plain (OpenSpec.ofChange videosComeBackSpec)) videosComeBackCard

/-- THE SECOND FORM's CARD OF 'splitlaw1.VideoTexts'. -/
def videoTextsUptoCard : Claim7 := { stood := { row := videoTextsUptoRow, standIns := [], harness := (true, "30a5ceb87342ee2d9db81bfd9818ddfc91a1f5049297f3a9d2f5f582a58b29a5"), looks := true }, kinds := [], alts := [], laidByText := true, laidKinds := [.data, .data, .data, .data, .sentinel, .sentinel, .pinned], laidTests := true, laidLooks := .later }
def VideoTextsUptoCardSaid : Prop := Claim7.holds Tryz.pinned (.plain (OpenSpec.upto videoTextsSpec)) videoTextsUptoCard

/-- THE SECOND FORM's CARD OF 'splitkeep1.VideosComeBack'. -/
def videosComeBackUptoCard : Claim7 := { stood := { row := videosComeBackUptoRow, standIns := [], harness := (true, "30a5ceb87342ee2d9db81bfd9818ddfc91a1f5049297f3a9d2f5f582a58b29a5"), looks := true }, kinds := [], alts := [], laidByText := true, laidKinds := [.data, .data, .data, .data, .sentinel, .sentinel, .pinned], laidTests := true, laidLooks := .later }
def VideosComeBackUptoCardSaid : Prop := Claim7.holds Tryz.pinned (.plain (OpenSpec.upto videosComeBackSpec)) videosComeBackUptoCard
end Rows
end Go.Proofs.YtlinbaojkmcbeaaGreatDoor
