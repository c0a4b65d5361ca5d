/-
  DERIVED. GIVEN WITH THE SEED: THE CARDS: each row of YtijdbbnnkogkjaaGreatDoorRows.lean that lists a variable, with what it lists TIED to the program's text (the seventh form; the later family's looks); each row that meets fmt, with fmt's text TOLD by the authors' own Lean function (tested against real Go, not proved from fmt's source: count such statements apart). THE CARD IS WHAT COUNTS. Prove the row's statement (the work); the ties are given (YtijdbbnnkogkjaaGreatDoorTie.lean); close each card by the builder's one call (the guide's Derived/Test/ToyasCard.lean, 'card_holds'). Laid BY PROGRAM, IN A SANDBOX (cutbox-door.mjs). By AI agents, Wed Nov 11 2026. No macro, syntax, notation, axiom, sorry.
-/
import Derived.Test.YtijdbbnnkogkjaaGreatDoorRows
import GoSem.ClaimSeven
namespace Go.Proofs.YtijdbbnnkogkjaaGreatDoor
namespace Rows

/-- THE TIED CARD OF 'splitlaw1.MapsChecked'. -/
def mapsCheckedCard : Claim7 := { stood := { row := mapsCheckedRow, standIns := [], harness := (true, "4a1f0105be7dbb72f8975ca911e9291311483344971516fa154af539067d8153"), looks := true }, kinds := [], alts := [], laidByText := true, laidKinds := [.data, .data, .data, .data, .pinned], laidTests := true, laidLooks := .later }
def MapsCheckedCardSaid : Prop := Claim7.holds Tryz.pinned (.plain (OpenSpec.ofChange mapsCheckedSpec)) mapsCheckedCard

/-- THE TIED CARD OF 'splitlaw1.MapTexts'. -/
def mapTextsCard : Claim7 := { stood := { row := mapTextsRow, standIns := [], harness := (true, "4a1f0105be7dbb72f8975ca911e9291311483344971516fa154af539067d8153"), looks := true }, kinds := [], alts := [], laidByText := true, laidKinds := [.data, .data, .data, .data, .sentinel, .sentinel, .pinned], laidTests := true, laidLooks := .later }
def MapTextsCardSaid : Prop := Claim7.holds Tryz.pinned (.plain (OpenSpec.ofChange mapTextsSpec)) mapTextsCard

/-- THE TIED CARD OF 'splitkeep1.MapsComeBack'. -/
def mapsComeBackCard : Claim7 := { stood := { row := mapsComeBackRow, standIns := [], harness := (true, "4a1f0105be7dbb72f8975ca911e9291311483344971516fa154af539067d8153"), looks := true }, kinds := [], alts := [], laidByText := true, laidKinds := [.data, .data, .data, .data, .sentinel, .sentinel, .pinned], laidTests := true, laidLooks := .later }
def MapsComeBackCardSaid : Prop := Claim7.holds Tryz.pinned (.plain (OpenSpec.ofChange mapsComeBackSpec)) mapsComeBackCard

/-- THE SECOND FORM's CARD OF 'splitlaw1.MapsChecked'. -/
def mapsCheckedUptoCard : Claim7 := { stood := { row := mapsCheckedUptoRow, standIns := [], harness := (true, "4a1f0105be7dbb72f8975ca911e9291311483344971516fa154af539067d8153"), looks := true }, kinds := [], alts := [], laidByText := true, laidKinds := [.data, .data, .data, .data, .pinned], laidTests := true, laidLooks := .later }
def MapsCheckedUptoCardSaid : Prop := Claim7.holds Tryz.pinned (.plain (OpenSpec.upto mapsCheckedSpec)) mapsCheckedUptoCard

/-- THE SECOND FORM's CARD OF 'splitlaw1.MapTexts'. -/
def mapTextsUptoCard : Claim7 := { stood := { row := mapTextsUptoRow, standIns := [], harness := (true, "4a1f0105be7dbb72f8975ca911e9291311483344971516fa154af539067d8153"), looks := true }, kinds := [], alts := [], laidByText := true, laidKinds := [.data, .data, .data, .data, .sentinel, .sentinel, .pinned], laidTests := true, laidLooks := .later }
def MapTextsUptoCardSaid : Prop := Claim7.holds Tryz.pinned (.plain (OpenSpec.upto mapTextsSpec)) mapTextsUptoCard

/-- THE SECOND FORM's CARD OF 'splitkeep1.MapsComeBack'. -/
def mapsComeBackUptoCard : Claim7 := { stood := { row := mapsComeBackUptoRow, standIns := [], harness := (true, "4a1f0105be7dbb72f8975ca911e9291311483344971516fa154af539067d8153"), looks := true }, kinds := [], alts := [], laidByText := true, laidKinds := [.data, .data, .data, .data, .sentinel, .sentinel, .pinned], laidTests := true, laidLooks := .later }
def MapsComeBackUptoCardSaid : Prop := Claim7.holds Tryz.pinned (.plain (OpenSpec.upto mapsComeBackSpec)) mapsComeBackUptoCard
end Rows
end Go.Proofs.YtijdbbnnkogkjaaGreatDoor
