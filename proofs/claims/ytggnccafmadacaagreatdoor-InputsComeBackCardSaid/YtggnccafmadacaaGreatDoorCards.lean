/-
  DERIVED. GIVEN WITH THE SEED: THE CARDS: each row of YtggnccafmadacaaGreatDoorRows.lean that lists a variable, with what it lists TIED to the program's text (the seventh form; the later family's looks); each row that meets fmt, with fmt's text TOLD by the authors' own Lean function (tested against real Go, not proved from fmt's source: count such statements apart). THE CARD IS WHAT COUNTS. Prove the row's statement (the work); the ties are given (YtggnccafmadacaaGreatDoorTie.lean); close each card by the builder's one call (the guide's Derived/Test/ToyasCard.lean, 'card_holds'). Laid BY PROGRAM, IN A SANDBOX (cutbox-door.mjs). By AI agents, Wed Nov 11 2026. No macro, syntax, notation, axiom, sorry.
-/
import Derived.Test.YtggnccafmadacaaGreatDoorRows
import GoSem.ClaimSeven
namespace Go.Proofs.YtggnccafmadacaaGreatDoor
namespace Rows

/-- THE TIED CARD OF 'splitlaw1.ChainsKept'. -/
def chainsKeptCard : Claim7 := { stood := { row := chainsKeptRow, standIns := [], harness := (true, "e7e46eb20e1301a1e13eea0b0aeb7e0ff20b79b2819455bc2b5ac31657cb1664"), looks := true }, kinds := [], alts := [], laidByText := true, laidKinds := [.data, .data, .data, .data, .sentinel, .sentinel, .pinned], laidTests := true, laidLooks := .later }
def ChainsKeptCardSaid : Prop := Claim7.holds Tryz.pinned (.plain (OpenSpec.ofChange chainsKeptSpec)) chainsKeptCard

/-- THE TIED CARD OF 'splitlaw1.HistoriesJoined'. -/
def historiesJoinedCard : Claim7 := { stood := { row := historiesJoinedRow, standIns := [], harness := (true, "e7e46eb20e1301a1e13eea0b0aeb7e0ff20b79b2819455bc2b5ac31657cb1664"), looks := true }, kinds := [], alts := [], laidByText := true, laidKinds := [.data, .data, .data, .data, .sentinel, .sentinel, .pinned], laidTests := true, laidLooks := .later }
def HistoriesJoinedCardSaid : Prop := Claim7.holds Tryz.pinned (.plain (OpenSpec.ofChange historiesJoinedSpec)) historiesJoinedCard

/-- THE TIED CARD OF 'splitkeep1.InputsComeBack'. -/
def inputsComeBackCard : Claim7 := { stood := { row := inputsComeBackRow, standIns := [], harness := (true, "e7e46eb20e1301a1e13eea0b0aeb7e0ff20b79b2819455bc2b5ac31657cb1664"), looks := true }, kinds := [], alts := [], laidByText := true, laidKinds := [.data, .data, .data, .data, .sentinel, .sentinel, .pinned], laidTests := true, laidLooks := .later }
def InputsComeBackCardSaid : Prop := Claim7.holds Tryz.pinned (.plain (OpenSpec.ofChange inputsComeBackSpec)) inputsComeBackCard

/-- THE TIED CARD OF 'splitkeep1.HistoriesComeBack'. -/
def historiesComeBackCard : Claim7 := { stood := { row := historiesComeBackRow, standIns := [], harness := (true, "e7e46eb20e1301a1e13eea0b0aeb7e0ff20b79b2819455bc2b5ac31657cb1664"), looks := true }, kinds := [], alts := [], laidByText := true, laidKinds := [.data, .data, .data, .data, .sentinel, .sentinel, .pinned], laidTests := true, laidLooks := .later }
def HistoriesComeBackCardSaid : Prop := Claim7.holds Tryz.pinned (.plain (OpenSpec.ofChange historiesComeBackSpec)) historiesComeBackCard

/-- THE SECOND FORM's CARD OF 'splitlaw1.ChainsKept'. -/
def chainsKeptUptoCard : Claim7 := { stood := { row := chainsKeptUptoRow, standIns := [], harness := (true, "e7e46eb20e1301a1e13eea0b0aeb7e0ff20b79b2819455bc2b5ac31657cb1664"), looks := true }, kinds := [], alts := [], laidByText := true, laidKinds := [.data, .data, .data, .data, .sentinel, .sentinel, .pinned], laidTests := true, laidLooks := .later }
def ChainsKeptUptoCardSaid : Prop := Claim7.holds Tryz.pinned (.plain (OpenSpec.upto chainsKeptSpec)) chainsKeptUptoCard

/-- THE SECOND FORM's CARD OF 'splitlaw1.HistoriesJoined'. -/
def historiesJoinedUptoCard : Claim7 := { stood := { row := historiesJoinedUptoRow, standIns := [], harness := (true, "e7e46eb20e1301a1e13eea0b0aeb7e0ff20b79b2819455bc2b5ac31657cb1664"), looks := true }, kinds := [], alts := [], laidByText := true, laidKinds := [.data, .data, .data, .data, .sentinel, .sentinel, .pinned], laidTests := true, laidLooks := .later }
def HistoriesJoinedUptoCardSaid : Prop := Claim7.holds Tryz.pinned (.plain (OpenSpec.upto historiesJoinedSpec)) historiesJoinedUptoCard

/-- THE SECOND FORM's CARD OF 'splitkeep1.InputsComeBack'. -/
def inputsComeBackUptoCard : Claim7 := { stood := { row := inputsComeBackUptoRow, standIns := [], harness := (true, "e7e46eb20e1301a1e13eea0b0aeb7e0ff20b79b2819455bc2b5ac31657cb1664"), looks := true }, kinds := [], alts := [], laidByText := true, laidKinds := [.data, .data, .data, .data, .sentinel, .sentinel, .pinned], laidTests := true, laidLooks := .later }
def InputsComeBackUptoCardSaid : Prop := Claim7.holds Tryz.pinned (.plain (OpenSpec.upto inputsComeBackSpec)) inputsComeBackUptoCard

/-- THE SECOND FORM's CARD OF 'splitkeep1.HistoriesComeBack'. -/
def historiesComeBackUptoCard : Claim7 := { stood := { row := historiesComeBackUptoRow, standIns := [], harness := (true, "e7e46eb20e1301a1e13eea0b0aeb7e0ff20b79b2819455bc2b5ac31657cb1664"), looks := true }, kinds := [], alts := [], laidByText := true, laidKinds := [.data, .data, .data, .data, .sentinel, .sentinel, .pinned], laidTests := true, laidLooks := .later }
def HistoriesComeBackUptoCardSaid : Prop := Claim7.holds Tryz.pinned (.plain (OpenSpec.upto historiesComeBackSpec)) historiesComeBackUptoCard
end Rows
end Go.Proofs.YtggnccafmadacaaGreatDoor
