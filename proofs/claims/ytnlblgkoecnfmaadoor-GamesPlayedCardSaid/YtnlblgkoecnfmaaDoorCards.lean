/-
  DERIVED. GIVEN WITH THE SEED: THE CARDS: each row of YtnlblgkoecnfmaaDoorRows.lean that lists a variable, with what it lists TIED to the program's text (the seventh form; the later family's looks); each row that meets fmt, with fmt's text TOLD by the authors' own Lean function (tested against real Go, not proved from fmt's source: count such statements apart). THE CARD IS WHAT COUNTS. Prove the row's statement (the work); the ties are given (YtnlblgkoecnfmaaDoorTie.lean); close each card by the builder's one call (the guide's Derived/Test/ToyasCard.lean, 'card_holds'). Laid BY PROGRAM, IN A SANDBOX (cutbox-door.mjs). By AI agents, Wed Nov 11 2026. No macro, syntax, notation, axiom, sorry.
-/
import Derived.Test.YtnlblgkoecnfmaaDoorRows
import GoSem.ClaimSeven
namespace Go.Proofs.YtnlblgkoecnfmaaDoor
namespace Rows

/-- THE TIED CARD OF 'splitlaw1.GamesPlayed'. -/
def gamesPlayedCard : Claim7 := { stood := { row := gamesPlayedRow, standIns := [], harness := (true, "e0e35d7ea4f414577a063b210ebbd4756034583a67517b9fb0d605578625c467"), looks := false }, kinds := [], alts := [], laidByText := true, laidKinds := [.data, .pinned], laidTests := true, laidLooks := .later }
def GamesPlayedCardSaid : Prop := Claim7.holds Tryd.pinned (.plain (OpenSpec.ofChange gamesPlayedSpec)) gamesPlayedCard

/-- THE SECOND FORM's CARD OF 'splitlaw1.GamesPlayed'. -/
def gamesPlayedUptoCard : Claim7 := { stood := { row := gamesPlayedUptoRow, standIns := [], harness := (true, "e0e35d7ea4f414577a063b210ebbd4756034583a67517b9fb0d605578625c467"), looks := false }, kinds := [], alts := [], laidByText := true, laidKinds := [.data, .pinned], laidTests := true, laidLooks := .later }
def GamesPlayedUptoCardSaid : Prop := Claim7.holds Tryd.pinned (.plain (OpenSpec.upto gamesPlayedSpec)) gamesPlayedUptoCard
end Rows
end Go.Proofs.YtnlblgkoecnfmaaDoor
