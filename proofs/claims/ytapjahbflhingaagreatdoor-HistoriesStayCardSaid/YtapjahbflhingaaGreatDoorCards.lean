/-
  DERIVED. GIVEN WITH THE SEED: THE CARDS: each row of YtapjahbflhingaaGreatDoorRows.lean that lists a variable, with what it lists TIED to the program's text (the seventh form; the later family's looks); each row that meets fmt, with fmt's text TOLD by the authors' own Lean function (tested against real Go, not proved from fmt's source: count such statements apart). THE CARD IS WHAT COUNTS. Prove the row's statement (the work); the ties are given (YtapjahbflhingaaGreatDoorTie.lean); close each card by the builder's one call (the guide's Derived/Test/ToyasCard.lean, 'card_holds'). Laid BY PROGRAM, IN A SANDBOX (cutbox-door.mjs). By AI agents, Wed Nov 11 2026. No macro, syntax, notation, axiom, sorry.
-/
import Derived.Test.YtapjahbflhingaaGreatDoorRows
import GoSem.ClaimSeven
namespace Go.Proofs.YtapjahbflhingaaGreatDoor
namespace Rows

/-- THE TIED CARD OF 'splitlaw1.ChancesExact'. -/
def chancesExactCard : Claim7 := { stood := { row := chancesExactRow, standIns := [], harness := (true, "db22444d5d52993a5062987202113b7dae9f9e119a12e391a0099e187412134d"), looks := true }, kinds := [], alts := [], laidByText := true, laidKinds := [.data, .data, .data, .data, .pinned], laidTests := true, laidLooks := .later }
def ChancesExactCardSaid : Prop := Claim7.holds Tryz.pinned (.plain (OpenSpec.ofChange chancesExactSpec)) chancesExactCard

/-- THE TIED CARD OF 'splitkeep1.ChancesGrow'. -/
def chancesGrowCard : Claim7 := { stood := { row := chancesGrowRow, standIns := [], harness := (true, "db22444d5d52993a5062987202113b7dae9f9e119a12e391a0099e187412134d"), looks := true }, kinds := [], alts := [], laidByText := true, laidKinds := [.data, .pinned], laidTests := true, laidLooks := .later }
def ChancesGrowCardSaid : Prop := Claim7.holds Tryz.pinned (.plain (OpenSpec.ofChange chancesGrowSpec)) chancesGrowCard

/-- THE TIED CARD OF 'splitkeep1.HistoriesAreOne'. -/
def historiesAreOneCard : Claim7 := { stood := { row := historiesAreOneRow, standIns := [], harness := (true, "db22444d5d52993a5062987202113b7dae9f9e119a12e391a0099e187412134d"), looks := true }, kinds := [], alts := [], laidByText := true, laidKinds := [.data, .pinned], laidTests := true, laidLooks := .later }
def HistoriesAreOneCardSaid : Prop := Claim7.holds Tryz.pinned (.plain (OpenSpec.ofChange historiesAreOneSpec)) historiesAreOneCard

/-- THE TIED CARD OF 'splitkeep1.HistoriesStay'. -/
def historiesStayCard : Claim7 := { stood := { row := historiesStayRow, standIns := [], harness := (true, "db22444d5d52993a5062987202113b7dae9f9e119a12e391a0099e187412134d"), looks := true }, kinds := [], alts := [], laidByText := true, laidKinds := [.data, .pinned], laidTests := true, laidLooks := .later }
def HistoriesStayCardSaid : Prop := Claim7.holds Tryz.pinned (.plain (OpenSpec.ofChange historiesStaySpec)) historiesStayCard

/-- THE SECOND FORM's CARD OF 'splitlaw1.ChancesExact'. -/
def chancesExactUptoCard : Claim7 := { stood := { row := chancesExactUptoRow, standIns := [], harness := (true, "db22444d5d52993a5062987202113b7dae9f9e119a12e391a0099e187412134d"), looks := true }, kinds := [], alts := [], laidByText := true, laidKinds := [.data, .data, .data, .data, .pinned], laidTests := true, laidLooks := .later }
def ChancesExactUptoCardSaid : Prop := Claim7.holds Tryz.pinned (.plain (OpenSpec.upto chancesExactSpec)) chancesExactUptoCard

/-- THE SECOND FORM's CARD OF 'splitkeep1.ChancesGrow'. -/
def chancesGrowUptoCard : Claim7 := { stood := { row := chancesGrowUptoRow, standIns := [], harness := (true, "db22444d5d52993a5062987202113b7dae9f9e119a12e391a0099e187412134d"), looks := true }, kinds := [], alts := [], laidByText := true, laidKinds := [.data, .pinned], laidTests := true, laidLooks := .later }
def ChancesGrowUptoCardSaid : Prop := Claim7.holds Tryz.pinned (.plain (OpenSpec.upto chancesGrowSpec)) chancesGrowUptoCard

/-- THE SECOND FORM's CARD OF 'splitkeep1.HistoriesAreOne'. -/
def historiesAreOneUptoCard : Claim7 := { stood := { row := historiesAreOneUptoRow, standIns := [], harness := (true, "db22444d5d52993a5062987202113b7dae9f9e119a12e391a0099e187412134d"), looks := true }, kinds := [], alts := [], laidByText := true, laidKinds := [.data, .pinned], laidTests := true, laidLooks := .later }
def HistoriesAreOneUptoCardSaid : Prop := Claim7.holds Tryz.pinned (.plain (OpenSpec.upto historiesAreOneSpec)) historiesAreOneUptoCard

/-- THE SECOND FORM's CARD OF 'splitkeep1.HistoriesStay'. -/
def historiesStayUptoCard : Claim7 := { stood := { row := historiesStayUptoRow, standIns := [], harness := (true, "db22444d5d52993a5062987202113b7dae9f9e119a12e391a0099e187412134d"), looks := true }, kinds := [], alts := [], laidByText := true, laidKinds := [.data, .pinned], laidTests := true, laidLooks := .later }
def HistoriesStayUptoCardSaid : Prop := Claim7.holds Tryz.pinned (.plain (OpenSpec.upto historiesStaySpec)) historiesStayUptoCard
end Rows
end Go.Proofs.YtapjahbflhingaaGreatDoor
