/-
  DERIVED. GIVEN WITH THE SEED: THE CARDS: each row of YthchgkdhegaehaaGreatDoorRows.lean that lists a variable, with what it lists TIED to the program's text (the seventh form; the later family's looks); each row that meets fmt, with fmt's text TOLD by the authors' own Lean function (tested against real Go, not proved from fmt's source: count such statements apart). THE CARD IS WHAT COUNTS. Prove the row's statement (the work); the ties are given (YthchgkdhegaehaaGreatDoorTie.lean); close each card by the builder's one call (the guide's Derived/Test/ToyasCard.lean, 'card_holds'). Laid BY PROGRAM, IN A SANDBOX (cutbox-door.mjs). By AI agents, Wed Nov 11 2026. No macro, syntax, notation, axiom, sorry.
-/
import Derived.Test.YthchgkdhegaehaaGreatDoorRows
import GoSem.ClaimSeven
namespace Go.Proofs.YthchgkdhegaehaaGreatDoor
namespace Rows

/-- THE TIED CARD OF 'splitkeep1.WorthsAreDifferences'. -/
def worthsAreDifferencesCard : Claim7 := { stood := { row := worthsAreDifferencesRow, standIns := [], harness := (true, "2e9b5fba154996b67130c22163437edb0c7aa47a750023c5ad28fe44a2352bf4"), looks := true }, kinds := [], alts := [], laidByText := true, laidKinds := [.data, .data, .data], laidTests := true, laidLooks := .later }
def WorthsAreDifferencesCardSaid : Prop := Claim7.holds Tryz.pinned (.plain (OpenSpec.ofChange worthsAreDifferencesSpec)) worthsAreDifferencesCard

/-- THE TIED CARD OF 'splitkeep1.WaysCanBeWalked'. -/
def waysCanBeWalkedCard : Claim7 := { stood := { row := waysCanBeWalkedRow, standIns := [], harness := (true, "2e9b5fba154996b67130c22163437edb0c7aa47a750023c5ad28fe44a2352bf4"), looks := true }, kinds := [], alts := [], laidByText := true, laidKinds := [.data, .data, .data, .data, .pinned], laidTests := true, laidLooks := .later }
def WaysCanBeWalkedCardSaid : Prop := Claim7.holds Tryz.pinned (.plain (OpenSpec.ofChange waysCanBeWalkedSpec)) waysCanBeWalkedCard

/-- THE TIED CARD OF 'splitkeep1.LostIsLost'. -/
def lostIsLostCard : Claim7 := { stood := { row := lostIsLostRow, standIns := [], harness := (true, "2e9b5fba154996b67130c22163437edb0c7aa47a750023c5ad28fe44a2352bf4"), looks := true }, kinds := [], alts := [], laidByText := true, laidKinds := [.data, .data, .data, .data, .pinned], laidTests := true, laidLooks := .later }
def LostIsLostCardSaid : Prop := Claim7.holds Tryz.pinned (.plain (OpenSpec.ofChange lostIsLostSpec)) lostIsLostCard

/-- THE TIED CARD OF 'splitkeep1.RoutesStay'. -/
def routesStayCard : Claim7 := { stood := { row := routesStayRow, standIns := [], harness := (true, "2e9b5fba154996b67130c22163437edb0c7aa47a750023c5ad28fe44a2352bf4"), looks := true }, kinds := [], alts := [], laidByText := true, laidKinds := [.data, .data, .data, .data, .pinned], laidTests := true, laidLooks := .later }
def RoutesStayCardSaid : Prop := Claim7.holds Tryz.pinned (.plain (OpenSpec.ofChange routesStaySpec)) routesStayCard

/-- THE SECOND FORM's CARD OF 'splitkeep1.WorthsAreDifferences'. -/
def worthsAreDifferencesUptoCard : Claim7 := { stood := { row := worthsAreDifferencesUptoRow, standIns := [], harness := (true, "2e9b5fba154996b67130c22163437edb0c7aa47a750023c5ad28fe44a2352bf4"), looks := true }, kinds := [], alts := [], laidByText := true, laidKinds := [.data, .data, .data], laidTests := true, laidLooks := .later }
def WorthsAreDifferencesUptoCardSaid : Prop := Claim7.holds Tryz.pinned (.plain (OpenSpec.upto worthsAreDifferencesSpec)) worthsAreDifferencesUptoCard

/-- THE SECOND FORM's CARD OF 'splitkeep1.WaysCanBeWalked'. -/
def waysCanBeWalkedUptoCard : Claim7 := { stood := { row := waysCanBeWalkedUptoRow, standIns := [], harness := (true, "2e9b5fba154996b67130c22163437edb0c7aa47a750023c5ad28fe44a2352bf4"), looks := true }, kinds := [], alts := [], laidByText := true, laidKinds := [.data, .data, .data, .data, .pinned], laidTests := true, laidLooks := .later }
def WaysCanBeWalkedUptoCardSaid : Prop := Claim7.holds Tryz.pinned (.plain (OpenSpec.upto waysCanBeWalkedSpec)) waysCanBeWalkedUptoCard

/-- THE SECOND FORM's CARD OF 'splitkeep1.LostIsLost'. -/
def lostIsLostUptoCard : Claim7 := { stood := { row := lostIsLostUptoRow, standIns := [], harness := (true, "2e9b5fba154996b67130c22163437edb0c7aa47a750023c5ad28fe44a2352bf4"), looks := true }, kinds := [], alts := [], laidByText := true, laidKinds := [.data, .data, .data, .data, .pinned], laidTests := true, laidLooks := .later }
def LostIsLostUptoCardSaid : Prop := Claim7.holds Tryz.pinned (.plain (OpenSpec.upto lostIsLostSpec)) lostIsLostUptoCard

/-- THE SECOND FORM's CARD OF 'splitkeep1.RoutesStay'. -/
def routesStayUptoCard : Claim7 := { stood := { row := routesStayUptoRow, standIns := [], harness := (true, "2e9b5fba154996b67130c22163437edb0c7aa47a750023c5ad28fe44a2352bf4"), looks := true }, kinds := [], alts := [], laidByText := true, laidKinds := [.data, .data, .data, .data, .pinned], laidTests := true, laidLooks := .later }
def RoutesStayUptoCardSaid : Prop := Claim7.holds Tryz.pinned (.plain (OpenSpec.upto routesStaySpec)) routesStayUptoCard
end Rows
end Go.Proofs.YthchgkdhegaehaaGreatDoor
