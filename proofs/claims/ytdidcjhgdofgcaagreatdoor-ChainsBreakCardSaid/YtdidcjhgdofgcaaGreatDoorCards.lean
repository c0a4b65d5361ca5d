/-
  DERIVED. GIVEN WITH THE SEED: THE CARDS: each row of YtdidcjhgdofgcaaGreatDoorRows.lean that lists a variable, with what it lists TIED to the program's text (the seventh form; the later family's looks); each row that meets fmt, with fmt's text TOLD by the authors' own Lean function (tested against real Go, not proved from fmt's source: count such statements apart). THE CARD IS WHAT COUNTS. Prove the row's statement (the work); the ties are given (YtdidcjhgdofgcaaGreatDoorTie.lean); close each card by the builder's one call (the guide's Derived/Test/ToyasCard.lean, 'card_holds'). Laid BY PROGRAM, IN A SANDBOX (cutbox-door.mjs). By AI agents, Wed Nov 11 2026. No macro, syntax, notation, axiom, sorry.
-/
import Derived.Test.YtdidcjhgdofgcaaGreatDoorRows
import GoSem.ClaimSeven
namespace Go.Proofs.YtdidcjhgdofgcaaGreatDoor
namespace Rows

/-- THE TIED CARD OF 'splitlaw1.ChainsKept'. -/
def chainsKeptCard : Claim7 := { stood := { row := chainsKeptRow, standIns := [], harness := (true, "0d8d69fe149a1386fd7e2ddec59abe4407d3d66317ee83fa2c9abdfaeb3c7474"), looks := true }, kinds := [], alts := [], laidByText := true, laidKinds := [.data, .data, .data, .data, .sentinel, .sentinel, .pinned], laidTests := true, laidLooks := .later }
def ChainsKeptCardSaid : Prop := Claim7.holds Tryz.pinned (.plain (OpenSpec.ofChange chainsKeptSpec)) chainsKeptCard

/-- THE TIED CARD OF 'splittop.TopChainsProve'. -/
def topChainsProveCard : Claim7 := { stood := { row := topChainsProveRow, standIns := [], harness := (true, "0d8d69fe149a1386fd7e2ddec59abe4407d3d66317ee83fa2c9abdfaeb3c7474"), looks := true }, kinds := [], alts := [], laidByText := true, laidKinds := [.data, .data, .data, .data, .pinned], laidTests := true, laidLooks := .later }
def TopChainsProveCardSaid : Prop := Claim7.holds Tryz.pinned (.plain (OpenSpec.ofChange topChainsProveSpec)) topChainsProveCard

/-- THE TIED CARD OF 'splitkeep1.ChainsBreak'. -/
def chainsBreakCard : Claim7 := { stood := { row := chainsBreakRow, standIns := [], harness := (true, "0d8d69fe149a1386fd7e2ddec59abe4407d3d66317ee83fa2c9abdfaeb3c7474"), looks := true }, kinds := [], alts := [], laidByText := true, laidKinds := [.data, .data, .data, .data, .pinned], laidTests := true, laidLooks := .later }
def ChainsBreakCardSaid : Prop := Claim7.holds Tryz.pinned (.plain (OpenSpec.ofChange chainsBreakSpec)) chainsBreakCard

/-- THE SECOND FORM's CARD OF 'splitlaw1.ChainsKept'. -/
def chainsKeptUptoCard : Claim7 := { stood := { row := chainsKeptUptoRow, standIns := [], harness := (true, "0d8d69fe149a1386fd7e2ddec59abe4407d3d66317ee83fa2c9abdfaeb3c7474"), looks := true }, kinds := [], alts := [], laidByText := true, laidKinds := [.data, .data, .data, .data, .sentinel, .sentinel, .pinned], laidTests := true, laidLooks := .later }
def ChainsKeptUptoCardSaid : Prop := Claim7.holds Tryz.pinned (.plain (OpenSpec.upto chainsKeptSpec)) chainsKeptUptoCard

/-- THE SECOND FORM's CARD OF 'splittop.TopChainsProve'. -/
def topChainsProveUptoCard : Claim7 := { stood := { row := topChainsProveUptoRow, standIns := [], harness := (true, "0d8d69fe149a1386fd7e2ddec59abe4407d3d66317ee83fa2c9abdfaeb3c7474"), looks := true }, kinds := [], alts := [], laidByText := true, laidKinds := [.data, .data, .data, .data, .pinned], laidTests := true, laidLooks := .later }
def TopChainsProveUptoCardSaid : Prop := Claim7.holds Tryz.pinned (.plain (OpenSpec.upto topChainsProveSpec)) topChainsProveUptoCard

/-- THE SECOND FORM's CARD OF 'splitkeep1.ChainsBreak'. -/
def chainsBreakUptoCard : Claim7 := { stood := { row := chainsBreakUptoRow, standIns := [], harness := (true, "0d8d69fe149a1386fd7e2ddec59abe4407d3d66317ee83fa2c9abdfaeb3c7474"), looks := true }, kinds := [], alts := [], laidByText := true, laidKinds := [.data, .data, .data, .data, .pinned], laidTests := true, laidLooks := .later }
def ChainsBreakUptoCardSaid : Prop := Claim7.holds Tryz.pinned (.plain (OpenSpec.upto chainsBreakSpec)) chainsBreakUptoCard
end Rows
end Go.Proofs.YtdidcjhgdofgcaaGreatDoor
