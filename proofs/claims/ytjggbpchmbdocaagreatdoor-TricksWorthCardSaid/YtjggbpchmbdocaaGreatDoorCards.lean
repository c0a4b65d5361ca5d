/-
  DERIVED. GIVEN WITH THE SEED: THE CARDS: each row of YtjggbpchmbdocaaGreatDoorRows.lean that lists a variable, with what it lists TIED to the program's text (the seventh form; the later family's looks); each row that meets fmt, with fmt's text TOLD by the authors' own Lean function (tested against real Go, not proved from fmt's source: count such statements apart). THE CARD IS WHAT COUNTS. Prove the row's statement (the work); the ties are given (YtjggbpchmbdocaaGreatDoorTie.lean); close each card by the builder's one call (the guide's Derived/Test/ToyasCard.lean, 'card_holds'). Laid BY PROGRAM, IN A SANDBOX (cutbox-door.mjs). By AI agents, Wed Nov 11 2026. No macro, syntax, notation, axiom, sorry.
-/
import Derived.Test.YtjggbpchmbdocaaGreatDoorRows
import GoSem.ClaimSeven
namespace Go.Proofs.YtjggbpchmbdocaaGreatDoor
namespace Rows

/-- THE TIED CARD OF 'splitlaw1.WaysFastest'. -/
def waysFastestCard : Claim7 := { stood := { row := waysFastestRow, standIns := [], harness := (true, "61a67cd03705045dfb79bfde00faca968f9a64fdcbffc78d55ffc114cc94ed09"), looks := true }, kinds := [], alts := [], laidByText := true, laidKinds := [.data, .data, .data, .data, .pinned], laidTests := true, laidLooks := .later }
def WaysFastestCardSaid : Prop := Claim7.holds Tryz.pinned (.plain (OpenSpec.ofChange waysFastestSpec)) waysFastestCard

/-- THE TIED CARD OF 'splitlaw1.LostFound'. -/
def lostFoundCard : Claim7 := { stood := { row := lostFoundRow, standIns := [], harness := (true, "61a67cd03705045dfb79bfde00faca968f9a64fdcbffc78d55ffc114cc94ed09"), looks := true }, kinds := [], alts := [], laidByText := true, laidKinds := [.data, .data, .data, .data, .pinned], laidTests := true, laidLooks := .later }
def LostFoundCardSaid : Prop := Claim7.holds Tryz.pinned (.plain (OpenSpec.ofChange lostFoundSpec)) lostFoundCard

/-- THE TIED CARD OF 'splitlaw1.TricksWorth'. -/
def tricksWorthCard : Claim7 := { stood := { row := tricksWorthRow, standIns := [], harness := (true, "61a67cd03705045dfb79bfde00faca968f9a64fdcbffc78d55ffc114cc94ed09"), looks := true }, kinds := [], alts := [], laidByText := true, laidKinds := [.data, .data, .data, .data, .pinned], laidTests := true, laidLooks := .later }
def TricksWorthCardSaid : Prop := Claim7.holds Tryz.pinned (.plain (OpenSpec.ofChange tricksWorthSpec)) tricksWorthCard

/-- THE SECOND FORM's CARD OF 'splitlaw1.WaysFastest'. -/
def waysFastestUptoCard : Claim7 := { stood := { row := waysFastestUptoRow, standIns := [], harness := (true, "61a67cd03705045dfb79bfde00faca968f9a64fdcbffc78d55ffc114cc94ed09"), looks := true }, kinds := [], alts := [], laidByText := true, laidKinds := [.data, .data, .data, .data, .pinned], laidTests := true, laidLooks := .later }
def WaysFastestUptoCardSaid : Prop := Claim7.holds Tryz.pinned (.plain (OpenSpec.upto waysFastestSpec)) waysFastestUptoCard

/-- THE SECOND FORM's CARD OF 'splitlaw1.LostFound'. -/
def lostFoundUptoCard : Claim7 := { stood := { row := lostFoundUptoRow, standIns := [], harness := (true, "61a67cd03705045dfb79bfde00faca968f9a64fdcbffc78d55ffc114cc94ed09"), looks := true }, kinds := [], alts := [], laidByText := true, laidKinds := [.data, .data, .data, .data, .pinned], laidTests := true, laidLooks := .later }
def LostFoundUptoCardSaid : Prop := Claim7.holds Tryz.pinned (.plain (OpenSpec.upto lostFoundSpec)) lostFoundUptoCard

/-- THE SECOND FORM's CARD OF 'splitlaw1.TricksWorth'. -/
def tricksWorthUptoCard : Claim7 := { stood := { row := tricksWorthUptoRow, standIns := [], harness := (true, "61a67cd03705045dfb79bfde00faca968f9a64fdcbffc78d55ffc114cc94ed09"), looks := true }, kinds := [], alts := [], laidByText := true, laidKinds := [.data, .data, .data, .data, .pinned], laidTests := true, laidLooks := .later }
def TricksWorthUptoCardSaid : Prop := Claim7.holds Tryz.pinned (.plain (OpenSpec.upto tricksWorthSpec)) tricksWorthUptoCard
end Rows
end Go.Proofs.YtjggbpchmbdocaaGreatDoor
