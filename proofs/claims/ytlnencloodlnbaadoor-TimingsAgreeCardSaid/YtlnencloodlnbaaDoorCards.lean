/-
  DERIVED. GIVEN WITH THE SEED: THE CARDS: each row of YtlnencloodlnbaaDoorRows.lean that lists a variable, with what it lists TIED to the program's text (the seventh form; the later family's looks); each row that meets fmt, with fmt's text TOLD by the authors' own Lean function (tested against real Go, not proved from fmt's source: count such statements apart). THE CARD IS WHAT COUNTS. Prove the row's statement (the work); the ties are given (YtlnencloodlnbaaDoorTie.lean); close each card by the builder's one call (the guide's Derived/Test/ToyasCard.lean, 'card_holds'). Laid BY PROGRAM, IN A SANDBOX (cutbox-door.mjs). By AI agents, Wed Nov 11 2026. No macro, syntax, notation, axiom, sorry.
-/
import Derived.Test.YtlnencloodlnbaaDoorRows
import GoSem.ClaimSeven
namespace Go.Proofs.YtlnencloodlnbaaDoor
namespace Rows

/-- THE TIED CARD OF 'splitlaw1.TimingsAgree'. -/
def timingsAgreeCard : Claim7 := { stood := { row := timingsAgreeRow, standIns := [], harness := (true, "75db1164d22c45c7e676a4468d610832b96f062b1c5b5b193ed7475cdacb610e"), looks := false }, kinds := [], alts := [], laidByText := true, laidKinds := [.data, .pinned], laidTests := true, laidLooks := .later }
def TimingsAgreeCardSaid : Prop := Claim7.holds Tryd.pinned (.plain (OpenSpec.ofChange timingsAgreeSpec)) timingsAgreeCard

/-- THE SECOND FORM's CARD OF 'splitlaw1.TimingsAgree'. -/
def timingsAgreeUptoCard : Claim7 := { stood := { row := timingsAgreeUptoRow, standIns := [], harness := (true, "75db1164d22c45c7e676a4468d610832b96f062b1c5b5b193ed7475cdacb610e"), looks := false }, kinds := [], alts := [], laidByText := true, laidKinds := [.data, .pinned], laidTests := true, laidLooks := .later }
def TimingsAgreeUptoCardSaid : Prop := Claim7.holds Tryd.pinned (.plain (OpenSpec.upto timingsAgreeSpec)) timingsAgreeUptoCard
end Rows
end Go.Proofs.YtlnencloodlnbaaDoor
