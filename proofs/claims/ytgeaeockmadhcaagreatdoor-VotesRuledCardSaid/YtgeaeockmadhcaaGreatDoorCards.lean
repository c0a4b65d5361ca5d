/-
  DERIVED. GIVEN WITH THE SEED: THE CARDS: each row of YtgeaeockmadhcaaGreatDoorRows.lean that lists a variable, with what it lists TIED to the program's text (the seventh form; the later family's looks); each row that meets fmt, with fmt's text TOLD by the authors' own Lean function (tested against real Go, not proved from fmt's source: count such statements apart). THE CARD IS WHAT COUNTS. Prove the row's statement (the work); the ties are given (YtgeaeockmadhcaaGreatDoorTie.lean); close each card by the builder's one call (the guide's Derived/Test/ToyasCard.lean, 'card_holds'). Laid BY PROGRAM, IN A SANDBOX (cutbox-door.mjs). By AI agents, Wed Nov 11 2026. No macro, syntax, notation, axiom, sorry.
-/
import Derived.Test.YtgeaeockmadhcaaGreatDoorRows
import GoSem.ClaimSeven
namespace Go.Proofs.YtgeaeockmadhcaaGreatDoor
namespace Rows

/-- THE TIED CARD OF 'splitlaw1.VotesRuled'. -/
def votesRuledCard : Claim7 := { stood := { row := votesRuledRow, standIns := [], harness := (true, "2b948da2a6f561f96c9587724af220827ebf489d82868c995b70c5b444799adc"), looks := true }, kinds := [], alts := [], laidByText := true, laidKinds := [.data, .pinned], laidTests := true, laidLooks := .later }
def VotesRuledCardSaid : Prop := Claim7.holds Tryz.pinned (.plain (OpenSpec.ofChange votesRuledSpec)) votesRuledCard

/-- THE TIED CARD OF 'splitkeep1.VotesAreOne'. -/
def votesAreOneCard : Claim7 := { stood := { row := votesAreOneRow, standIns := [], harness := (true, "2b948da2a6f561f96c9587724af220827ebf489d82868c995b70c5b444799adc"), looks := true }, kinds := [], alts := [], laidByText := true, laidKinds := [.data, .pinned], laidTests := true, laidLooks := .later }
def VotesAreOneCardSaid : Prop := Claim7.holds Tryz.pinned (.plain (OpenSpec.ofChange votesAreOneSpec)) votesAreOneCard

/-- THE SECOND FORM's CARD OF 'splitlaw1.VotesRuled'. -/
def votesRuledUptoCard : Claim7 := { stood := { row := votesRuledUptoRow, standIns := [], harness := (true, "2b948da2a6f561f96c9587724af220827ebf489d82868c995b70c5b444799adc"), looks := true }, kinds := [], alts := [], laidByText := true, laidKinds := [.data, .pinned], laidTests := true, laidLooks := .later }
def VotesRuledUptoCardSaid : Prop := Claim7.holds Tryz.pinned (.plain (OpenSpec.upto votesRuledSpec)) votesRuledUptoCard

/-- THE SECOND FORM's CARD OF 'splitkeep1.VotesAreOne'. -/
def votesAreOneUptoCard : Claim7 := { stood := { row := votesAreOneUptoRow, standIns := [], harness := (true, "2b948da2a6f561f96c9587724af220827ebf489d82868c995b70c5b444799adc"), looks := true }, kinds := [], alts := [], laidByText := true, laidKinds := [.data, .pinned], laidTests := true, laidLooks := .later }
def VotesAreOneUptoCardSaid : Prop := Claim7.holds Tryz.pinned (.plain (OpenSpec.upto votesAreOneSpec)) votesAreOneUptoCard
end Rows
end Go.Proofs.YtgeaeockmadhcaaGreatDoor
