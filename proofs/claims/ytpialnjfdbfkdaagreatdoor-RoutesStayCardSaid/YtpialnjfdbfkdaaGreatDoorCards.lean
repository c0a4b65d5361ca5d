/-
  DERIVED. GIVEN WITH THE SEED: THE CARDS: each row of YtpialnjfdbfkdaaGreatDoorRows.lean that lists a variable, with what it lists TIED to the program's text (the seventh form; the later family's looks); each row that meets fmt, with fmt's text TOLD by the authors' own Lean function (tested against real Go, not proved from fmt's source: count such statements apart). THE CARD IS WHAT COUNTS. Prove the row's statement (the work); the ties are given (YtpialnjfdbfkdaaGreatDoorTie.lean); close each card by the builder's one call (the guide's Derived/Test/ToyasCard.lean, 'card_holds'). Laid BY PROGRAM, IN A SANDBOX (cutbox-door.mjs). By AI agents, Wed Nov 11 2026. No macro, syntax, notation, axiom, sorry.
-/
import Derived.Test.YtpialnjfdbfkdaaGreatDoorRows
import GoSem.ClaimSeven
namespace Go.Proofs.YtpialnjfdbfkdaaGreatDoor
namespace Rows

/-- THE TIED CARD OF 'splitkeep1.RoutesStay'. -/
def routesStayCard : Claim7 := { stood := { row := routesStayRow, standIns := [], harness := (true, "cf9fc10a5cc7f4fe9d73ff05e77dee5c807fb5c6ffa4bf35a759851a14defc1c"), looks := true }, kinds := [], alts := [], laidByText := true, laidKinds := [.data, .data, .data, .data, .pinned], laidTests := true, laidLooks := .later }
def RoutesStayCardSaid : Prop := Claim7.holds Tryz.pinned (.plain (OpenSpec.ofChange routesStaySpec)) routesStayCard

/-- THE SECOND FORM's CARD OF 'splitkeep1.RoutesStay'. -/
def routesStayUptoCard : Claim7 := { stood := { row := routesStayUptoRow, standIns := [], harness := (true, "cf9fc10a5cc7f4fe9d73ff05e77dee5c807fb5c6ffa4bf35a759851a14defc1c"), looks := true }, kinds := [], alts := [], laidByText := true, laidKinds := [.data, .data, .data, .data, .pinned], laidTests := true, laidLooks := .later }
def RoutesStayUptoCardSaid : Prop := Claim7.holds Tryz.pinned (.plain (OpenSpec.upto routesStaySpec)) routesStayUptoCard
end Rows
end Go.Proofs.YtpialnjfdbfkdaaGreatDoor
