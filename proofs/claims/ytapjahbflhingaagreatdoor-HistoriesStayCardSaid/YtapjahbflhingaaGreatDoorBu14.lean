/- Texts of this seat, laid together: Fl. -/
import Derived.Sort.LotA
import Derived.Test.YtapjahbflhingaaGreatDoorBu03
/- Plain laws of what no hand can do: the flaws of an input in the order of frames, reasons and buttons. No program in sight. -/
namespace Go.Proofs.YtapjahbflhingaaGreatDoor
set_option linter.unusedVariables false
set_option linter.unusedSimpArgs false
open Go.RowKit

def cmpI (a b : Int) : Int:=if a < b then -1 else if b < a then 1 else 0
theorem cmpI_lt (a b : Int) : cmpI a b < 0 ↔ a < b:=by unfold cmpI; split <;> (try split) <;> omega
theorem cmpI_eq (a b : Int) : cmpI a b = 0 ↔ a = b:=by unfold cmpI; split <;> (try split) <;> omega
end Go.Proofs.YtapjahbflhingaaGreatDoor
