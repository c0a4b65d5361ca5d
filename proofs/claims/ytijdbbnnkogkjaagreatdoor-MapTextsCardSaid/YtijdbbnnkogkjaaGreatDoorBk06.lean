/- Texts of this seat, laid together: Fl FlA. -/
import Derived.Sort.LotA
import Derived.Test.YtijdbbnnkogkjaaGreatDoorBk04
import Derived.Test.YtijdbbnnkogkjaaGreatDoorBk00
/- Plain laws of what no hand can do: the flaws of an input in the order of frames, reasons and buttons. No program in sight. -/
namespace Go.Proofs.YtijdbbnnkogkjaaGreatDoor
set_option linter.unusedVariables false
set_option linter.unusedSimpArgs false
open Go.RowKit

end Go.Proofs.YtijdbbnnkogkjaaGreatDoor
/- The walks of bothFlaws, pressFlaws and of the order of flaws. -/
namespace Go.Proofs.YtijdbbnnkogkjaaGreatDoor
set_option linter.unusedVariables false
set_option linter.unusedSimpArgs false
open Go.RowKit

end Go.Proofs.YtijdbbnnkogkjaaGreatDoor
