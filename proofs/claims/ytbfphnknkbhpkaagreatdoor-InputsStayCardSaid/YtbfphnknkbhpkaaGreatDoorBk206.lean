/- Texts of this seat, laid together: Sum. -/
import Derived.Shelf.Strings.SlTrimAscii
import Derived.Test.YtbfphnknkbhpkaaGreatDoorBk203
import Derived.Test.YtbfphnknkbhpkaaGreatDoorBk205
/- The walks of IsSum and SumRight. -/
namespace Go.Proofs.YtbfphnknkbhpkaaGreatDoor
set_option linter.unusedVariables false
set_option linter.unusedSimpArgs false
open Go.RowKit Go.Sort

end Go.Proofs.YtbfphnknkbhpkaaGreatDoor
