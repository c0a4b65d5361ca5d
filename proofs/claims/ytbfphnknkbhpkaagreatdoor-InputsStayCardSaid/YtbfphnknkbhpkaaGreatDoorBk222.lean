/- Texts of this seat, laid together: Cn. -/
import Derived.Test.YtbfphnknkbhpkaaGreatDoorBk203
import Derived.Test.YtbfphnknkbhpkaaGreatDoorBk205
/- strings.Count of one byte, over lists. -/
namespace Go.Proofs.YtbfphnknkbhpkaaGreatDoor
set_option linter.unusedVariables false
set_option linter.unusedSimpArgs false
open Go.RowKit Go.Sort

end Go.Proofs.YtbfphnknkbhpkaaGreatDoor
