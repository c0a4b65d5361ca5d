/- Texts of this seat, laid together: AgS. -/
import Derived.Test.YtbfphnknkbhpkaaGreatDoorBk206
import Derived.Test.YtbfphnknkbhpkaaGreatDoorBk203
import Derived.Test.YtbfphnknkbhpkaaGreatDoorBk202
/- The walks of ContainsFunc over strings, sumsFault and Some. -/
namespace Go.Proofs.YtbfphnknkbhpkaaGreatDoor
set_option linter.unusedVariables false
set_option linter.unusedSimpArgs false
open Go.RowKit Go.Sort

end Go.Proofs.YtbfphnknkbhpkaaGreatDoor
