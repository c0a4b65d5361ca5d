/- Texts of this seat, laid together: Num. -/
import Derived.Lib.ConvBytes
import Derived.Handy
import Derived.Test.YtkchacgkjdeiaaaGreatDoorBf13
import Derived.Test.YtkchacgkjdeiaaaGreatDoorBf14
import Derived.Test.YtkchacgkjdeiaaaGreatDoorBf21
import Derived.Test.YtkchacgkjdeiaaaGreatDoorBf06
/- Numbers as words: the walks of base.Number and splitref1.Int. -/
namespace Go.Proofs.YtkchacgkjdeiaaaGreatDoor
set_option linter.unusedVariables false
set_option linter.unusedSimpArgs false
open Go.RowKit Go.Sort

end Go.Proofs.YtkchacgkjdeiaaaGreatDoor
