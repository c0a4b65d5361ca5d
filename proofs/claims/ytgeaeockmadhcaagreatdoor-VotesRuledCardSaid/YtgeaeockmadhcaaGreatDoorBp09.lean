/- Texts of this seat, laid together: SgC. -/
import Derived.Deep.DeepCutAuto
import Derived.Test.YtgeaeockmadhcaaGreatDoorBp05
import Derived.Test.YtgeaeockmadhcaaGreatDoorBp06
import Derived.Test.YtgeaeockmadhcaaGreatDoorBp07
import Derived.Test.YtgeaeockmadhcaaGreatDoorBp08
import Derived.Test.YtgeaeockmadhcaaGreatDoorBp04
/- slices.SortFunc over steps, and the walk of leasts. -/
namespace Go.Proofs.YtgeaeockmadhcaaGreatDoor
set_option linter.unusedVariables false
set_option linter.unusedSimpArgs false
open Go.RowKit Go.Sort

end Go.Proofs.YtgeaeockmadhcaaGreatDoor
