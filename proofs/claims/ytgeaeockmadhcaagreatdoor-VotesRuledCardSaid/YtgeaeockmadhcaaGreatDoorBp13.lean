/- Texts of this seat, laid together: Sum. -/
import Derived.Shelf.Strings.SlTrimAscii
import Derived.Test.YtgeaeockmadhcaaGreatDoorBp02
import Derived.Test.YtgeaeockmadhcaaGreatDoorBp12
/- The walks of IsSum and SumRight. -/
namespace Go.Proofs.YtgeaeockmadhcaaGreatDoor
set_option linter.unusedVariables false
set_option linter.unusedSimpArgs false
open Go.RowKit Go.Sort

end Go.Proofs.YtgeaeockmadhcaaGreatDoor
