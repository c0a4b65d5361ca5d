/- Texts of this seat, laid together: Sum. -/
import Derived.Shelf.Strings.SlTrimAscii
import Derived.Test.YtapjahbflhingaaGreatDoorBu02
import Derived.Test.YtapjahbflhingaaGreatDoorBu05
/- The walks of IsSum and SumRight. -/
namespace Go.Proofs.YtapjahbflhingaaGreatDoor
set_option linter.unusedVariables false
set_option linter.unusedSimpArgs false
open Go.RowKit Go.Sort

end Go.Proofs.YtapjahbflhingaaGreatDoor
