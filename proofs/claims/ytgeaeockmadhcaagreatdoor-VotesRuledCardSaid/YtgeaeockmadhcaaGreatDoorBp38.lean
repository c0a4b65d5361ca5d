/- Texts of this seat, laid together: App. -/
import Derived.Deep.RegionHeld3
import Derived.Test.YtgeaeockmadhcaaGreatDoorBp00
/- An append onto a row of the call's own, inside a region that draws its order. -/
namespace Go.Proofs.YtgeaeockmadhcaaGreatDoor
set_option linter.unusedVariables false
set_option linter.unusedSimpArgs false
open Go.RowKit

end Go.Proofs.YtgeaeockmadhcaaGreatDoor
