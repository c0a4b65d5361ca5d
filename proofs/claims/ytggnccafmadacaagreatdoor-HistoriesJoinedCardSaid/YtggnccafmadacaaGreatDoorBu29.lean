/- Texts of this seat, laid together: SortI SortJ. -/
import Derived.Sort.OwnSortedInts
import Derived.Test.YtggnccafmadacaaGreatDoorBu12
import Derived.Test.YtggnccafmadacaaGreatDoorBu05
/- slices.Sort over integers, out of the library's contract. -/
namespace Go.Proofs.YtggnccafmadacaaGreatDoor
set_option linter.unusedVariables false
set_option linter.unusedSimpArgs false
open Go.RowKit Go.Sort

end Go.Proofs.YtggnccafmadacaaGreatDoor
/- slices.Sort over integers of the call's own, none or more. -/
namespace Go.Proofs.YtggnccafmadacaaGreatDoor
set_option linter.unusedVariables false
set_option linter.unusedSimpArgs false
open Go.RowKit Go.Sort

end Go.Proofs.YtggnccafmadacaaGreatDoor
