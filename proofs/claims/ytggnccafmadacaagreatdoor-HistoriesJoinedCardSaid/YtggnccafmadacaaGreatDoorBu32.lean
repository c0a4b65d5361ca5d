/- Texts of this seat, laid together: Hg. -/
import Derived.Test.YtggnccafmadacaaGreatDoorBu22
/- The walks of splitref1.finished and BestAttempt at a right history. -/
namespace Go.Proofs.YtggnccafmadacaaGreatDoor
set_option linter.unusedVariables false
set_option linter.unusedSimpArgs false
open Go.RowKit

end Go.Proofs.YtggnccafmadacaaGreatDoor
