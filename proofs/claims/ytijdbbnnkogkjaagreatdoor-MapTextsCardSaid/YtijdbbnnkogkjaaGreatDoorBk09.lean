/- Texts of this seat, laid together: SgC. -/
import Derived.Deep.DeepCutAuto
import Derived.Test.YtijdbbnnkogkjaaGreatDoorBk05
import Derived.Test.YtijdbbnnkogkjaaGreatDoorBk06
import Derived.Test.YtijdbbnnkogkjaaGreatDoorBk07
import Derived.Test.YtijdbbnnkogkjaaGreatDoorBk08
import Derived.Test.YtijdbbnnkogkjaaGreatDoorBk04
/- slices.SortFunc over steps, and the walk of leasts. -/
namespace Go.Proofs.YtijdbbnnkogkjaaGreatDoor
set_option linter.unusedVariables false
set_option linter.unusedSimpArgs false
open Go.RowKit Go.Sort

end Go.Proofs.YtijdbbnnkogkjaaGreatDoor
