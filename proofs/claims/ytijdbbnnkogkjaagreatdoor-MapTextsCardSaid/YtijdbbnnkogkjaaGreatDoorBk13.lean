/- Texts of this seat, laid together: Sum. -/
import Derived.Shelf.Strings.SlTrimAscii
import Derived.Test.YtijdbbnnkogkjaaGreatDoorBk02
import Derived.Test.YtijdbbnnkogkjaaGreatDoorBk12
/- The walks of IsSum and SumRight. -/
namespace Go.Proofs.YtijdbbnnkogkjaaGreatDoor
set_option linter.unusedVariables false
set_option linter.unusedSimpArgs false
open Go.RowKit Go.Sort

end Go.Proofs.YtijdbbnnkogkjaaGreatDoor
