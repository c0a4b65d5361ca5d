/- Texts of this seat, laid together: Sum Hk. -/
import Derived.Shelf.Strings.SlTrimAscii
import Derived.Lib.Bytealg
import Derived.Test.YtijdbbnnkogkjaaGreatDoorBn02
import Derived.Test.YtijdbbnnkogkjaaGreatDoorBn12
import Derived.Test.YtijdbbnnkogkjaaGreatDoorBn11
/- The walks of IsSum and SumRight. -/
namespace Go.Proofs.YtijdbbnnkogkjaaGreatDoor
set_option linter.unusedVariables false
set_option linter.unusedSimpArgs false
open Go.RowKit Go.Sort

end Go.Proofs.YtijdbbnnkogkjaaGreatDoor
/- What is a key, by strings.Trim and strings.IndexByte: the walk of splitref1.Key. -/
namespace Go.Proofs.YtijdbbnnkogkjaaGreatDoor
set_option linter.unusedVariables false
set_option linter.unusedSimpArgs false
open Go.RowKit Go.Sort

end Go.Proofs.YtijdbbnnkogkjaaGreatDoor
