/- Texts of this seat, laid together: Hk. -/
import Derived.Lib.Bytealg
import Derived.Shelf.Strings.SlTrimAscii
import Derived.Test.YtkchacgkjdeiaaaGreatDoorBf20
import Derived.Test.YtkchacgkjdeiaaaGreatDoorBf19
import Derived.Test.YtkchacgkjdeiaaaGreatDoorBf06
/- What is a key, by strings.Trim and strings.IndexByte: the walk of splitref1.Key. -/
namespace Go.Proofs.YtkchacgkjdeiaaaGreatDoor
set_option linter.unusedVariables false
set_option linter.unusedSimpArgs false
open Go.RowKit Go.Sort

end Go.Proofs.YtkchacgkjdeiaaaGreatDoor
