/- Texts of this seat, laid together: Hk. -/
import Derived.Lib.Bytealg
import Derived.Shelf.Strings.SlTrimAscii
import Derived.Test.YthchgkdhegaehaaGreatDoorBv20
import Derived.Test.YthchgkdhegaehaaGreatDoorBv19
import Derived.Test.YthchgkdhegaehaaGreatDoorBv03
/- What is a key, by strings.Trim and strings.IndexByte: the walk of splitref1.Key. -/
namespace Go.Proofs.YthchgkdhegaehaaGreatDoor
set_option linter.unusedVariables false
set_option linter.unusedSimpArgs false
open Go.RowKit Go.Sort

end Go.Proofs.YthchgkdhegaehaaGreatDoor
