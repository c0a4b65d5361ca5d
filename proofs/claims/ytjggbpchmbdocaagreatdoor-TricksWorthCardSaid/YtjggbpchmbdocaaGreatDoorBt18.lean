/- Texts of this seat, laid together: Srt. -/
import Derived.Shelf.SlSortCmp.NoneTotal
import Derived.Test.YtjggbpchmbdocaaGreatDoorBt00
/- A slice of structs that the call has built, sorted by the library, read again as a row of the call's own. -/
namespace Go.Proofs.YtjggbpchmbdocaaGreatDoor
set_option linter.unusedVariables false
set_option linter.unusedSimpArgs false
open Go.RowKit Go.Sort Go.Shelf Go.Lib

end Go.Proofs.YtjggbpchmbdocaaGreatDoor
