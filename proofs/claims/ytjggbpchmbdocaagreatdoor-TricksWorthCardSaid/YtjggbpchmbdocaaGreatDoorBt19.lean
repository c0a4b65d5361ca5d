/- Texts of this seat, laid together: ShelfS ShelfP. -/
import Derived.Test.YtjggbpchmbdocaaGreatDoorProg
import Derived.Shelf.SlGeneric
import Derived.Shelf.SlSortCmp.NoneTotal
import Derived.Ground.SlsfProg
/- Contracts of the library, laid at this translation by the kit's tools. -/
namespace Go.Proofs
open Go.Shelf
end Go.Proofs
