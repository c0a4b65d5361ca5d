/- Texts of this seat, laid together: Sum AgS. -/
import Derived.Shelf.Strings.SlTrimAscii
import Derived.Test.YtjggbpchmbdocaaGreatDoorBt14
import Derived.Test.YtjggbpchmbdocaaGreatDoorBt03
import Derived.Test.YtjggbpchmbdocaaGreatDoorBt02
/- The walks of IsSum and SumRight. -/
set_option linter.unusedVariables false
set_option linter.unusedSimpArgs false
namespace Go.Proofs.YtjggbpchmbdocaaGreatDoor
open Go.RowKit Go.Sort

end Go.Proofs.YtjggbpchmbdocaaGreatDoor
/- The walks of ContainsFunc over strings, sumsFault and Some. -/
namespace Go.Proofs.YtjggbpchmbdocaaGreatDoor
open Go.RowKit Go.Sort

theorem ty_strs : SliceTy Tryz.prog 30 9 1 16:=.mk' Tryz.underlying30 (z:=.string ⟨#[]⟩) (by kernel_rfl) rfl (by decide)

end Go.Proofs.YtjggbpchmbdocaaGreatDoor
