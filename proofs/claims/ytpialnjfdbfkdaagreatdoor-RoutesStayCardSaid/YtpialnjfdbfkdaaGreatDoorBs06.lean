/- Texts of this seat, laid together: Sum AgS. -/
import Derived.Shelf.Strings.SlTrimAscii
import Derived.Test.YtpialnjfdbfkdaaGreatDoorBs02
import Derived.Test.YtpialnjfdbfkdaaGreatDoorBs05
import Derived.Test.YtpialnjfdbfkdaaGreatDoorBs04
/- The walks of IsSum and SumRight. -/
set_option linter.unusedVariables false
set_option linter.unusedSimpArgs false
namespace Go.Proofs.YtpialnjfdbfkdaaGreatDoor
open Go.RowKit Go.Sort

end Go.Proofs.YtpialnjfdbfkdaaGreatDoor
/- The walks of ContainsFunc over strings, sumsFault and Some. -/
namespace Go.Proofs.YtpialnjfdbfkdaaGreatDoor
open Go.RowKit Go.Sort

theorem ty_strs : SliceTy Tryz.prog 31 9 1 16:=.mk' Tryz.underlying31 (z:=.string ⟨#[]⟩) (by kernel_rfl) rfl (by decide)

end Go.Proofs.YtpialnjfdbfkdaaGreatDoor
