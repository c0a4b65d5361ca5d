/- Texts of this seat, laid together: Sum AgS. -/
import Derived.Shelf.Strings.SlTrimAscii
import Derived.Test.YtkchacgkjdeiaaaGreatDoorBf05
import Derived.Test.YtkchacgkjdeiaaaGreatDoorBf06
import Derived.Test.YtkchacgkjdeiaaaGreatDoorBf04
/- The walks of IsSum and SumRight. -/
set_option linter.unusedVariables false
set_option linter.unusedSimpArgs false
namespace Go.Proofs.YtkchacgkjdeiaaaGreatDoor
open Go.RowKit Go.Sort

end Go.Proofs.YtkchacgkjdeiaaaGreatDoor
/- The walks of ContainsFunc over strings, sumsFault and Some. -/
namespace Go.Proofs.YtkchacgkjdeiaaaGreatDoor
open Go.RowKit Go.Sort

theorem ty_strs : SliceTy Tryz.prog 26 9 1 16:=.mk' Tryz.underlying26 (z:=.string ⟨#[]⟩) (by kernel_rfl) rfl (by decide)

end Go.Proofs.YtkchacgkjdeiaaaGreatDoor
