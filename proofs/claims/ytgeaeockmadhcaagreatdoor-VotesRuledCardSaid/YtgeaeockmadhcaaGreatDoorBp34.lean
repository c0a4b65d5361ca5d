/- Texts of this seat, laid together: AgS. -/
import Derived.Test.YtgeaeockmadhcaaGreatDoorBp13
import Derived.Test.YtgeaeockmadhcaaGreatDoorBp02
import Derived.Test.YtgeaeockmadhcaaGreatDoorBp04
/- The walks of ContainsFunc over strings, sumsFault and Some. -/
namespace Go.Proofs.YtgeaeockmadhcaaGreatDoor
set_option linter.unusedVariables false
set_option linter.unusedSimpArgs false
open Go.RowKit Go.Sort

theorem ty_strs : SliceTy Tryz.prog 71 9 1 16:=.mk' Tryz.underlying71 (z:=.string ⟨#[]⟩) (by kernel_rfl) rfl (by decide)

end Go.Proofs.YtgeaeockmadhcaaGreatDoor
