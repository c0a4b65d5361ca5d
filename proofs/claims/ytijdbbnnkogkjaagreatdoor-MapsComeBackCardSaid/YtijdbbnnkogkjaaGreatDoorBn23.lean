/- Texts of this seat, laid together: AgS. -/
import Derived.Test.YtijdbbnnkogkjaaGreatDoorBn14
import Derived.Test.YtijdbbnnkogkjaaGreatDoorBn02
import Derived.Test.YtijdbbnnkogkjaaGreatDoorBn04
/- The walks of ContainsFunc over strings, sumsFault and Some. -/
namespace Go.Proofs.YtijdbbnnkogkjaaGreatDoor
set_option linter.unusedVariables false
set_option linter.unusedSimpArgs false
open Go.RowKit Go.Sort

theorem ty_strs : SliceTy Tryz.prog 30 9 1 16:=.mk' Tryz.underlying30 (z:=.string ⟨#[]⟩) (by kernel_rfl) rfl (by decide)

end Go.Proofs.YtijdbbnnkogkjaaGreatDoor
