/- Texts of this seat, laid together: Sum AgS. -/
import Derived.Shelf.Strings.SlTrimAscii
import Derived.Test.YthchgkdhegaehaaGreatDoorBv13
import Derived.Test.YthchgkdhegaehaaGreatDoorBv03
import Derived.Test.YthchgkdhegaehaaGreatDoorBv02
/- The walks of IsSum and SumRight. -/
namespace Go.Proofs.YthchgkdhegaehaaGreatDoor
set_option linter.unusedVariables false
set_option linter.unusedSimpArgs false
open Go.RowKit Go.Sort

end Go.Proofs.YthchgkdhegaehaaGreatDoor
/- The walks of ContainsFunc over strings, sumsFault and Some. -/
namespace Go.Proofs.YthchgkdhegaehaaGreatDoor
set_option linter.unusedVariables false
set_option linter.unusedSimpArgs false
open Go.RowKit Go.Sort

theorem ty_strs : SliceTy Tryz.prog 31 9 1 16:=.mk' Tryz.underlying31 (z:=.string ⟨#[]⟩) (by kernel_rfl) rfl (by decide)

end Go.Proofs.YthchgkdhegaehaaGreatDoor
