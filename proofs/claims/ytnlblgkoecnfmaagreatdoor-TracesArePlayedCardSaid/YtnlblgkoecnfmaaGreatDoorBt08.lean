/- Texts of this seat, laid together: Cn. -/
import Derived.Test.YtnlblgkoecnfmaaGreatDoorBt06
import Derived.Test.YtnlblgkoecnfmaaGreatDoorBt07
/- strings.Count of one byte, over lists. -/
namespace Go.Proofs.YtnlblgkoecnfmaaGreatDoor
set_option linter.unusedVariables false
set_option linter.unusedSimpArgs false
open Go.RowKit Go.Sort

theorem count_any (s : List UInt8) (c : UInt8) (w : World) :
    Calls Tryz.prog 35 #[encStr s, .string ⟨#[c]⟩] w fun e w' => e = .returned (.int .i64 (s.count c : Nat)) ∧ w' = w := by
  refine (Tryz.strings_Count_one ⟨s.toArray⟩ c w).mono ?_
  rintro e w' ⟨rfl, rfl⟩
  exact ⟨rfl, rfl⟩
end Go.Proofs.YtnlblgkoecnfmaaGreatDoor
