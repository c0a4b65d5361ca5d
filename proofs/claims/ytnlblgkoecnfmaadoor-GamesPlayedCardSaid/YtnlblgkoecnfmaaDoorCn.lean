/- strings.Count of one byte, over lists. -/
import Derived.Test.YtnlblgkoecnfmaaDoorStr
import Derived.Test.YtnlblgkoecnfmaaDoorShelf
namespace Go.Proofs.YtnlblgkoecnfmaaDoor
set_option linter.unusedVariables false
set_option linter.unusedSimpArgs false
open Go.RowKit Go.Sort

theorem count_any (s : List UInt8) (c : UInt8) (w : World) :
    Calls Tryd.prog 28 #[encStr s, .string ⟨#[c]⟩] w fun e w' => e = .returned (.int .i64 (s.count c : Nat)) ∧ w' = w := by
  refine (Tryd.strings_Count_one ⟨s.toArray⟩ c w).mono ?_
  rintro e w' ⟨rfl, rfl⟩
  exact ⟨rfl, rfl⟩
end Go.Proofs.YtnlblgkoecnfmaaDoor
