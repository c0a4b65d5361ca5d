/- Texts of this seat, laid together: MqF. -/
import Derived.Deep.DeepCutAuto
import Derived.Deep.CutRange
import Derived.Test.YtgeaeockmadhcaaGreatDoorBp15
/- The walk of roomsFault. -/
namespace Go.Proofs.YtgeaeockmadhcaaGreatDoor
set_option linter.unusedVariables false
set_option linter.unusedSimpArgs false
open Go.RowKit

theorem step_all {f : Nat → Int} {k : Nat} (h : ∀ j,j < k → f j = 0) (hk : f k = 0) : ∀ j,j < k + 1 → f j = 0:=fun j hj => by
 by_cases hj' : j < k
 ·exact h j hj'
 ·obtain rfl : j = k:=by omega
  exact hk
end Go.Proofs.YtgeaeockmadhcaaGreatDoor
