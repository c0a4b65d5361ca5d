/- Texts of this seat, laid together: Hp. -/
import Derived.Test.YtapjahbflhingaaGreatDoorBu04
/- Plain laws of histories: the times of segments, rows, the least sums worked out from the end. No program in sight. -/
namespace Go.Proofs.YtapjahbflhingaaGreatDoor
set_option linter.unusedVariables false
set_option linter.unusedSimpArgs false

/-- The split before. -/
def pvA (l : List Int) (k : Nat) : Int := if k = 0 then 0 else l.getD (k - 1) 0
/-- One can be at the end of so many segments. -/
def goodA (l : List Int) (k : Nat) : Prop := k = 0 ∨ (k ≤ l.length ∧ l.getD (k - 1) 0 ≠ 0)
instance (l : List Int) (k : Nat) : Decidable (goodA l k) := by unfold goodA; infer_instance
end Go.Proofs.YtapjahbflhingaaGreatDoor
